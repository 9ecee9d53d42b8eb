/-
  The walk of the law FnLostValid.
-/
import Derived.Test.YtdobfpdfbfaohaaDoorDn
import Derived.Test.YtdobfpdfbfaohaaDoorTb
namespace Go.Proofs.YtdobfpdfbfaohaaDoor
open Go.RowKit
set_option linter.unusedVariables false
theorem lost_zeros : lostOk (List.replicate 4 [0, 0, 0, 0]) = true := by decide
theorem lost_drop {L : List (List Int)} (h : lostOk L = true) : lostOk (L.drop 1) = false := by
  have h4 := lost_len h
  have : (L.drop 1).length ≠ 4 := by simp; omega
  simp only [lostOk, sameLen, Bool.and_eq_false_iff, decide_eq_false_iff_not]
  exact .inl this
set_option maxHeartbeats 4000000 in
theorem fnLostValid_walk (A : Option Addr) (n c : Nat) (l : List Int) (w : World) (hs : Sees w w.heap.size A (bys l)) (hl : l.length = n) (hby : ∀ z ∈ l, byteB z) (hc : n ≤ c) (hm : c ≤ maxLen) :
    Calls Tryd.prog 6 #[.slice A n c] w fun e w' => e = .returned (.bool true) ∧ Below w.heap.size w w' := by
  have hm' := hm
  unfold maxLen at hm'
  by_cases hn : n ≤ 1048576
  case neg =>
    go_enter Tryd.func6, Tryd.ntmps6
    go_wp2_with fail
    go_ret
    exact ⟨rfl, Below.refl _ _⟩
  obtain ⟨j0, ji, jz0, jz1, jz2⟩ := info_parts infoInt2
  obtain ⟨i0, hi, hz0, hz1, hz2⟩ := info_parts infoRow2
  go_enter Tryd.func6, Tryd.ntmps6
  go_wp2_with fail
  refine (drawLostValid_any A n c l _ hs hl hby hc hm).mono ?_
  rintro _ w1 ⟨L, A1, c1, hL4, hrows, hLc, rfl, hT, hb⟩
  have hrow' : ∀ x ∈ L, x.length ≤ 1048576 := fun x hx => by have := hrows x hx; omega
  have Hrow := Lib.hid hrow'
  clear hrows hrow'
  go_wp2_with fail
  refine (lostValid_any _ _ _ _ hT (by omega) Hrow.out).mono ?_
  rintro _ _ ⟨rfl, rfl⟩
  go_wp2_with fail
  refine (sLostValid_any _ _ _ _ hT (by omega) Hrow.out).mono ?_
  rintro _ _ ⟨rfl, rfl⟩
  cases hok : lostOk L with
  | false =>
    have Hok := Lib.hid hok
    clear hok
    have hG := TGrow.made w1 w1.heap.size 39 3 (Nat.le_refl _)
    have hmk := fun W => run_make (P := Tryd.prog) W 39 3 j0 _ Tryd.underlying39 ji jz0 .i64 .i64 4 4 (by omega) (by omega) (by rw [jz2]; omega) (by omega)
    simp only [show (4 : Int).toNat = 4 from rfl, jz1] at hmk
    go_wp2_with fail
    go_loopw [5, 6] (fun t5 i wr => ∃ (k g c : Nat) (hd : List (Option Addr × Nat)), k ≤ 4 ∧ i = .int .i64 k ∧ t5 = .slice (some ⟨g, 0, none⟩) k c ∧ TGrow wr w1.heap.size g 39 3 k c hd (List.replicate k [0, 0, 0, 0]) ∧ Below w1.heap.size w1 wr) (fun _ i _ => 4 - (intOf i).toNat)
    case atStart => exact ⟨0, _, _, [], by omega, rfl, rfl, hG, (Below.refl _ _).alloc (Nat.le_refl _) _⟩
    case round =>
      clear hG
      obtain ⟨k, g, c, hd, hk, rfl, rfl, hG, hb1⟩ := hrel
      have hg1 := hG.2.1
      have hg2 := hG.2.2.1
      have hzb := hb1.size
      by_cases hlt : k < 4
      · have hrow : Own (wr.alloc (.cells (madeCells #[.int .i64 0] 4) 3)) wr.heap.size (wr.heap.size + 1) 3 1 (some ⟨wr.heap.size, 0, none⟩) [(0 : Int), 0, 0, 0].length 4 (ints [0, 0, 0, 0]) := Own.mk_ (Nat.le_refl _) (by omega) (Nat.le_refl _) (by unfold maxLen; omega) (Blk.made _ _ _) (by kernel_rfl) (by kernel_rfl)
        have hG1 := (hG.alloc (.cells (madeCells #[.int .i64 0] 4) 3)).alloc (.cells #[.slice (some ⟨wr.heap.size, 0, none⟩) 4 4] 39)
        have hSh : Sees ((wr.alloc (.cells (madeCells #[.int .i64 0] 4) 3)).alloc (.cells #[.slice (some ⟨wr.heap.size, 0, none⟩) 4 4] 39)) (wr.heap.size + 1 + 1) (some ⟨wr.heap.size + 1, 0, none⟩) [.slice (some ⟨wr.heap.size, 0, none⟩) 4 4] := by
          have := sees_head (wr.alloc (.cells (madeCells #[.int .i64 0] 4) 3)) 39 (.slice (some ⟨wr.heap.size, 0, none⟩) 4 4)
          simpa using this
        go_wp2_with (at_builtin; refine wpList_app1 _ rfl (.tmp 23) (.tmp 25) _ rfl 39 i0 _ 1 24 Tryd.underlying36 hi hz0 hz1 hz2 rfl (by omega) rfl hG1.1 (by simp; omega) rfl hSh (by simp) (by simp [Value.oneCell']) (by omega) (by omega) (by omega) ?_; intro g2 c2 w6 hT2 hor hlt6 hon)
        have hG2 := hG1.snoc (l := [0, 0, 0, 0]) (hrow.alloc _) hzb (by omega) (by simp; omega) hT2 (by rcases hor with e | e <;> first | omega | (simp at e; simp; omega)) hlt6 hon
        have hb2 := below_only ((hb1.alloc hzb (.cells (madeCells #[.int .i64 0] 4) 3)).alloc (Nat.le_trans hzb (by simp)) (.cells #[.slice (some ⟨wr.heap.size, 0, none⟩) 4 4] 39)) hon hg2 (Nat.le_refl _)
        go_roundw
        case rel => exact ⟨k + 1, g2, c2, _, by omega, by go_num, rfl, by rw [List.replicate_succ']; exact hG2, hb2⟩
        case measure => simp [intOf]; omega
      · have hk4 : k = 4 := by omega
        subst hk4
        have hN := hG.tab
        replace hb := below_next hb hb1
        have hT9 := hT.next hb1
        clear hmk
        have hcall := lostValid_any (some ⟨g, 0, none⟩) c (List.replicate 4 [0, 0, 0, 0]) wr hN (by simp) (fun x hx => by rw [List.eq_of_mem_replicate hx]; simp)
        rw [lost_zeros, List.length_replicate] at hcall
        go_wp2_with fail
        refine hcall.mono ?_
        rintro _ _ ⟨rfl, rfl⟩
        go_wp2_with fail
        refine (alive_any _).mono ?_
        rintro _ w9 ⟨rfl, hb9⟩
        go_wp2_with fail
        go_ret
        exact ⟨rfl, below_next hb hb9⟩
  | true =>
    have Hok := Lib.hid hok
    clear hok
    have hG := TGrow.made w1 w1.heap.size 39 3 (Nat.le_refl _)
    have hmk := fun W => run_make (P := Tryd.prog) W 39 3 j0 _ Tryd.underlying39 ji jz0 .i64 .i64 4 4 (by omega) (by omega) (by rw [jz2]; omega) (by omega)
    simp only [show (4 : Int).toNat = 4 from rfl, jz1] at hmk
    go_wp2_with fail
    go_loopw [5, 6] (fun t5 i wr => ∃ (k g c : Nat) (hd : List (Option Addr × Nat)), k ≤ 4 ∧ i = .int .i64 k ∧ t5 = .slice (some ⟨g, 0, none⟩) k c ∧ TGrow wr w1.heap.size g 39 3 k c hd (List.replicate k [0, 0, 0, 0]) ∧ Below w1.heap.size w1 wr) (fun _ i _ => 4 - (intOf i).toNat)
    case atStart => exact ⟨0, _, _, [], by omega, rfl, rfl, hG, (Below.refl _ _).alloc (Nat.le_refl _) _⟩
    case round =>
      clear hG
      obtain ⟨k, g, c, hd, hk, rfl, rfl, hG, hb1⟩ := hrel
      have hg1 := hG.2.1
      have hg2 := hG.2.2.1
      have hzb := hb1.size
      by_cases hlt : k < 4
      · have hrow : Own (wr.alloc (.cells (madeCells #[.int .i64 0] 4) 3)) wr.heap.size (wr.heap.size + 1) 3 1 (some ⟨wr.heap.size, 0, none⟩) [(0 : Int), 0, 0, 0].length 4 (ints [0, 0, 0, 0]) := Own.mk_ (Nat.le_refl _) (by omega) (Nat.le_refl _) (by unfold maxLen; omega) (Blk.made _ _ _) (by kernel_rfl) (by kernel_rfl)
        have hG1 := (hG.alloc (.cells (madeCells #[.int .i64 0] 4) 3)).alloc (.cells #[.slice (some ⟨wr.heap.size, 0, none⟩) 4 4] 39)
        have hSh : Sees ((wr.alloc (.cells (madeCells #[.int .i64 0] 4) 3)).alloc (.cells #[.slice (some ⟨wr.heap.size, 0, none⟩) 4 4] 39)) (wr.heap.size + 1 + 1) (some ⟨wr.heap.size + 1, 0, none⟩) [.slice (some ⟨wr.heap.size, 0, none⟩) 4 4] := by
          have := sees_head (wr.alloc (.cells (madeCells #[.int .i64 0] 4) 3)) 39 (.slice (some ⟨wr.heap.size, 0, none⟩) 4 4)
          simpa using this
        go_wp2_with (at_builtin; refine wpList_app1 _ rfl (.tmp 23) (.tmp 25) _ rfl 39 i0 _ 1 24 Tryd.underlying36 hi hz0 hz1 hz2 rfl (by omega) rfl hG1.1 (by simp; omega) rfl hSh (by simp) (by simp [Value.oneCell']) (by omega) (by omega) (by omega) ?_; intro g2 c2 w6 hT2 hor hlt6 hon)
        have hG2 := hG1.snoc (l := [0, 0, 0, 0]) (hrow.alloc _) hzb (by omega) (by simp; omega) hT2 (by rcases hor with e | e <;> first | omega | (simp at e; simp; omega)) hlt6 hon
        have hb2 := below_only ((hb1.alloc hzb (.cells (madeCells #[.int .i64 0] 4) 3)).alloc (Nat.le_trans hzb (by simp)) (.cells #[.slice (some ⟨wr.heap.size, 0, none⟩) 4 4] 39)) hon hg2 (Nat.le_refl _)
        go_roundw
        case rel => exact ⟨k + 1, g2, c2, _, by omega, by go_num, rfl, by rw [List.replicate_succ']; exact hG2, hb2⟩
        case measure => simp [intOf]; omega
      · have hk4 : k = 4 := by omega
        subst hk4
        have hN := hG.tab
        replace hb := below_next hb hb1
        have hT9 := hT.next hb1
        clear hmk
        have hl4 := lost_len Hok.out
        obtain ⟨b, off, a, c', l', rfl, -⟩ := hT9.row_at (k := 0) (by omega)
        have hcall1 := lostValid_any (some ⟨b, off + 1, none⟩) (c1 - 1) (L.drop 1) wr hT9.drop1 (by simp; omega) (fun x hx => Hrow.out x (List.mem_of_mem_drop hx))
        rw [lost_drop Hok.out, List.length_drop] at hcall1
        have hi1 : (1 : Int) ≤ (L.length : Int) := by omega
        have hi2 : (L.length : Int) ≤ (c1 : Int) := by omega
        have hi3 : (1 : Int) ≤ (c1 : Int) := by omega
        have hi4 : ¬ ((c1 : Int) = 1) := by omega
        have hi5 : ¬ (c1 = 1) := by omega
        clear hl4
        go_wp2_with fail
        refine hcall1.mono ?_
        rintro _ _ ⟨rfl, rfl⟩
        clear hcall1
        have hcall := lostValid_any (some ⟨g, 0, none⟩) c (List.replicate 4 [0, 0, 0, 0]) wr hN (by simp) (fun x hx => by rw [List.eq_of_mem_replicate hx]; simp)
        rw [lost_zeros, List.length_replicate] at hcall
        go_wp2_with fail
        refine hcall.mono ?_
        rintro _ _ ⟨rfl, rfl⟩
        go_wp2_with fail
        refine (alive_any _).mono ?_
        rintro _ w9 ⟨rfl, hb9⟩
        go_wp2_with fail
        go_ret
        exact ⟨rfl, below_next hb hb9⟩
end Go.Proofs.YtdobfpdfbfaohaaDoor
