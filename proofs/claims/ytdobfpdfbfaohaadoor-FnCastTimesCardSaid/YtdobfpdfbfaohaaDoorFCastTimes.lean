/-
  The walk of the law FnCastTimes.
-/
import Derived.Test.YtdobfpdfbfaohaaDoorDk
import Derived.Test.YtdobfpdfbfaohaaDoorPl
namespace Go.Proofs.YtdobfpdfbfaohaaDoor
open Go.RowKit
set_option linter.unusedVariables false
set_option maxHeartbeats 4000000 in
theorem fnCastTimes_walk (A : Option Addr) (n c : Nat) (l : List Int) (w : World) (hs : Sees w w.heap.size A (bys l)) (hl : l.length = n) (hby : ∀ z ∈ l, byteB z) (hc : n ≤ c) (hm : c ≤ maxLen) :
    Calls Tryd.prog 8 #[.slice A n c] w fun e w' => e = .returned (.bool true) ∧ Below w.heap.size w w' := by
  have hm' := hm
  unfold maxLen at hm'
  by_cases hn : n ≤ 1048576
  case neg =>
    go_enter Tryd.func8, Tryd.ntmps8
    go_wp2_with fail
    go_ret
    exact ⟨rfl, Below.refl _ _⟩
  obtain ⟨j0, ji, jz0, jz1, jz2⟩ := info_parts infoInt2
  go_enter Tryd.func8, Tryd.ntmps8
  go_wp2_with fail
  refine (drawCastTimes_any A n c l _ hs hl hby hc hm).mono ?_
  rintro _ w1 ⟨hts, A1, c1, s, hsm, hlen, hsc, rfl, hQ, hb⟩
  clear hsm
  obtain ⟨f, s⟩ := s
  unfold smallC at hsc
  simp only at hsc
  have hB := Blk.made w1 24 #[.int .i64 f, .int .i64 s]
  replace hQ := own_hi (hQ.alloc (.cells #[.int .i64 f, .int .i64 s] 24)) (show w1.heap.size ≤ (w1.alloc (.cells #[.int .i64 f, .int .i64 s] 24)).heap.size by simp)
  replace hb := hb.alloc hb.size (.cells #[.int .i64 f, .int .i64 s] 24)
  go_wp2_with fail
  generalize w1.alloc _ = W at hB hb hQ ⊢
  refine (castTimes_any _ _ _ _ hQ.sees (by omega) hQ.cap _ _).mono ?_
  rintro _ w2 ⟨A2, c2, rfl, hT, hb1⟩
  replace hQ := own_hi (hQ.below hb1) hb1.size
  replace hB := hB.below hb1 hB.lt
  replace hb := below_next hb hb1
  clear hb1
  have hT7 := castTimes_le hts ⟨f, s⟩
  have c3 := hB.cell
  go_wp2_with fail
  clear c3
  refine (sCastTimes_any _ _ _ _ hQ.sees (by omega) _ _).mono ?_
  rintro _ w3 ⟨A3, c3, rfl, hT3, hb1⟩
  replace hQ := own_hi (hQ.below hb1) hb1.size
  replace hT := own_hi (hT.below hb1) hb1.size
  replace hB := hB.below hb1 hB.lt
  replace hb := below_next hb hb1
  clear hb1
  obtain ⟨T, HT⟩ : ∃ T, T = castTimes hts ⟨f, s⟩ := ⟨_, rfl⟩
  rw [← HT] at hT hT3 hT7 ⊢
  replace HT := Lib.hid HT
  go_wp2_with fail
  refine (sameInts_same _ _ _ _ _ _ hT.sees hT3.sees (by omega)).mono ?_
  rintro _ w4 ⟨rfl, hb1⟩
  clear hT3
  replace hQ := own_hi (hQ.below hb1) hb1.size
  replace hT := own_hi (hT.below hb1) hb1.size
  replace hB := hB.below hb1 hB.lt
  replace hb := below_next hb hb1
  clear hb1
  go_wp2_with fail
  refine (sHeatsValid_any _ _ _ _ hQ.sees (by omega)).mono ?_
  rintro _ w5 ⟨rfl, hb1⟩
  replace hQ := own_hi (hQ.below hb1) hb1.size
  replace hT := own_hi (hT.below hb1) hb1.size
  replace hB := hB.below hb1 hB.lt
  replace hb := below_next hb hb1
  clear hb1
  cases hok : heatsOk hts with
  | false =>
    have hT0 : T = [] := by rw [HT.out]; simp [castTimes, hok]
    subst hT0
    go_wp2_with fail
    refine (alive_any _).mono ?_
    rintro _ w9 ⟨rfl, hb1⟩
    go_wp2_with fail
    go_ret
    exact ⟨rfl, below_next hb hb1⟩
  | true =>
  have c3 := hB.cell
  go_wp2_with fail
  clear c3
  refine (sCasterValid_any _ _ _).mono ?_
  rintro _ w6 ⟨rfl, hb1⟩
  replace hQ := own_hi (hQ.below hb1) hb1.size
  replace hT := own_hi (hT.below hb1) hb1.size
  replace hB := hB.below hb1 hB.lt
  replace hb := below_next hb hb1
  clear hb1
  cases hcs : casterOk ⟨f, s⟩ with
  | false =>
    have hT0 : T = [] := by rw [HT.out]; simp [castTimes, hcs]
    subst hT0
    go_wp2_with fail
    refine (alive_any _).mono ?_
    rintro _ w9 ⟨rfl, hb1⟩
    go_wp2_with fail
    go_ret
    exact ⟨rfl, below_next hb hb1⟩
  | true =>
  have hTl : T.length = hts.length + 1 := by rw [HT.out]; exact castTimes_len hok hcs
  have HTl := Lib.hid hTl
  clear hTl
  have Hok := Lib.hid hok
  have Hcs := Lib.hid hcs
  clear hok hcs
  go_wp2_with fail
  go_loopw [6] (fun i wr => ∃ k : Nat, k ≤ T.length ∧ i = .int .i64 k ∧ Below w6.heap.size w6 wr) (fun i _ => T.length - (intOf i).toNat)
  case atStart => exact ⟨0, Nat.zero_le _, rfl, Below.refl _ _⟩
  case round =>
    obtain ⟨k, hk, rfl, hb1⟩ := hrel
    have hb6 := hb1
    replace hQ := own_hi (hQ.below hb1) hb1.size
    replace hT := own_hi (hT.below hb1) hb1.size
    replace hB := hB.below hb1 hB.lt
    replace hb := below_next hb hb1
    clear hb1
    by_cases hlt : k < T.length
    · have hx := List.getElem?_eq_getElem hlt
      generalize T[k] = x at hx
      have hS := hT.sees
      have hxb : 0 ≤ x ∧ x ≤ 9999 := by
        have h1 := castTimes_ok Hok.out Hcs.out
        rw [← HT.out] at h1
        exact minute_bounds (castOk_parts h1).2.2.2.1 hx
      have hfalse : castOk hts ⟨f, s⟩ (T.set k (x - 1)) = false := by
        have h1 := castTimes_least Hok.out Hcs.out k x (by rw [← HT.out]; exact hx)
        rwa [← HT.out] at h1
      have Hfalse := Lib.hid hfalse
      clear hfalse
      have hBl := hB.lt
      go_wp2_with (at_builtin; refine wpList_app _ rfl (.tmp 45) (.tmp 46) _ rfl 3 j0 _ 1 8 Tryd.underlying39 ji jz0 jz1 jz2 rfl (by omega) rfl (own_made _ _ _) rfl (hS.below ((Below.refl _ _).alloc (Nat.le_refl _) _)) (by rw [ints_length, Nat.mul_one]) (one_ints _) (by omega) (by omega) (by simp) ?_; intro A5 c5 w8 hX hon; replace hX := own_zero' hX; obtain ⟨g, rfl, hg1, hg2, hg3, cx, fx, hput⟩ := hX.num_at hx; have Hput := Lib.hid hput; clear hput; rw [Nat.zero_add]; have hcap := hX.cap; have hB8 := (hB.alloc (.cells #[] 3)).only hon (.inl hBl); have c8 := hB8.cell; have hng : w1.heap.size ≠ g := (by omega))
      have hX8 := Hput.out (x - 1)
      have hQ8 := ((hQ.alloc (.cells #[] 3)).only hon (.inl (Nat.le_refl _))).setCell (p := ⟨g, k, none⟩) (.inr hg1) (.int .i64 (x - 1))
      have hb8 : Below w6.heap.size w6 (w8.setCell ⟨g, k, none⟩ (.int .i64 (x - 1))) := (below_only (hb6.alloc hb6.size (.cells #[] 3)) hon hb6.size (Nat.le_refl _)).setCell (p := ⟨g, k, none⟩) (Nat.le_trans hb6.size hg1) _
      have hcall := castOk_any _ _ c1 c5 hts (T.set k (x - 1)) _ hQ8.sees (by omega) hX8.sees (by rw [List.length_set]; omega) f s
      rw [Hfalse.out, List.length_set] at hcall
      clear c8
      refine hcall.mono ?_
      rintro _ w9 ⟨rfl, hb1⟩
      replace hb8 := below_next hb8 hb1
      clear hcall hb1
      go_wp2_with fail
      go_roundw
      case rel => exact ⟨k + 1, by omega, by go_num, hb8⟩
      case measure => simp [intOf]; omega
    · have c3 := hB.cell
      have hTl := HTl.out
      have hne : ((T.length : Int) == (hts.length : Int) + 1) = true := by rw [beq_iff_eq]; omega
      have hk1 : castOk hts ⟨f, s⟩ T = true := by rw [HT.out]; exact castTimes_ok Hok.out Hcs.out
      have Hk1 := Lib.hid hk1
      clear hk1 hTl
      go_wp2_with fail
      clear c3
      refine (castOk_any _ _ _ _ _ _ _ hQ.sees (by omega) hT.sees (by omega) _ _).mono ?_
      rintro _ w9 ⟨rfl, hb1⟩
      rw [Hk1.out]
      replace hb := below_next hb hb1
      go_wp2_with fail
      go_ret
      exact ⟨rfl, hb⟩
end Go.Proofs.YtdobfpdfbfaohaaDoor
