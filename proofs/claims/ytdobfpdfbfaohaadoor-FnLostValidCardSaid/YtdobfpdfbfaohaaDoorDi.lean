/-
  Contracts of drawn rows of heats.
-/
import Derived.Test.YtdobfpdfbfaohaaDoorDh
import Derived.Test.YtdobfpdfbfaohaaDoorCt
namespace Go.Proofs.YtdobfpdfbfaohaaDoor
open Go.RowKit
set_option linter.unusedVariables false
section
variable {w w' w'' : World} {lo hi lo' hi' size n c : Nat} {t : TypeId} {A : Option Addr} {xs : List Value}
/-- What turned new blocks alone has turned nothing of the old ones. -/
theorem Only.fresh (h : Only lo hi w w') (k : Only lo' hi' w' w'') (hl : w.heap.size ≤ lo') : Only lo hi w w'' :=
  ⟨k.os.trans h.os, k.tape.trans h.tape, k.output.trans h.output, Nat.le_trans h.size k.size, fun i hi' hr => (k.block i (Nat.lt_of_lt_of_le hi' h.size) (by omega)).trans (h.block i hi' hr)⟩
end
theorem infoHeat2 : (Tryd.prog.info? 30).map (fun i => (i.zero, i.size, i.bytes)) = some (some (.agg #[.int .i64 0, .int .i64 0, .int .i64 0]), 3, 24) := by kernel_rfl
theorem sees_heat (w : World) (t : TypeId) (a b c : Int) : Sees (w.alloc (.cells #[.int .i64 a, .int .i64 b, .int .i64 c] t)) (w.heap.size + 1) (some ⟨w.heap.size, 0, none⟩) (ints (flatH [⟨a, b, c⟩])) := by
  refine .inr ⟨w.heap.size, 0, rfl, by omega, fun j u hu => ?_⟩
  rw [(Blk.made w t #[.int .i64 a, .int .i64 b, .int .i64 c]).cell]
  match j, hu with
  | 0, hu => simpa [ints, flatH] using hu
  | 1, hu => simpa [ints, flatH] using hu
  | 2, hu => simpa [ints, flatH] using hu
  | j + 3, hu => simp [ints, flatH] at hu
theorem own_heat (w : World) (t : TypeId) (a b c : Int) : Own (w.alloc (.cells #[.int .i64 a, .int .i64 b, .int .i64 c] t)) w.heap.size (w.heap.size + 1) t 3 (some ⟨w.heap.size, 0, none⟩) 1 1 (ints (flatH [⟨a, b, c⟩])) :=
  Own.mk_ (Nat.le_refl _) (by omega) (Nat.le_refl _) (by unfold maxLen; omega) (Blk.made _ _ _) (by simp) (by simp [ints, flatH])
theorem made21s : (madeCells #[.int .i64 0, .int .i64 0, .int .i64 0] 21).size = 7 * 3 := by kernel_rfl
theorem made21 : (madeCells #[.int .i64 0, .int .i64 0, .int .i64 0] 21).toList.take (7 * 3) = ints (flatH (List.replicate 7 ⟨0, 0, 0⟩)) := by kernel_rfl
/-- A row of heats is drawn. -/
def DrewHs (w : World) (B r p : Nat) (e : Ending) (w' : World) : Prop :=
  ∃ (l : List Heat) (A : Option Addr) (c p' : Nat), (∀ h ∈ l, smallH h) ∧ l.length ≤ 7 ∧ p' ≤ p + 60 ∧ e = .returned (.slice A l.length c) ∧ Own w' w.heap.size w'.heap.size 30 3 A l.length c (ints (flatH l)) ∧ Rd w' B r p' ∧ Only r (r + 1) w w'
set_option maxHeartbeats 4000000 in
theorem l20Heats_any (B r p n : Nat) (w : World) (h : Rd w B r p) (hp : p ≤ 50000) (hn' : n ≤ 1000000) :
    Calls Tryd.prog 56 #[.pointer (some ⟨r, 0, none⟩), .int .i64 n] w (DrewHs w B r p) := by
  have hrw := h.lt
  have hBr := h.le
  obtain ⟨i0, hi, hz0, hz1, hz2⟩ := info_parts infoHeat2
  go_enter Tryd.func56, Tryd.ntmps56
  have hQ := own_made w 30 3
  have hR := h.alloc (.cells #[] 30)
  have hO : Only r (r + 1) w (w.alloc (.cells #[] 30)) := (Only.refl _ _ _).alloc _
  replace hQ := own_hi hQ (show w.heap.size + 1 ≤ (w.alloc (.cells #[] 30)).heap.size by simp)
  go_wp2_with fail
  generalize w.alloc _ = W at hQ hR hO ⊢
  refine (pick_any B r _ 6 _ hR (by omega) (by omega) (by omega)).mono ?_
  rintro _ w1 ⟨v1, hv1, rfl, hR1, hO1⟩
  replace hQ := own_hi (hQ.only hO1 (by omega)) hO1.size
  replace hO := hO.trans hO1
  clear hR hO1
  go_wp2_with fail
  go_loopw [5, 6] (fun u i wr => ∃ (j : Nat) (l : List Heat) (A : Option Addr) (c p' : Nat), l.length + j ≤ 5 ∧ u = .slice A l.length c ∧ i = .int .i64 j ∧ (∀ h ∈ l, smallH h) ∧ p' + 6 * j ≤ p + 31 ∧ Own wr w.heap.size wr.heap.size 30 3 A l.length c (ints (flatH l)) ∧ Rd wr B r p' ∧ Only r (r + 1) w wr) (fun _ i _ => (intOf i).toNat)
  case atStart => exact ⟨v1, [], _, _, p + 1, by simp; omega, rfl, rfl, by simp, by omega, hQ, hR1, hO⟩
  case round =>
    clear hQ hR1 hO
    obtain ⟨j, l, A, c, p', hlj, rfl, rfl, hl, hp', hQ, hR, hO⟩ := hrel
    have Hl := Lib.hid hl
    clear hl
    by_cases hj : 0 < j
    · go_wp2_with fail
      refine (l20Heat_any B r _ 0 _ hR (by omega) (by omega)).mono ?_
      rintro _ w2 ⟨s, p2, hsm, hp2, rfl, hR2, hO1⟩
      replace hQ := own_hi (hQ.only hO1 (by omega)) hO1.size
      replace hO := hO.trans hO1
      clear hR hO1
      go_wp2_with (at_builtin; refine wpList_app _ rfl (.tmp 14) (.tmp 17) _ rfl 30 i0 _ 3 24 Tryd.underlying33 hi hz0 hz1 hz2 rfl (by omega) rfl (hQ.alloc _) rfl (sees_heat _ _ _ _ _) (by simp [ints, flatH]) (one_ints _) (by omega) (by omega) (by have := hO.size; simp; omega) ?_; intro A2 c2 w2' hQ2 hon)
      have hz := hO.size
      have hR3 := (hR2.alloc (.cells #[.int .i64 s.k, .int .i64 s.t, .int .i64 s.r] 30)).only hon (by omega) (by omega)
      have hO3 := (hO.alloc (.cells #[.int .i64 s.k, .int .i64 s.t, .int .i64 s.r] 30)).fresh hon (Nat.le_refl _)
      go_roundw
      case rel =>
        refine ⟨j - 1, l ++ [s], A2, c2, p2, by simp; omega, by simp, by go_num, ?_, by omega, ?_, hR3, hO3⟩
        · intro x hx
          rcases List.mem_append.1 hx with hx | hx
          · exact Hl.out x hx
          · rw [List.mem_singleton.1 hx]; exact hsm
        · rw [flatH_append, ints_append, List.length_append]; exact hQ2
      case measure => simp [intOf]; omega
    · go_wp2_with fail
      refine (odd_any B r _ n _ hR (by omega) hn').mono ?_
      rintro _ w2 ⟨b, p6, hp6, rfl, hR1, hO1⟩
      replace hQ := own_hi (hQ.only hO1 (by omega)) hO1.size
      replace hO := hO.trans hO1
      clear hR hO1
      cases b with
      | false =>
        go_wp2_with fail
        go_ret
        exact ⟨l, A, c, p6, Hl.out, by omega, by omega, rfl, hQ, hR1, hO⟩
      | true =>
        go_wp2_with fail
        refine (pick_any B r _ 2 _ hR1 (by omega) (by omega) (by omega)).mono ?_
        rintro _ w3 ⟨v, hv, rfl, hR, hO1⟩
        replace hQ := own_hi (hQ.only hO1 (by omega)) hO1.size
        replace hO := hO.trans hO1
        clear hR1 hO1
        have hv2 : v = 0 ∨ v = 1 := by omega
        clear hv
        rcases hv2 with rfl | rfl
        · have hmk := fun W => run_make (P := Tryd.prog) W 33 30 i0 _ Tryd.underlying33 hi hz0 .i64 .i64 7 7 (by omega) (by omega) (by rw [hz2]; omega) (by omega)
          simp only [show (7 : Int).toNat = 7 from rfl, hz1] at hmk
          go_wp2_with fail
          go_ret
          have hz := hO.size
          refine ⟨List.replicate 7 ⟨0, 0, 0⟩, _, _, _, ?_, by simp, ?_, rfl, ?_, hR.alloc _, hO.alloc _⟩
          · intro x hx
            rw [List.eq_of_mem_replicate hx]
            unfold smallH; simp only; omega
          · omega
          · exact Own.mk_ hz (by simp) (Nat.le_refl _) (by unfold maxLen; omega) (Blk.made _ _ _) made21s made21
        · go_wp2_with fail
          refine (l20Heat_any B r _ 1 _ hR (by omega) (by omega)).mono ?_
          rintro _ w4 ⟨s, p2, hsm, hp2, rfl, hR2, hO1⟩
          replace hQ := own_hi (hQ.only hO1 (by omega)) hO1.size
          replace hO := hO.trans hO1
          clear hR hO1
          have hz := hO.size
          have hS := hQ.sees
          go_wp2_with (at_builtin; refine wpList_app _ rfl (.tmp 28) (.tmp 29) _ rfl 30 i0 _ 3 24 Tryd.underlying33 hi hz0 hz1 hz2 rfl (by omega) rfl (own_heat _ _ _ _ _) rfl (hS.below ((Below.refl _ _).alloc (Nat.le_refl _) _)) (by rw [ints_length, flatH_length]) (one_ints _) (by omega) (by omega) (by simp) ?_; intro A2 c2 w2' hQ2 hon)
          have hR3 := (hR2.alloc (.cells #[.int .i64 s.k, .int .i64 s.t, .int .i64 s.r] 30)).only hon (by omega) (by omega)
          have hO3 := (hO.alloc (.cells #[.int .i64 s.k, .int .i64 s.t, .int .i64 s.r] 30)).fresh hon hz
          go_ret
          refine ⟨[s] ++ l, A2, c2, p2, ?_, by simp; omega, by omega, ?_, ?_, hR3, hO3⟩
          · intro x hx
            rcases List.mem_append.1 hx with hx | hx
            · rw [List.mem_singleton.1 hx]; exact hsm
            · exact Hl.out x hx
          · exact ret_slice (by simp; omega)
          · rw [flatH_append, ints_append, List.length_append]; exact own_lo hQ2 hz
/-- Heats are drawn out of a code. -/
def DrawnHeats (w : World) (e : Ending) (w' : World) : Prop :=
  ∃ (l : List Heat) (A : Option Addr) (c : Nat), (∀ h ∈ l, smallH h) ∧ l.length ≤ 7 ∧ e = .returned (.slice A l.length c) ∧ Own w' w.heap.size w'.heap.size 30 3 A l.length c (ints (flatH l)) ∧ Below w.heap.size w w'
theorem drawHeatsValid_any (A : Option Addr) (n c : Nat) (l : List Int) (w : World) (hs : Sees w w.heap.size A (bys l)) (hl : l.length = n) (hby : ∀ z ∈ l, byteB z) (hc : n ≤ c) (hm : c ≤ maxLen) :
    Calls Tryd.prog 21 #[.slice A n c] w (DrawnHeats w) := by
  go_enter Tryd.func21, Tryd.ntmps21
  go_wp2_with fail
  refine (l20Open_any A n c l _ hs hl hby hc hm).mono ?_
  rintro _ w1 ⟨rfl, hR, hb⟩
  go_wp2_with fail
  refine (l20Heats_any _ _ _ 2 _ hR (by omega) (by omega)).mono ?_
  rintro _ w2 ⟨s, A2, c2, p', hsm, hlen, hp', rfl, hQ, hR2, hO⟩
  go_wp2_with fail
  go_ret
  exact ⟨s, A2, c2, hsm, hlen, rfl, own_lo hQ hb.size, below_only hb hO (Nat.le_refl _) (Nat.le_refl _)⟩
end Go.Proofs.YtdobfpdfbfaohaaDoor
