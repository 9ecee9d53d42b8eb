/-
  MixLeast, MixMost in the reference.
-/
import Derived.Test.YtlhjncefckidjaaDoorSb
namespace Go.Proofs.YtlhjncefckidjaaDoor
open Go.RowKit
set_option linter.unusedVariables false
set_option maxHeartbeats 1000000 in
theorem sMixLeast_any (A : Option Addr) (c : Nat) (l : List Stuff) (g1 g2 g3 g4 g5 g6 t : Int) (w : World) (hs : Sees w w.heap.size A (ints (flatS l))) (hn : l.length ≤ 1048576) :
    Calls Tryd.prog 24 #[.slice A l.length c, .agg #[.int .i64 g1, .int .i64 g2, .int .i64 g3, .int .i64 g4, .int .i64 g5, .int .i64 g6], .int .i64 t] w fun e w' => e = .returned (.int .i64 (mixLeast l ⟨g1, g2, g3, g4, g5, g6⟩ t)) ∧ Below w.heap.size w w' := by
  go_enter Tryd.func24, Tryd.ntmps24
  go_wp2_with fail
  have hx := boxed1 w #[.int .i64 g1, .int .i64 g2, .int .i64 g3, .int .i64 g4, .int .i64 g5, .int .i64 g6] 25
  generalize w.alloc _ = V at hx ⊢
  obtain ⟨hbW, hgB, hcB⟩ := hx
  go_wp2_with fail
  clear hcB
  have hsV := hs.next hbW
  refine (sMixBest_any A c l g1 g2 g3 g4 g5 g6 t V hsV hn).mono ?_
  rintro _ w1 ⟨A1, c1, rfl, hO, hb⟩
  have hs1 := hsV.next hb
  have hlb : (mixBest l ⟨g1, g2, g3, g4, g5, g6⟩ t).1.length ≤ 4 := best_len
  have hbW1 := below_next hbW hb
  clear hb hsV hs
  cases hf : (mixBest l ⟨g1, g2, g3, g4, g5, g6⟩ t).2 with
  | false =>
    have e := least_none hf
    clear hf
    go_wp2_with fail
    go_ret
    exact ⟨ret_int e.symm, hbW1⟩
  | true =>
    have e := (least_found hf).1
    clear hf
    go_wp2_with fail
    refine (sMixCost_any _ _ _ _ l _ _ hs1 hn hO.sees (by omega)).mono ?_
    rintro _ w2 ⟨rfl, hb⟩
    go_wp2_with fail
    go_ret
    exact ⟨ret_int e.symm, below_next hbW1 hb⟩
set_option maxHeartbeats 1000000 in
theorem sMixMost_any (A : Option Addr) (c : Nat) (l : List Stuff) (g1 g2 g3 g4 g5 g6 : Int) (w : World) (hs : Sees w w.heap.size A (ints (flatS l))) (hn : l.length ≤ 1048576) :
    Calls Tryd.prog 27 #[.slice A l.length c, .agg #[.int .i64 g1, .int .i64 g2, .int .i64 g3, .int .i64 g4, .int .i64 g5, .int .i64 g6]] w fun e w' => e = .returned (.int .i64 (mixMost l ⟨g1, g2, g3, g4, g5, g6⟩)) ∧ Below w.heap.size w w' := by
  go_enter Tryd.func27, Tryd.ntmps27
  go_wp2_with fail
  have hx := boxed1 w #[.int .i64 g1, .int .i64 g2, .int .i64 g3, .int .i64 g4, .int .i64 g5, .int .i64 g6] 25
  generalize w.alloc _ = V at hx ⊢
  obtain ⟨hbW, hgB, hcB⟩ := hx
  refine (sStuffsValid_any _ _ _ _ (hs.next hbW) hn).mono ?_
  rintro _ w1 ⟨rfl, hb⟩
  have hc1 : ∀ i, w1.cell? ⟨w.heap.size, i, none⟩ = _ := fun i => ((below_cells hb).1 _ i hgB).trans (hcB i)
  replace hgB : w.heap.size < w1.heap.size := Nat.lt_of_lt_of_le hgB hb.size
  replace hbW := below_next hbW hb
  clear hb hcB
  cases h1 : stuffsOk l with
  | false =>
    have e : mixMost l ⟨g1, g2, g3, g4, g5, g6⟩ = -1 := by simp [mixMost, h1]
    clear hc1
    go_wp2_with fail
    go_ret
    exact ⟨ret_int e.symm, hbW⟩
  | true =>
  go_wp2_with fail
  refine (sGradeValid_any _ _ _ _ _ _ _).mono ?_
  rintro _ w2 ⟨rfl, hb⟩
  replace hc1 : ∀ i, w2.cell? ⟨w.heap.size, i, none⟩ = _ := fun i => ((below_cells hb).1 _ i hgB).trans (hc1 i)
  replace hgB : w.heap.size < w2.heap.size := Nat.lt_of_lt_of_le hgB hb.size
  replace hbW := below_next hbW hb
  clear hb
  cases h2 : gradeOk ⟨g1, g2, g3, g4, g5, g6⟩ with
  | false =>
    have e : mixMost l ⟨g1, g2, g3, g4, g5, g6⟩ = -1 := by simp [mixMost, h2]
    clear hc1
    go_wp2_with fail
    go_ret
    exact ⟨ret_int e.symm, hbW⟩
  | true =>
  have e : mixMost l ⟨g1, g2, g3, g4, g5, g6⟩ = mostTo l ⟨g1, g2, g3, g4, g5, g6⟩ 12 := by simp [mixMost, h1, h2]
  have E := Lib.hid e
  have HC := Lib.hid hc1
  clear h1 h2 e hc1
  go_wp2_with fail
  go_loopw [5] (fun i wr => ∃ k : Nat, k ≤ 12 ∧ i = .int .i64 k ∧ mostTo l ⟨g1, g2, g3, g4, g5, g6⟩ 12 = mostTo l ⟨g1, g2, g3, g4, g5, g6⟩ k ∧ Below w2.heap.size w2 wr) (fun i _ => (intOf i).toNat)
  case atStart => exact ⟨12, Nat.le_refl _, rfl, rfl, Below.refl _ _⟩
  case round =>
    obtain ⟨k, hk, rfl, hm, hb⟩ := hrel
    have Hm := Lib.hid hm
    clear hm
    cases k with
    | zero =>
      go_wp2_with fail
      go_ret
      exact ⟨ret_int (by rw [E.out, Hm.out]; rfl), below_next hbW hb⟩
    | succ k =>
      have hc1 : ∀ i, wr.cell? ⟨w.heap.size, i, none⟩ = _ := fun i => ((below_cells hb).1 _ i hgB).trans (HC.out i)
      have hsr := hs.next (below_next hbW hb)
      go_wp2_with fail
      refine (sMixBest_any A c l g1 g2 g3 g4 g5 g6 _ wr hsr hn).mono ?_
      rintro _ w3 ⟨A3, c3, rfl, hO, hb3⟩
      clear hc1
      cases hf : (mixBest l ⟨g1, g2, g3, g4, g5, g6⟩ ((k : Int) + 1)).2 with
      | true =>
        have hm1 : mostTo l ⟨g1, g2, g3, g4, g5, g6⟩ (k + 1) = (k : Int) + 1 := by simp [mostTo, hf]
        clear hf
        go_wp2_with fail
        go_ret
        exact ⟨ret_int (by rw [E.out, Hm.out, hm1]), below_next hbW (below_next hb hb3)⟩
      | false =>
        have hm1 : mostTo l ⟨g1, g2, g3, g4, g5, g6⟩ (k + 1) = mostTo l ⟨g1, g2, g3, g4, g5, g6⟩ k := by simp [mostTo, hf]
        have Hm1 := Lib.hid hm1
        clear hf hm1
        go_wp2_with fail
        go_roundw
        case rel => exact ⟨k, by omega, by go_num, by rw [Hm.out, Hm1.out], below_next hb hb3⟩
        case measure => simp [intOf]
end Go.Proofs.YtlhjncefckidjaaDoor
