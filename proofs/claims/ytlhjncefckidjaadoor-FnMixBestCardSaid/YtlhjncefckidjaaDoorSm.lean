/-
  MixBest, MixLeast, MixMost in the program.
-/
import Derived.Test.YtlhjncefckidjaaDoorSf
import Derived.Test.YtlhjncefckidjaaDoorPq
import Derived.Deep.DrawnRows
namespace Go.Proofs.YtlhjncefckidjaaDoor
open Go.RowKit
set_option linter.unusedVariables false
theorem made_ints (n : Nat) : madeCells #[.int .i64 0] n = (ints (List.replicate n 0)).toArray := by
  apply Array.ext_getElem?
  intro i
  by_cases h : i < n
  · simp [madeCells, ints, h, Nat.mod_one]
  · simp [madeCells, ints, h]
theorem srch_start {W : World} {lo gm gx : Nat} {A : Option Addr} {n c k : Nat} {g : Grade} (hg : (gm = lo ∧ gx = lo + 1) ∨ (gm = lo + 1 ∧ gx = lo)) (hX : Blk W gx 3 (madeCells #[.int .i64 0] k))
    (hM : Blk W gm 67 #[.slice A n c, .int .i64 g.lc, .int .i64 g.hc, .int .i64 g.lm, .int .i64 g.hm, .int .i64 g.ls, .int .i64 g.hs, .slice (some ⟨gx, 0, none⟩) k k, .slice none 0 0, .int .i64 0, .bool false]) (hz : lo + 2 ≤ W.heap.size) :
    Srch W lo gm gx A n c k g ([] ++ List.replicate k 0) ([], 0, false) := by
  refine ⟨hg, ?_, none, 0, own_nil _ _ _ _ _, ?_⟩
  · rw [made_ints] at hX
    simpa using hX
  · simpa using hM
set_option maxHeartbeats 1000000 in
set_option maxRecDepth 20000 in
theorem mixBest_any (A : Option Addr) (c : Nat) (l : List Stuff) (g1 g2 g3 g4 g5 g6 t : Int) (w : World) (hs : Sees w w.heap.size A (ints (flatS l))) (hn : l.length ≤ 1048576) :
    Calls Tryd.prog 11 #[.slice A l.length c, .agg #[.int .i64 g1, .int .i64 g2, .int .i64 g3, .int .i64 g4, .int .i64 g5, .int .i64 g6], .int .i64 t] w fun e w' => ∃ A' c', e = .returned (.tuple #[.slice A' (mixBest l ⟨g1, g2, g3, g4, g5, g6⟩ t).1.length c', .bool (mixBest l ⟨g1, g2, g3, g4, g5, g6⟩ t).2]) ∧
      Own w' w.heap.size w'.heap.size 3 1 A' (mixBest l ⟨g1, g2, g3, g4, g5, g6⟩ t).1.length c' (ints (mixBest l ⟨g1, g2, g3, g4, g5, g6⟩ t).1) ∧ Below w.heap.size w w' := by
  obtain ⟨i0, hi, hz0, hz1, hz2⟩ := info_parts infoInt
  have hmk := fun W => run_make (P := Tryd.prog) W 28 3 i0 _ Tryd.underlying28 hi hz0 .i64 .i64 l.length l.length (by omega) (by omega) (by rw [hz2]; omega) (by omega)
  simp only [Int.toNat_natCast, hz1] at hmk
  go_enter Tryd.func11, Tryd.ntmps11
  go_wp2_with fail
  have hx := boxed1 w #[.int .i64 g1, .int .i64 g2, .int .i64 g3, .int .i64 g4, .int .i64 g5, .int .i64 g6] 25
  generalize w.alloc _ = V at hx ⊢
  obtain ⟨hbW, hgB, hcB⟩ := hx
  refine (stuffsValid_any _ _ _ _ (hs.next hbW) hn).mono ?_
  rintro _ w1 ⟨rfl, hb⟩
  have hc1 : ∀ i, w1.cell? ⟨w.heap.size, i, none⟩ = _ := fun i => ((below_cells hb).1 _ i hgB).trans (hcB i)
  replace hgB : w.heap.size < w1.heap.size := Nat.lt_of_lt_of_le hgB hb.size
  replace hbW := below_next hbW hb
  clear hb hcB
  cases h1 : stuffsOk l with
  | false =>
    have e : mixBest l ⟨g1, g2, g3, g4, g5, g6⟩ t = ([], false) := by simp [mixBest, h1]
    clear hc1
    go_wp2_with fail
    go_ret2
    rw [e]
    exact ⟨none, 0, rfl, own_nil _ _ _ _ _, hbW⟩
  | true =>
  go_wp2_with fail
  refine (gradeValid_any _ _ _ _ _ _ _).mono ?_
  rintro _ w2 ⟨rfl, hb⟩
  replace hc1 : ∀ i, w2.cell? ⟨w.heap.size, i, none⟩ = _ := fun i => ((below_cells hb).1 _ i hgB).trans (hc1 i)
  replace hgB : w.heap.size < w2.heap.size := Nat.lt_of_lt_of_le hgB hb.size
  replace hbW := below_next hbW hb
  clear hb
  cases h2 : gradeOk ⟨g1, g2, g3, g4, g5, g6⟩ with
  | false =>
    have e : mixBest l ⟨g1, g2, g3, g4, g5, g6⟩ t = ([], false) := by simp [mixBest, h2]
    clear hc1
    go_wp2_with fail
    go_ret2
    rw [e]
    exact ⟨none, 0, rfl, own_nil _ _ _ _ _, hbW⟩
  | true =>
  go_wp2_with fail
  refine (within_any _ _ _ _).mono ?_
  rintro _ _ ⟨rfl, rfl⟩
  cases h3 : inB t 1 12 with
  | false =>
    have e : mixBest l ⟨g1, g2, g3, g4, g5, g6⟩ t = ([], false) := by simp [mixBest, h3]
    clear hc1
    go_wp2_with fail
    go_ret2
    rw [e]
    exact ⟨none, 0, rfl, own_nil _ _ _ _ _, hbW⟩
  | true =>
  have e : mixBest l ⟨g1, g2, g3, g4, g5, g6⟩ t = bestS l ⟨g1, g2, g3, g4, g5, g6⟩ (allM l [] t) := by simp [mixBest, h1, h2, h3]
  have hl4 := stuffs_len h1
  rw [inB_iff] at h3
  have hs2 := hs.next hbW
  clear h2
  go_wp2_with fail
  go_region_held3 (fun w' => Below w2.heap.size w2 w' ∧ ∀ b o, b < w2.heap.size → w'.cell? ⟨b, o, none⟩ = w2.cell? ⟨b, o, none⟩)
          (first | assumption | exact held_of ((Below.refl _ _).drew) | exact held_call (by assumption) (by assumption) | exact held_alloc (by assumption) _ | (refine held_of ?_; repeat (first | exact Below.refl _ _ | refine Below.drew ?_ | refine Below.alloc ?_ (by simp) _)))
          (fail)
  have hX := (Blk.made w2 3 (madeCells #[.int .i64 0] l.length)).alloc (.cells #[.slice A l.length c, .int .i64 g1, .int .i64 g2, .int .i64 g3, .int .i64 g4, .int .i64 g5, .int .i64 g6, .slice (some ⟨w2.heap.size, 0, none⟩) l.length l.length, .slice none 0 0, .int .i64 0, .bool false] 67)
  have hM := Blk.made (w2.alloc (.cells (madeCells #[.int .i64 0] l.length) 3)) 67 #[.slice A l.length c, .int .i64 g1, .int .i64 g2, .int .i64 g3, .int .i64 g4, .int .i64 g5, .int .i64 g6, .slice (some ⟨w2.heap.size, 0, none⟩) l.length l.length, .slice none 0 0, .int .i64 0, .bool false]
  have hb3 : Below w2.heap.size w2 ((w2.alloc (.cells (madeCells #[.int .i64 0] l.length) 3)).alloc (.cells #[.slice A l.length c, .int .i64 g1, .int .i64 g2, .int .i64 g3, .int .i64 g4, .int .i64 g5, .int .i64 g6, .slice (some ⟨w2.heap.size, 0, none⟩) l.length l.length, .slice none 0 0, .int .i64 0, .bool false] 67)).drew := (((Below.refl _ _).alloc (Nat.le_refl _) _).alloc (by simp) _).drew
  have hz : (w2.alloc (.cells (madeCells #[.int .i64 0] l.length) 3)).heap.size = w2.heap.size + 1 := by simp
  rw [hz] at hM
  have hS := srch_start (A := A) (n := l.length) (c := c) (g := ⟨g1, g2, g3, g4, g5, g6⟩) (lo := w2.heap.size) (.inr ⟨rfl, rfl⟩) hX.drew hM.drew (by simp)
  clear hX hM hz
  rotate_left
  have hM := (Blk.made w2 67 #[.slice A l.length c, .int .i64 g1, .int .i64 g2, .int .i64 g3, .int .i64 g4, .int .i64 g5, .int .i64 g6, .slice (some ⟨w2.heap.size + 1, 0, none⟩) l.length l.length, .slice none 0 0, .int .i64 0, .bool false]).alloc (.cells (madeCells #[.int .i64 0] l.length) 3)
  have hX := Blk.made (w2.alloc (.cells #[.slice A l.length c, .int .i64 g1, .int .i64 g2, .int .i64 g3, .int .i64 g4, .int .i64 g5, .int .i64 g6, .slice (some ⟨w2.heap.size + 1, 0, none⟩) l.length l.length, .slice none 0 0, .int .i64 0, .bool false] 67)) 3 (madeCells #[.int .i64 0] l.length)
  have hb3 : Below w2.heap.size w2 ((w2.alloc (.cells #[.slice A l.length c, .int .i64 g1, .int .i64 g2, .int .i64 g3, .int .i64 g4, .int .i64 g5, .int .i64 g6, .slice (some ⟨w2.heap.size + 1, 0, none⟩) l.length l.length, .slice none 0 0, .int .i64 0, .bool false] 67)).alloc (.cells (madeCells #[.int .i64 0] l.length) 3)).drew := (((Below.refl _ _).alloc (Nat.le_refl _) _).alloc (by simp) _).drew
  have hz : (w2.alloc (.cells #[.slice A l.length c, .int .i64 g1, .int .i64 g2, .int .i64 g3, .int .i64 g4, .int .i64 g5, .int .i64 g6, .slice (some ⟨w2.heap.size + 1, 0, none⟩) l.length l.length, .slice none 0 0, .int .i64 0, .bool false] 67)).heap.size = w2.heap.size + 1 := by simp
  rw [hz] at hX
  have hS := srch_start (A := A) (n := l.length) (c := c) (g := ⟨g1, g2, g3, g4, g5, g6⟩) (lo := w2.heap.size) (.inl ⟨rfl, rfl⟩) hX.drew hM.drew (by simp)
  clear hX hM hz
  all_goals
    generalize World.drew _ = W at *
    clear hc1
    have hcall := from_any w2.heap.size _ _ A c l.length l ⟨g1, g2, g3, g4, g5, g6⟩ h1 l [] t ([], 0, false) W rfl (by simp) (by omega) h3.2 (hs2.below hb3) hS
    rw [show ((([] : List Int).length : Nat) : Int) = 0 from rfl] at hcall
    clear h1 hmk
    go_wp2_with fail
    refine hcall.mono ?_
    rintro _ w4 ⟨rfl, hS4, on4⟩
    clear hcall hS
    obtain ⟨_, _, bA, bc, hO4, hM4⟩ := hS4
    obtain ⟨q1, q2⟩ := best_same l ⟨g1, g2, g3, g4, g5, g6⟩ (allM l [] t)
    rw [← e] at q1 q2
    rw [q1, q2] at hM4
    rw [q1] at hO4
    clear q1 q2 e
    have cM := hM4.cell
    go_wp2_with fail
    go_quiet (fail)
    go_wp2_with fail
    go_ret2
    exact ⟨bA, bc, rfl, own_lo (hO4.below (below_drewN (Below.refl _ _) _)) (by have := hbW.size; omega), below_next hbW (below_only hb3 (on4.drewN _) (Nat.le_refl _) (Nat.le_refl _))⟩
set_option maxHeartbeats 1000000 in
theorem mixLeast_any (A : Option Addr) (c : Nat) (l : List Stuff) (g1 g2 g3 g4 g5 g6 t : Int) (w : World) (hs : Sees w w.heap.size A (ints (flatS l))) (hn : l.length ≤ 1048576) :
    Calls Tryd.prog 17 #[.slice A l.length c, .agg #[.int .i64 g1, .int .i64 g2, .int .i64 g3, .int .i64 g4, .int .i64 g5, .int .i64 g6], .int .i64 t] w fun e w' => e = .returned (.int .i64 (mixLeast l ⟨g1, g2, g3, g4, g5, g6⟩ t)) ∧ Below w.heap.size w w' := by
  go_enter Tryd.func17, Tryd.ntmps17
  go_wp2_with fail
  have hx := boxed1 w #[.int .i64 g1, .int .i64 g2, .int .i64 g3, .int .i64 g4, .int .i64 g5, .int .i64 g6] 25
  generalize w.alloc _ = V at hx ⊢
  obtain ⟨hbW, hgB, hcB⟩ := hx
  go_wp2_with fail
  clear hcB
  have hsV := hs.next hbW
  refine (mixBest_any A c l g1 g2 g3 g4 g5 g6 t V hsV hn).mono ?_
  rintro _ w1 ⟨A1, c1, rfl, hO, hb⟩
  have hs1 := hsV.next hb
  have hlb : (mixBest l ⟨g1, g2, g3, g4, g5, g6⟩ t).1.length ≤ 4 := best_len
  have hbW1 := below_next hbW hb
  clear hb hsV hs
  cases hf : (mixBest l ⟨g1, g2, g3, g4, g5, g6⟩ t).2 with
  | false =>
    have e := least_none hf
    clear hf
    go_wp2_with fail
    go_ret
    exact ⟨ret_int e.symm, hbW1⟩
  | true =>
    have e := (least_found hf).1
    clear hf
    go_wp2_with fail
    refine (mixCost_any _ _ _ _ l _ _ hs1 hn hO.sees (by omega)).mono ?_
    rintro _ w2 ⟨rfl, hb⟩
    go_wp2_with fail
    go_ret
    exact ⟨ret_int e.symm, below_next hbW1 hb⟩
set_option maxHeartbeats 1000000 in
theorem mixMost_any (A : Option Addr) (c : Nat) (l : List Stuff) (g1 g2 g3 g4 g5 g6 : Int) (w : World) (hs : Sees w w.heap.size A (ints (flatS l))) (hn : l.length ≤ 1048576) :
    Calls Tryd.prog 26 #[.slice A l.length c, .agg #[.int .i64 g1, .int .i64 g2, .int .i64 g3, .int .i64 g4, .int .i64 g5, .int .i64 g6]] w fun e w' => e = .returned (.int .i64 (mixMost l ⟨g1, g2, g3, g4, g5, g6⟩)) ∧ Below w.heap.size w w' := by
  go_enter Tryd.func26, Tryd.ntmps26
  go_wp2_with fail
  have hx := boxed1 w #[.int .i64 g1, .int .i64 g2, .int .i64 g3, .int .i64 g4, .int .i64 g5, .int .i64 g6] 25
  generalize w.alloc _ = V at hx ⊢
  obtain ⟨hbW, hgB, hcB⟩ := hx
  refine (stuffsValid_any _ _ _ _ (hs.next hbW) hn).mono ?_
  rintro _ w1 ⟨rfl, hb⟩
  have hc1 : ∀ i, w1.cell? ⟨w.heap.size, i, none⟩ = _ := fun i => ((below_cells hb).1 _ i hgB).trans (hcB i)
  replace hgB : w.heap.size < w1.heap.size := Nat.lt_of_lt_of_le hgB hb.size
  replace hbW := below_next hbW hb
  clear hb hcB
  cases h1 : stuffsOk l with
  | false =>
    have e : mixMost l ⟨g1, g2, g3, g4, g5, g6⟩ = -1 := by simp [mixMost, h1]
    clear hc1
    go_wp2_with fail
    go_ret
    exact ⟨ret_int e.symm, hbW⟩
  | true =>
  go_wp2_with fail
  refine (gradeValid_any _ _ _ _ _ _ _).mono ?_
  rintro _ w2 ⟨rfl, hb⟩
  replace hc1 : ∀ i, w2.cell? ⟨w.heap.size, i, none⟩ = _ := fun i => ((below_cells hb).1 _ i hgB).trans (hc1 i)
  replace hgB : w.heap.size < w2.heap.size := Nat.lt_of_lt_of_le hgB hb.size
  replace hbW := below_next hbW hb
  clear hb
  cases h2 : gradeOk ⟨g1, g2, g3, g4, g5, g6⟩ with
  | false =>
    have e : mixMost l ⟨g1, g2, g3, g4, g5, g6⟩ = -1 := by simp [mixMost, h2]
    clear hc1
    go_wp2_with fail
    go_ret
    exact ⟨ret_int e.symm, hbW⟩
  | true =>
  have e : mixMost l ⟨g1, g2, g3, g4, g5, g6⟩ = mostTo l ⟨g1, g2, g3, g4, g5, g6⟩ 12 := by simp [mixMost, h1, h2]
  have E := Lib.hid e
  have HC := Lib.hid hc1
  clear h1 h2 e hc1
  go_wp2_with fail
  go_loopw [5] (fun i wr => ∃ k : Nat, k ≤ 12 ∧ i = .int .i64 k ∧ mostTo l ⟨g1, g2, g3, g4, g5, g6⟩ 12 = mostTo l ⟨g1, g2, g3, g4, g5, g6⟩ k ∧ Below w2.heap.size w2 wr) (fun i _ => (intOf i).toNat)
  case atStart => exact ⟨12, Nat.le_refl _, rfl, rfl, Below.refl _ _⟩
  case round =>
    obtain ⟨k, hk, rfl, hm, hb⟩ := hrel
    have Hm := Lib.hid hm
    clear hm
    cases k with
    | zero =>
      go_wp2_with fail
      go_ret
      exact ⟨ret_int (by rw [E.out, Hm.out]; rfl), below_next hbW hb⟩
    | succ k =>
      have hc1 : ∀ i, wr.cell? ⟨w.heap.size, i, none⟩ = _ := fun i => ((below_cells hb).1 _ i hgB).trans (HC.out i)
      have hsr := hs.next (below_next hbW hb)
      go_wp2_with fail
      refine (mixBest_any A c l g1 g2 g3 g4 g5 g6 _ wr hsr hn).mono ?_
      rintro _ w3 ⟨A3, c3, rfl, hO, hb3⟩
      clear hc1
      cases hf : (mixBest l ⟨g1, g2, g3, g4, g5, g6⟩ ((k : Int) + 1)).2 with
      | true =>
        have hm1 : mostTo l ⟨g1, g2, g3, g4, g5, g6⟩ (k + 1) = (k : Int) + 1 := by simp [mostTo, hf]
        clear hf
        go_wp2_with fail
        go_ret
        exact ⟨ret_int (by rw [E.out, Hm.out, hm1]), below_next hbW (below_next hb hb3)⟩
      | false =>
        have hm1 : mostTo l ⟨g1, g2, g3, g4, g5, g6⟩ (k + 1) = mostTo l ⟨g1, g2, g3, g4, g5, g6⟩ k := by simp [mostTo, hf]
        have Hm1 := Lib.hid hm1
        clear hf hm1
        go_wp2_with fail
        go_roundw
        case rel => exact ⟨k, by omega, by go_num, by rw [Hm.out, Hm1.out], below_next hb hb3⟩
        case measure => simp [intOf]
end Go.Proofs.YtlhjncefckidjaaDoor
