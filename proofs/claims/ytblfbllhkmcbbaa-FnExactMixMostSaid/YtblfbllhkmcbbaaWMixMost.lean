/-
  The walk of FnExactMixMost: it returns true and writes nothing that was there.
-/
import Derived.Test.YtblfbllhkmcbbaaSm
import Derived.Test.YtblfbllhkmcbbaaSc
namespace Go.Proofs.Ytblfbllhkmcbbaa
open Go.RowKit
set_option linter.unusedVariables false
set_option maxHeartbeats 2000000 in
theorem exactMixMost_walk (A0 : Option Addr) (n0 c0 : Nat) (l : List Stuff) (g1 g2 g3 g4 g5 g6 : Int) (w : World) (hs0 : Sees w w.heap.size A0 (ints (flatS l))) (hl0 : l.length = n0) (hf0 : ∀ z ∈ flatS l, fits z) (hc0 : n0 ≤ c0) (hm0 : c0 ≤ maxLen) (hf1 : ∀ z ∈ [g1, g2, g3, g4, g5, g6], fits z) :
    Calls Try.prog 6 #[.slice A0 n0 c0, .agg #[.int .i64 g1, .int .i64 g2, .int .i64 g3, .int .i64 g4, .int .i64 g5, .int .i64 g6]] w fun e w' => e = .returned (.bool true) ∧ Below w.heap.size w w' := by
  subst hl0
  by_cases hn0 : l.length ≤ 1048576
  case neg =>
    have hq := hm0
    unfold maxLen at hq
    go_enter Try.func6, Try.ntmps6
    go_wp2_with fail
    refine (szStuffS_big _ _ _ _ _ (by omega) (by omega) (by omega)).mono ?_
    rintro _ _ ⟨rfl, rfl⟩
    go_wp2_with fail
    go_ret
    exact ⟨rfl, (Below.refl _ _).alloc (Nat.le_refl _) _⟩
  go_enter Try.func6, Try.ntmps6
  go_wp2_with fail
  refine (szStuffS_ok _ _ _ _ _ (by omega) (by omega)).mono ?_
  rintro _ _ ⟨rfl, rfl⟩
  go_wp2_with fail
  have hx := boxed1 w #[.int .i64 g1, .int .i64 g2, .int .i64 g3, .int .i64 g4, .int .i64 g5, .int .i64 g6] 23
  generalize w.alloc _ = V at hx ⊢
  obtain ⟨hbW, hgB, hcB⟩ := hx
  replace hs0 := hs0.next hbW
  have hbV : Below V.heap.size V V := Below.refl _ _
  have hcU : ∀ i, V.cell? ⟨w.heap.size, i, none⟩ = _ := fun i => ((below_cells hbV).1 _ i hgB).trans (hcB i)
  have hgU : w.heap.size < V.heap.size := Nat.lt_of_lt_of_le hgB hbV.size
  go_region_held3 (fun w' => Below V.heap.size V w' ∧ ∀ b o, b < V.heap.size → w'.cell? ⟨b, o, none⟩ = V.cell? ⟨b, o, none⟩)
    (first | exact held_of ((Below.refl _ _).drew) | exact held_call (by assumption) (by assumption))
    (first
      | (go_at_call 16; refine (toStuffS_any _ _ _ _ (hs0.next (below_next hbV (And.left (by assumption)))) hn0).mono ?_; rintro _ u1oW ⟨As0oW, cs0oW, rfl, ho, hbq⟩; have s0oW := Sees.of_own ho; have ks0oW := Own.cap (Own.of ho); clear ho)
      | (go_at_call 11; refine (toGrade_any _ _ _ _ _ _ _).mono ?_; rintro _ u2oW ⟨rfl, hbq⟩; replace s0oW := s0oW.next hbq)
      | (go_at_call 25; refine (sMixMost_any _ _ l _ _ _ _ _ _ _ s0oW hn0).mono ?_; rintro _ w1 ⟨rfl, hbq⟩))
  have hb : Below V.heap.size V w1 := And.left (by assumption)
  clear hcU hgU
  clear s0oW ks0oW
  have z0 := hb.size
  replace hbV := below_next hbV hb
  clear hb
  go_wp2_with fail
  refine (toStuffS_any _ _ _ _ (hs0.next hbV) hn0).mono ?_
  rintro _ w2 ⟨Ax0, cx0, rfl, ho, hb⟩
  have x0 := Own.of ho
  clear ho
  have z1 := hb.size
  replace hbV := below_next hbV hb
  clear hb
  have hcU : ∀ i, w2.cell? ⟨w.heap.size, i, none⟩ = _ := fun i => ((below_cells hbV).1 _ i hgB).trans (hcB i)
  go_wp2_with fail
  clear hcU
  refine (toGrade_any _ _ _ _ _ _ _).mono ?_
  rintro _ w3 ⟨rfl, hb⟩
  replace x0 := x0.below hb
  have z2 := hb.size
  replace hbV := below_next hbV hb
  clear hb
  go_wp2_with fail
  refine (mixMost_any _ _ l _ _ _ _ _ _ _ x0.sees hn0).mono ?_
  rintro _ w4 ⟨rfl, hb⟩
  replace x0 := x0.below hb
  have z3 := hb.size
  replace hbV := below_next hbV hb
  clear hb
  go_wp2_with fail
  refine (toStuffS_any _ _ _ _ (hs0.next hbV) hn0).mono ?_
  rintro _ w5 ⟨Ay0, cy0, rfl, ho, hb⟩
  have y0 := Own.of ho
  clear ho
  replace x0 := x0.below hb
  have z4 := hb.size
  replace hbV := below_next hbV hb
  clear hb
  go_wp2_with fail
  refine (eqStuffS_same _ _ _ _ _ _ x0.sees y0.sees hn0).mono ?_
  rintro _ w6 ⟨rfl, hb⟩
  replace x0 := x0.below hb
  replace y0 := y0.below hb
  have z5 := hb.size
  replace hbV := below_next hbV hb
  clear hb
  clear y0
  clear x0
  go_wp2_with fail
  go_ret
  exact ⟨rfl, below_next hbW hbV⟩
end Go.Proofs.Ytblfbllhkmcbbaa
