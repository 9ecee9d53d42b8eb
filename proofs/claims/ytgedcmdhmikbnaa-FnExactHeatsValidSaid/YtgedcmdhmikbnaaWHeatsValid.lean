/-
  The walk of FnExactHeatsValid: it returns true and writes nothing that was there.
-/
import Derived.Test.YtgedcmdhmikbnaaHt
import Derived.Test.YtgedcmdhmikbnaaOwn
namespace Go.Proofs.Ytgedcmdhmikbnaa
open Go.RowKit
set_option linter.unusedVariables false
set_option maxHeartbeats 2000000 in
theorem exactHeatsValid_walk (A0 : Option Addr) (n0 c0 : Nat) (h : List Heat) (w : World) (hs0 : Sees w w.heap.size A0 (ints (flatH h))) (hl0 : h.length = n0) (hf0 : ∀ z ∈ flatH h, fits z) (hc0 : n0 ≤ c0) (hm0 : c0 ≤ maxLen) :
    Calls Try.prog 5 #[.slice A0 n0 c0] w fun e w' => e = .returned (.bool true) ∧ Below w.heap.size w w' := by
  subst hl0
  by_cases hn0 : h.length ≤ 1048576
  case neg =>
    have hq := hm0
    unfold maxLen at hq
    go_enter Try.func5, Try.ntmps5
    go_wp2_with fail
    refine (szHeatS_big _ _ _ _ _ (by omega) (by omega) (by omega)).mono ?_
    rintro _ _ ⟨rfl, rfl⟩
    go_wp2_with fail
    go_ret
    exact ⟨rfl, Below.refl _ _⟩
  go_enter Try.func5, Try.ntmps5
  go_wp2_with fail
  refine (szHeatS_ok _ _ _ _ _ (by omega) (by omega)).mono ?_
  rintro _ _ ⟨rfl, rfl⟩
  go_wp2_with fail
  have hbV : Below w.heap.size w w := Below.refl _ _
  go_wp2_with fail
  refine (toHeatS_any _ _ _ _ (hs0.next hbV) hn0).mono ?_
  rintro _ w1 ⟨At0oW, ct0oW, rfl, ho, hb⟩
  have t0oW := Own.of ho
  clear ho
  have z0 := hb.size
  replace hbV := below_next hbV hb
  clear hb
  go_wp2_with fail
  refine (sHeatsValid_any _ _ _ _ t0oW.sees hn0).mono ?_
  rintro _ w2 ⟨rfl, hb⟩
  clear t0oW
  have z1 := hb.size
  replace hbV := below_next hbV hb
  clear hb
  go_wp2_with fail
  refine (toHeatS_any _ _ _ _ (hs0.next hbV) hn0).mono ?_
  rintro _ w3 ⟨Ax0, cx0, rfl, ho, hb⟩
  have x0 := Own.of ho
  clear ho
  have z2 := hb.size
  replace hbV := below_next hbV hb
  clear hb
  go_wp2_with fail
  refine (heatsValid_any _ _ _ _ x0.sees hn0).mono ?_
  rintro _ w4 ⟨rfl, hb⟩
  replace x0 := x0.below hb
  have z3 := hb.size
  replace hbV := below_next hbV hb
  clear hb
  go_wp2_with fail
  refine (toHeatS_any _ _ _ _ (hs0.next hbV) hn0).mono ?_
  rintro _ w5 ⟨Ay0, cy0, rfl, ho, hb⟩
  have y0 := Own.of ho
  clear ho
  replace x0 := x0.below hb
  have z4 := hb.size
  replace hbV := below_next hbV hb
  clear hb
  go_wp2_with fail
  refine (eqHeatS_same _ _ _ _ _ _ x0.sees y0.sees hn0).mono ?_
  rintro _ w6 ⟨rfl, hb⟩
  replace x0 := x0.below hb
  replace y0 := y0.below hb
  have z5 := hb.size
  replace hbV := below_next hbV hb
  clear hb
  clear y0
  clear x0
  go_wp2_with fail
  go_ret
  exact ⟨rfl, hbV⟩
end Go.Proofs.Ytgedcmdhmikbnaa
