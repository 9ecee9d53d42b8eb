/-
  The walk of FnExactLeastLost: it returns true and writes nothing that was there.
-/
import Derived.Test.YtblfbllhkmcbbaaLl
namespace Go.Proofs.Ytblfbllhkmcbbaa
open Go.RowKit
set_option linter.unusedVariables false
set_option maxHeartbeats 2000000 in
theorem exactLeastLost_walk (A0 : Option Addr) (n0 c0 : Nat) (h : List Heat) (A1 : Option Addr) (n1 c1 : Nat) (L : List (List Int)) (w : World) (hs0 : Sees w w.heap.size A0 (ints (flatH h))) (hl0 : h.length = n0) (hf0 : ∀ z ∈ flatH h, fits z) (hc0 : n0 ≤ c0) (hm0 : c0 ≤ maxLen) (hs1 : Tab w w.heap.size A1 L) (hl1 : L.length = n1) (hf1 : ∀ l ∈ L, l.length ≤ maxLen) (hc1 : n1 ≤ c1) (hm1 : c1 ≤ maxLen) :
    Calls Try.prog 8 #[.slice A0 n0 c0, .slice A1 n1 c1] w fun e w' => e = .returned (.bool true) ∧ Below w.heap.size w w' := by
  subst hl0
  subst hl1
  by_cases hn0 : h.length ≤ 1048576
  case neg =>
    have hq := hm0
    unfold maxLen at hq
    go_enter Try.func8, Try.ntmps8
    go_wp2_with fail
    refine (szHeatS_big _ _ _ _ _ (by omega) (by omega) (by omega)).mono ?_
    rintro _ _ ⟨rfl, rfl⟩
    go_wp2_with fail
    go_ret
    exact ⟨rfl, Below.refl _ _⟩
  by_cases hb1 : ((L.length + bulkOf L : Nat) : Int) ≤ 1048576 - (h.length : Int)
  case neg =>
    have hq := hm1
    unfold maxLen at hq
    go_enter Try.func8, Try.ntmps8
    go_wp2_with fail
    refine (szHeatS_ok _ _ _ _ _ (by omega) (by omega)).mono ?_
    rintro _ _ ⟨rfl, rfl⟩
    go_wp2_with fail
    refine (szIntSS_big _ _ _ _ _ hs1 hf1 (Nat.le_trans hc1 hm1) (by omega) (by omega) (by omega)).mono ?_
    rintro _ _ ⟨rfl, rfl⟩
    go_wp2_with fail
    go_ret
    exact ⟨rfl, Below.refl _ _⟩
  have hn1 : L.length ≤ 1048576 := by omega
  have hr1 : ∀ l ∈ L, l.length ≤ 1048576 := fun l hl => Nat.le_trans (bulk_mem L l hl) (by omega)
  have hz1 : ¬ (1048576 - (h.length : Int) - ((L.length + bulkOf L : Nat) : Int) < 0) := by omega
  have hz1c : ¬ (1048576 - (h.length : Int) - ((L.length : Int) + (bulkOf L : Int)) < 0) := by omega
  go_enter Try.func8, Try.ntmps8
  go_wp2_with fail
  refine (szHeatS_ok _ _ _ _ _ (by omega) (by omega)).mono ?_
  rintro _ _ ⟨rfl, rfl⟩
  go_wp2_with fail
  refine (szIntSS_ok _ _ _ _ _ hs1 (by omega) (by omega)).mono ?_
  rintro _ _ ⟨rfl, rfl⟩
  go_wp2_with fail
  have hbV : Below w.heap.size w w := Below.refl _ _
  go_wp2_with fail
  refine (toHeatS_any _ _ _ _ (hs0.next hbV) hn0).mono ?_
  rintro _ w1 ⟨At0oW, ct0oW, rfl, ho, hb⟩
  have t0oW := Own.of ho
  clear ho
  have z0 := hb.size
  replace hbV := below_next hbV hb
  clear hb
  go_wp2_with fail
  refine (toIntSS_any _ _ _ _ (hs1.next hbV) hn1 hr1).mono ?_
  rintro _ w2 ⟨At1oW, ct1oW, rfl, t1oW, hb⟩
  replace t0oW := t0oW.below hb
  have z1 := hb.size
  replace hbV := below_next hbV hb
  clear hb
  go_wp2_with fail
  refine (sLeastLost_any _ _ _ _ _ _ _ t0oW.sees hn0 t1oW.tab hn1 hr1).mono ?_
  rintro _ w3 ⟨rfl, hb⟩
  clear t0oW
  clear t1oW
  have z2 := hb.size
  replace hbV := below_next hbV hb
  clear hb
  go_wp2_with fail
  refine (toHeatS_any _ _ _ _ (hs0.next hbV) hn0).mono ?_
  rintro _ w4 ⟨Ax0, cx0, rfl, ho, hb⟩
  have x0 := Own.of ho
  clear ho
  have z3 := hb.size
  replace hbV := below_next hbV hb
  clear hb
  go_wp2_with fail
  refine (toIntSS_any _ _ _ _ (hs1.next hbV) hn1 hr1).mono ?_
  rintro _ w5 ⟨Ax1, cx1, rfl, x1, hb⟩
  replace x0 := x0.below hb
  have z4 := hb.size
  replace hbV := below_next hbV hb
  clear hb
  go_wp2_with fail
  refine (leastLost_any _ _ _ _ _ _ _ x0.sees hn0 x1.tab hn1 hr1).mono ?_
  rintro _ w6 ⟨rfl, hb⟩
  replace x0 := x0.below hb
  replace x1 := x1.below hb
  have z5 := hb.size
  replace hbV := below_next hbV hb
  clear hb
  go_wp2_with fail
  refine (toHeatS_any _ _ _ _ (hs0.next hbV) hn0).mono ?_
  rintro _ w7 ⟨Ay0, cy0, rfl, ho, hb⟩
  have y0 := Own.of ho
  clear ho
  replace x0 := x0.below hb
  replace x1 := x1.below hb
  have z6 := hb.size
  replace hbV := below_next hbV hb
  clear hb
  go_wp2_with fail
  refine (eqHeatS_same _ _ _ _ _ _ x0.sees y0.sees hn0).mono ?_
  rintro _ w8 ⟨rfl, hb⟩
  replace x0 := x0.below hb
  replace x1 := x1.below hb
  replace y0 := y0.below hb
  have z7 := hb.size
  replace hbV := below_next hbV hb
  clear hb
  clear y0
  clear x0
  go_wp2_with fail
  refine (toIntSS_any _ _ _ _ (hs1.next hbV) hn1 hr1).mono ?_
  rintro _ w9 ⟨Ay1, cy1, rfl, y1, hb⟩
  replace x1 := x1.below hb
  have z8 := hb.size
  replace hbV := below_next hbV hb
  clear hb
  go_wp2_with fail
  refine (eqIntSS_same _ _ _ _ _ _ x1.tab y1.tab hn1 hr1).mono ?_
  rintro _ w10 ⟨rfl, hb⟩
  replace x1 := x1.below hb
  replace y1 := y1.below hb
  have z9 := hb.size
  replace hbV := below_next hbV hb
  clear hb
  clear y1
  clear x1
  go_wp2_with fail
  go_ret
  exact ⟨rfl, hbV⟩
end Go.Proofs.Ytblfbllhkmcbbaa
