/-
  The walk of FnExactLostValid: it returns true and writes nothing that was there.
-/
import Derived.Test.YtgedcmdhmikbnaaTb
namespace Go.Proofs.Ytgedcmdhmikbnaa
open Go.RowKit
set_option linter.unusedVariables false
set_option maxHeartbeats 2000000 in
theorem exactLostValid_walk (A0 : Option Addr) (n0 c0 : Nat) (L : List (List Int)) (w : World) (hs0 : Tab w w.heap.size A0 L) (hl0 : L.length = n0) (hf0 : ∀ l ∈ L, l.length ≤ maxLen) (hc0 : n0 ≤ c0) (hm0 : c0 ≤ maxLen) :
    Calls Try.prog 6 #[.slice A0 n0 c0] w fun e w' => e = .returned (.bool true) ∧ Below w.heap.size w w' := by
  subst hl0
  by_cases hb0 : ((L.length + bulkOf L : Nat) : Int) ≤ 1048576
  case neg =>
    have hq := hm0
    unfold maxLen at hq
    go_enter Try.func6, Try.ntmps6
    go_wp2_with fail
    refine (szIntSS_big _ _ _ _ _ hs0 hf0 (Nat.le_trans hc0 hm0) (by omega) (by omega) (by omega)).mono ?_
    rintro _ _ ⟨rfl, rfl⟩
    go_wp2_with fail
    go_ret
    exact ⟨rfl, Below.refl _ _⟩
  have hn0 : L.length ≤ 1048576 := by omega
  have hr0 : ∀ l ∈ L, l.length ≤ 1048576 := fun l hl => Nat.le_trans (bulk_mem L l hl) (by omega)
  have hz0 : ¬ (1048576 - ((L.length + bulkOf L : Nat) : Int) < 0) := by omega
  have hz0c : ¬ (1048576 - ((L.length : Int) + (bulkOf L : Int)) < 0) := by omega
  go_enter Try.func6, Try.ntmps6
  go_wp2_with fail
  refine (szIntSS_ok _ _ _ _ _ hs0 (by omega) (by omega)).mono ?_
  rintro _ _ ⟨rfl, rfl⟩
  go_wp2_with fail
  have hbV : Below w.heap.size w w := Below.refl _ _
  go_wp2_with fail
  refine (toIntSS_any _ _ _ _ (hs0.next hbV) hn0 hr0).mono ?_
  rintro _ w1 ⟨At0oW, ct0oW, rfl, t0oW, hb⟩
  have z0 := hb.size
  replace hbV := below_next hbV hb
  clear hb
  go_wp2_with fail
  refine (sLostValid_any _ _ _ _ t0oW.tab hn0 hr0).mono ?_
  rintro _ _ ⟨rfl, rfl⟩
  clear t0oW
  go_wp2_with fail
  refine (toIntSS_any _ _ _ _ (hs0.next hbV) hn0 hr0).mono ?_
  rintro _ w2 ⟨Ax0, cx0, rfl, x0, hb⟩
  have z1 := hb.size
  replace hbV := below_next hbV hb
  clear hb
  go_wp2_with fail
  refine (lostValid_any _ _ _ _ x0.tab hn0 hr0).mono ?_
  rintro _ _ ⟨rfl, rfl⟩
  go_wp2_with fail
  refine (toIntSS_any _ _ _ _ (hs0.next hbV) hn0 hr0).mono ?_
  rintro _ w3 ⟨Ay0, cy0, rfl, y0, hb⟩
  replace x0 := x0.below hb
  have z2 := hb.size
  replace hbV := below_next hbV hb
  clear hb
  go_wp2_with fail
  refine (eqIntSS_same _ _ _ _ _ _ x0.tab y0.tab hn0 hr0).mono ?_
  rintro _ w4 ⟨rfl, hb⟩
  replace x0 := x0.below hb
  replace y0 := y0.below hb
  have z3 := hb.size
  replace hbV := below_next hbV hb
  clear hb
  clear y0
  clear x0
  go_wp2_with fail
  go_ret
  exact ⟨rfl, hbV⟩
end Go.Proofs.Ytgedcmdhmikbnaa
