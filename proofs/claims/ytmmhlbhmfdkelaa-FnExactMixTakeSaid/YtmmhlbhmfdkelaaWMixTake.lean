/-
  The walk of FnExactMixTake: it returns true and writes nothing that was there.
-/
import Derived.Test.YtmmhlbhmfdkelaaTake
namespace Go.Proofs.Ytmmhlbhmfdkelaa
open Go.RowKit
set_option linter.unusedVariables false
set_option maxHeartbeats 2000000 in
theorem exactMixTake_walk (A0 : Option Addr) (n0 c0 : Nat) (l : List Stuff) (A1 : Option Addr) (n1 c1 : Nat) (x : List Int) (w : World) (hs0 : Sees w w.heap.size A0 (ints (flatS l))) (hl0 : l.length = n0) (hf0 : ∀ z ∈ flatS l, fits z) (hc0 : n0 ≤ c0) (hm0 : c0 ≤ maxLen) (hs1 : Sees w w.heap.size A1 (ints (x))) (hl1 : x.length = n1) (hf1 : ∀ z ∈ x, fits z) (hc1 : n1 ≤ c1) (hm1 : c1 ≤ maxLen) :
    Calls Try.prog 13 #[.slice A0 n0 c0, .slice A1 n1 c1] w fun e w' => e = .returned (.bool true) ∧ Below w.heap.size w w' := by
  subst hl0
  subst hl1
  by_cases hn1 : x.length ≤ 1048576
  case neg =>
    have hq := hm1
    unfold maxLen at hq
    go_enter Try.func13, Try.ntmps13
    go_wp2_with fail
    go_ret
    exact ⟨rfl, Below.refl _ _⟩
  by_cases hn0 : l.length ≤ 1048576
  case neg =>
    have hq := hm0
    unfold maxLen at hq
    go_enter Try.func13, Try.ntmps13
    go_wp2_with fail
    refine (szStuffS_big _ _ _ _ _ (by omega) (by omega) (by omega)).mono ?_
    rintro _ _ ⟨rfl, rfl⟩
    go_wp2_with fail
    go_ret
    exact ⟨rfl, Below.refl _ _⟩
  go_enter Try.func13, Try.ntmps13
  go_wp2_with fail
  refine (szStuffS_ok _ _ _ _ _ (by omega) (by omega)).mono ?_
  rintro _ _ ⟨rfl, rfl⟩
  go_wp2_with fail
  have hbV : Below w.heap.size w w := Below.refl _ _
  go_wp2_with fail
  refine (toStuffS_any _ _ _ _ (hs0.next hbV) hn0).mono ?_
  rintro _ w1 ⟨At0oW, ct0oW, rfl, ho, hb⟩
  have t0oW := Own.of ho
  clear ho
  have z0 := hb.size
  replace hbV := below_next hbV hb
  clear hb
  go_wp2_with fail
  refine (toIntS_any _ _ _ _ (hs1.next hbV) hn1).mono ?_
  rintro _ w2 ⟨At1oW, ct1oW, rfl, ho, hb⟩
  have t1oW := Own.of ho
  clear ho
  replace t0oW := t0oW.below hb
  have z1 := hb.size
  replace hbV := below_next hbV hb
  clear hb
  go_wp2_with fail
  refine (sMixTake_any _ _ _ _ _ _ _ t0oW.sees hn0 t1oW.sees hn1).mono ?_
  rintro _ w3 ⟨AoW, coW, rfl, oW, hb⟩
  clear t0oW
  clear t1oW
  have z2 := hb.size
  replace hbV := below_next hbV hb
  clear hb
  go_wp2_with fail
  refine (toStuffS_any _ _ _ _ (hs0.next hbV) hn0).mono ?_
  rintro _ w4 ⟨Ax0, cx0, rfl, ho, hb⟩
  have x0 := Own.of ho
  clear ho
  replace oW := oW.below hb
  have z3 := hb.size
  replace hbV := below_next hbV hb
  clear hb
  go_wp2_with fail
  refine (toIntS_any _ _ _ _ (hs1.next hbV) hn1).mono ?_
  rintro _ w5 ⟨Ax1, cx1, rfl, ho, hb⟩
  have x1 := Own.of ho
  clear ho
  replace oW := oW.below hb
  replace x0 := x0.below hb
  have z4 := hb.size
  replace hbV := below_next hbV hb
  clear hb
  go_wp2_with fail
  refine (mixTake_any _ _ _ _ _ _ _ x0.sees hn0 x1.sees hn1).mono ?_
  rintro _ w6 ⟨AoG, coG, rfl, oG, hb⟩
  replace oW := oW.below hb
  replace x0 := x0.below hb
  replace x1 := x1.below hb
  have z5 := hb.size
  replace hbV := below_next hbV hb
  clear hb
  have hnR := takenS_le l x hn0
  go_wp2_with fail
  refine (eqStuffS_same _ _ _ _ _ _ oG.sees oW.sees hnR).mono ?_
  rintro _ w7 ⟨rfl, hb⟩
  replace oW := oW.below hb
  replace x0 := x0.below hb
  replace x1 := x1.below hb
  replace oG := oG.below hb
  have z6 := hb.size
  replace hbV := below_next hbV hb
  clear hb
  go_wp2_with fail
  refine (toStuffS_any _ _ _ _ (hs0.next hbV) hn0).mono ?_
  rintro _ w8 ⟨Ay0, cy0, rfl, ho, hb⟩
  have y0 := Own.of ho
  clear ho
  replace oW := oW.below hb
  replace x0 := x0.below hb
  replace x1 := x1.below hb
  replace oG := oG.below hb
  have z7 := hb.size
  replace hbV := below_next hbV hb
  clear hb
  go_wp2_with fail
  refine (eqStuffS_same _ _ _ _ _ _ x0.sees y0.sees hn0).mono ?_
  rintro _ w9 ⟨rfl, hb⟩
  replace oW := oW.below hb
  replace x0 := x0.below hb
  replace x1 := x1.below hb
  replace oG := oG.below hb
  replace y0 := y0.below hb
  have z8 := hb.size
  replace hbV := below_next hbV hb
  clear hb
  clear y0
  go_wp2_with fail
  refine (toIntS_any _ _ _ _ (hs1.next hbV) hn1).mono ?_
  rintro _ w10 ⟨Ay1, cy1, rfl, ho, hb⟩
  have y1 := Own.of ho
  clear ho
  replace oW := oW.below hb
  replace x0 := x0.below hb
  replace x1 := x1.below hb
  replace oG := oG.below hb
  have z9 := hb.size
  replace hbV := below_next hbV hb
  clear hb
  go_wp2_with fail
  refine (eqIntS_same _ _ _ _ _ _ x1.sees y1.sees hn1).mono ?_
  rintro _ w11 ⟨rfl, hb⟩
  replace oW := oW.below hb
  replace x0 := x0.below hb
  replace x1 := x1.below hb
  replace oG := oG.below hb
  replace y1 := y1.below hb
  have z10 := hb.size
  replace hbV := below_next hbV hb
  clear hb
  clear y1
  go_wp2_with fail
  refine (markStuffS_any _ _ _ _ _ _ _ _ x0 hn0 (by omega) (by omega)).mono ?_
  rintro _ w12 ⟨rfl, oN, hon⟩
  replace x0 := oN
  replace oW := oW.only hon (by omega)
  replace x1 := x1.only hon (by omega)
  replace oG := oG.only hon (by omega)
  have z11 := hon.size
  replace hbV := below_only hbV hon (by omega) (Nat.le_refl _)
  clear hon
  go_wp2_with fail
  refine (markIntS_any _ _ _ _ _ _ _ _ x1 hn1 (by omega) (by omega)).mono ?_
  rintro _ w13 ⟨rfl, oN, hon⟩
  replace x1 := oN
  replace oW := oW.only hon (by omega)
  replace x0 := x0.only hon (by omega)
  replace oG := oG.only hon (by omega)
  have z12 := hon.size
  replace hbV := below_only hbV hon (by omega) (Nat.le_refl _)
  clear hon
  clear x0
  clear x1
  have hk9 : ¬ (1 + (l.length : Int) * 5 + (x.length : Int) < 0) := by omega
  go_wp2_with fail
  refine (eqStuffS_same _ _ _ _ _ _ oG.sees oW.sees hnR).mono ?_
  rintro _ w14 ⟨rfl, hb⟩
  replace oW := oW.below hb
  replace oG := oG.below hb
  have z13 := hb.size
  replace hbV := below_next hbV hb
  clear hb
  go_wp2_with fail
  refine (markStuffS_any _ _ _ _ _ _ _ _ oG hnR (by omega) (by omega)).mono ?_
  rintro _ w15 ⟨rfl, oN, hon⟩
  replace oG := oN
  replace oW := oW.only hon (by omega)
  have z14 := hon.size
  replace hbV := below_only hbV hon (by omega) (Nat.le_refl _)
  clear hon
  have hk8 : ¬ (1 + ((takenS l x).length : Int) * 5 < 0) := by omega
  go_wp2_with fail
  refine (heldStuffS_any _ _ _ _ _ oG.sees hnR (by omega) (by omega)).mono ?_
  rintro _ _ ⟨rfl, rfl⟩
  go_wp2_with fail
  refine (toStuffS_any _ _ _ _ (hs0.next hbV) hn0).mono ?_
  rintro _ w16 ⟨At0oH, ct0oH, rfl, ho, hb⟩
  have t0oH := Own.of ho
  clear ho
  replace oW := oW.below hb
  replace oG := oG.below hb
  have z15 := hb.size
  replace hbV := below_next hbV hb
  clear hb
  go_wp2_with fail
  refine (toIntS_any _ _ _ _ (hs1.next hbV) hn1).mono ?_
  rintro _ w17 ⟨At1oH, ct1oH, rfl, ho, hb⟩
  have t1oH := Own.of ho
  clear ho
  replace oW := oW.below hb
  replace oG := oG.below hb
  replace t0oH := t0oH.below hb
  have z16 := hb.size
  replace hbV := below_next hbV hb
  clear hb
  go_wp2_with fail
  refine (mixTake_any _ _ _ _ _ _ _ t0oH.sees hn0 t1oH.sees hn1).mono ?_
  rintro _ w18 ⟨AoH, coH, rfl, oH, hb⟩
  clear t0oH
  clear t1oH
  replace oW := oW.below hb
  replace oG := oG.below hb
  have z17 := hb.size
  replace hbV := below_next hbV hb
  clear hb
  go_wp2_with fail
  refine (eqStuffS_same _ _ _ _ _ _ oH.sees oW.sees hnR).mono ?_
  rintro _ w19 ⟨rfl, hb⟩
  replace oW := oW.below hb
  replace oG := oG.below hb
  replace oH := oH.below hb
  have z18 := hb.size
  replace hbV := below_next hbV hb
  clear hb
  go_wp2_with fail
  refine (heldStuffS_any _ _ _ _ _ oG.sees hnR (by omega) (by omega)).mono ?_
  rintro _ _ ⟨rfl, rfl⟩
  go_wp2_with fail
  go_ret
  exact ⟨rfl, hbV⟩
end Go.Proofs.Ytmmhlbhmfdkelaa
