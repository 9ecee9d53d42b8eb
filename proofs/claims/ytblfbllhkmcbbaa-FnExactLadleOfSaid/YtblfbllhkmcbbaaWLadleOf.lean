/-
  The walk of FnExactLadleOf: it returns true and writes nothing that was there.
-/
import Derived.Test.YtblfbllhkmcbbaaLs
import Derived.Test.YtblfbllhkmcbbaaLi
namespace Go.Proofs.Ytblfbllhkmcbbaa
open Go.RowKit
set_option linter.unusedVariables false
set_option maxHeartbeats 2000000 in
theorem exactLadleOf_walk (A0 : Option Addr) (n0 c0 : Nat) (h : List Heat) (q1 q2 : Int) (A2 : Option Addr) (n2 c2 : Nat) (t : List Int) (w : World) (hs0 : Sees w w.heap.size A0 (ints (flatH h))) (hl0 : h.length = n0) (hf0 : ∀ z ∈ flatH h, fits z) (hc0 : n0 ≤ c0) (hm0 : c0 ≤ maxLen) (hf1 : ∀ z ∈ [q1, q2], fits z) (hs2 : Sees w w.heap.size A2 (ints (t))) (hl2 : t.length = n2) (hf2 : ∀ z ∈ t, fits z) (hc2 : n2 ≤ c2) (hm2 : c2 ≤ maxLen) :
    Calls Try.prog 9 #[.slice A0 n0 c0, .agg #[.int .i64 q1, .int .i64 q2], .slice A2 n2 c2] w fun e w' => e = .returned (.bool true) ∧ Below w.heap.size w w' := by
  subst hl0
  subst hl2
  by_cases hn2 : t.length ≤ 1048576
  case neg =>
    have hq := hm2
    unfold maxLen at hq
    go_enter Try.func9, Try.ntmps9
    go_wp2_with fail
    go_ret
    exact ⟨rfl, (Below.refl _ _).alloc (Nat.le_refl _) _⟩
  by_cases hn0 : h.length ≤ 1048576
  case neg =>
    have hq := hm0
    unfold maxLen at hq
    go_enter Try.func9, Try.ntmps9
    go_wp2_with fail
    refine (szHeatS_big _ _ _ _ _ (by omega) (by omega) (by omega)).mono ?_
    rintro _ _ ⟨rfl, rfl⟩
    go_wp2_with fail
    go_ret
    exact ⟨rfl, (Below.refl _ _).alloc (Nat.le_refl _) _⟩
  go_enter Try.func9, Try.ntmps9
  go_wp2_with fail
  refine (szHeatS_ok _ _ _ _ _ (by omega) (by omega)).mono ?_
  rintro _ _ ⟨rfl, rfl⟩
  go_wp2_with fail
  have hx := boxed1 w #[.int .i64 q1, .int .i64 q2] 59
  generalize w.alloc _ = V at hx ⊢
  obtain ⟨hbW, hgB, hcB⟩ := hx
  replace hs0 := hs0.next hbW
  replace hs2 := hs2.next hbW
  have hbV : Below V.heap.size V V := Below.refl _ _
  have hcU : ∀ i, V.cell? ⟨w.heap.size, i, none⟩ = _ := fun i => ((below_cells hbV).1 _ i hgB).trans (hcB i)
  have hgU : w.heap.size < V.heap.size := Nat.lt_of_lt_of_le hgB hbV.size
  go_region_held3 (fun w' => Below V.heap.size V w' ∧ ∀ b o, b < V.heap.size → w'.cell? ⟨b, o, none⟩ = V.cell? ⟨b, o, none⟩)
    (first | exact held_of ((Below.refl _ _).drew) | exact held_call (by assumption) (by assumption))
    (first
      | (go_at_call 30; refine (toHeatS_any _ _ _ _ (hs0.next (below_next hbV (And.left (by assumption)))) hn0).mono ?_; rintro _ u1oW ⟨As0oW, cs0oW, rfl, ho, hbq⟩; have s0oW := Sees.of_own ho; have ks0oW := Own.cap (Own.of ho); clear ho)
      | (go_at_call 40; refine (toCaster_any _ _ _).mono ?_; rintro _ u2oW ⟨rfl, hbq⟩; replace s0oW := s0oW.next hbq)
      | (go_at_call 41; refine (toIntS_any _ _ _ _ (hs2.next (below_next hbV (And.left (by assumption)))) hn2).mono ?_; rintro _ u3oW ⟨As2oW, cs2oW, rfl, ho, hbq⟩; replace s0oW := s0oW.next hbq; have s2oW := Sees.of_own ho; have ks2oW := Own.cap (Own.of ho); clear ho)
      | (go_at_call 39; refine (sLadleOf_any _ _ _ _ _ _ _ s0oW hn0 s2oW hn2 _ _).mono ?_; rintro _ w1 ⟨AoW, coW, rfl, oW, hbq⟩))
  have hb : Below V.heap.size V w1 := And.left (by assumption)
  clear hcU hgU
  clear s0oW ks0oW
  clear s2oW ks2oW
  have z0 := hb.size
  replace hbV := below_next hbV hb
  clear hb
  go_wp2_with fail
  refine (toHeatS_any _ _ _ _ (hs0.next hbV) hn0).mono ?_
  rintro _ w2 ⟨Ax0, cx0, rfl, ho, hb⟩
  have x0 := Own.of ho
  clear ho
  replace oW := oW.below hb
  have z1 := hb.size
  replace hbV := below_next hbV hb
  clear hb
  go_wp2_with fail
  refine (toIntS_any _ _ _ _ (hs2.next hbV) hn2).mono ?_
  rintro _ w3 ⟨Ax2, cx2, rfl, ho, hb⟩
  have x2 := Own.of ho
  clear ho
  replace oW := oW.below hb
  replace x0 := x0.below hb
  have z2 := hb.size
  replace hbV := below_next hbV hb
  clear hb
  have hcU : ∀ i, w3.cell? ⟨w.heap.size, i, none⟩ = _ := fun i => ((below_cells hbV).1 _ i hgB).trans (hcB i)
  go_wp2_with fail
  clear hcU
  refine (toCaster_any _ _ _).mono ?_
  rintro _ w4 ⟨rfl, hb⟩
  replace oW := oW.below hb
  replace x0 := x0.below hb
  replace x2 := x2.below hb
  have z3 := hb.size
  replace hbV := below_next hbV hb
  clear hb
  go_wp2_with fail
  refine (ladleOf_any _ _ _ _ _ _ _ x0.sees hn0 x2.sees hn2 _ _).mono ?_
  rintro _ w5 ⟨AoG, coG, rfl, oG, hb⟩
  replace oW := oW.below hb
  replace x0 := x0.below hb
  replace x2 := x2.below hb
  have z4 := hb.size
  replace hbV := below_next hbV hb
  clear hb
  have hnR := Nat.le_trans (ladleOf_le h q1 q2 t) (by omega : 6 ≤ 1048576)
  go_wp2_with fail
  refine (eqIntS_same _ _ _ _ _ _ oG.sees oW.sees hnR).mono ?_
  rintro _ w6 ⟨rfl, hb⟩
  replace oW := oW.below hb
  replace x0 := x0.below hb
  replace x2 := x2.below hb
  replace oG := oG.below hb
  have z5 := hb.size
  replace hbV := below_next hbV hb
  clear hb
  go_wp2_with fail
  refine (toHeatS_any _ _ _ _ (hs0.next hbV) hn0).mono ?_
  rintro _ w7 ⟨Ay0, cy0, rfl, ho, hb⟩
  have y0 := Own.of ho
  clear ho
  replace oW := oW.below hb
  replace x0 := x0.below hb
  replace x2 := x2.below hb
  replace oG := oG.below hb
  have z6 := hb.size
  replace hbV := below_next hbV hb
  clear hb
  go_wp2_with fail
  refine (eqHeatS_same _ _ _ _ _ _ x0.sees y0.sees hn0).mono ?_
  rintro _ w8 ⟨rfl, hb⟩
  replace oW := oW.below hb
  replace x0 := x0.below hb
  replace x2 := x2.below hb
  replace oG := oG.below hb
  replace y0 := y0.below hb
  have z7 := hb.size
  replace hbV := below_next hbV hb
  clear hb
  clear y0
  go_wp2_with fail
  refine (toIntS_any _ _ _ _ (hs2.next hbV) hn2).mono ?_
  rintro _ w9 ⟨Ay2, cy2, rfl, ho, hb⟩
  have y2 := Own.of ho
  clear ho
  replace oW := oW.below hb
  replace x0 := x0.below hb
  replace x2 := x2.below hb
  replace oG := oG.below hb
  have z8 := hb.size
  replace hbV := below_next hbV hb
  clear hb
  go_wp2_with fail
  refine (eqIntS_same _ _ _ _ _ _ x2.sees y2.sees hn2).mono ?_
  rintro _ w10 ⟨rfl, hb⟩
  replace oW := oW.below hb
  replace x0 := x0.below hb
  replace x2 := x2.below hb
  replace oG := oG.below hb
  replace y2 := y2.below hb
  have z9 := hb.size
  replace hbV := below_next hbV hb
  clear hb
  clear y2
  go_wp2_with fail
  refine (markHeatS_any _ _ _ _ _ _ _ _ x0 hn0 (by omega) (by omega)).mono ?_
  rintro _ w11 ⟨rfl, oN, hon⟩
  replace x0 := oN
  replace oW := oW.only hon (by omega)
  replace x2 := x2.only hon (by omega)
  replace oG := oG.only hon (by omega)
  have z10 := hon.size
  replace hbV := below_only hbV hon (by omega) (Nat.le_refl _)
  clear hon
  go_wp2_with fail
  refine (markIntS_any _ _ _ _ _ _ _ _ x2 hn2 (by omega) (by omega)).mono ?_
  rintro _ w12 ⟨rfl, oN, hon⟩
  replace x2 := oN
  replace oW := oW.only hon (by omega)
  replace x0 := x0.only hon (by omega)
  replace oG := oG.only hon (by omega)
  have z11 := hon.size
  replace hbV := below_only hbV hon (by omega) (Nat.le_refl _)
  clear hon
  clear x0
  clear x2
  have hk9 : ¬ (1 + (h.length : Int) * 3 + (t.length : Int) < 0) := by omega
  go_wp2_with fail
  refine (eqIntS_same _ _ _ _ _ _ oG.sees oW.sees hnR).mono ?_
  rintro _ w13 ⟨rfl, hb⟩
  replace oW := oW.below hb
  replace oG := oG.below hb
  have z12 := hb.size
  replace hbV := below_next hbV hb
  clear hb
  go_wp2_with fail
  refine (markIntS_any _ _ _ _ _ _ _ _ oG hnR (by omega) (by omega)).mono ?_
  rintro _ w14 ⟨rfl, oN, hon⟩
  replace oG := oN
  replace oW := oW.only hon (by omega)
  have z13 := hon.size
  replace hbV := below_only hbV hon (by omega) (Nat.le_refl _)
  clear hon
  have hk8 : ¬ (1 + ((ladleOf h ⟨q1, q2⟩ t).length : Int) < 0) := by omega
  go_wp2_with fail
  refine (heldIntS_any _ _ _ _ _ oG.sees hnR (by omega) (by omega)).mono ?_
  rintro _ _ ⟨rfl, rfl⟩
  go_wp2_with fail
  have hcU : ∀ i, w14.cell? ⟨w.heap.size, i, none⟩ = _ := fun i => ((below_cells hbV).1 _ i hgB).trans (hcB i)
  have hgU : w.heap.size < w14.heap.size := Nat.lt_of_lt_of_le hgB hbV.size
  go_region_held3 (fun w' => Below w14.heap.size w14 w' ∧ ∀ b o, b < w14.heap.size → w'.cell? ⟨b, o, none⟩ = w14.cell? ⟨b, o, none⟩)
    (first | exact held_of ((Below.refl _ _).drew) | exact held_call (by assumption) (by assumption))
    (first
      | (go_at_call 30; refine (toHeatS_any _ _ _ _ (hs0.next (below_next hbV (And.left (by assumption)))) hn0).mono ?_; rintro _ u1oH ⟨As0oH, cs0oH, rfl, ho, hbq⟩; have s0oH := Sees.of_own ho; have ks0oH := Own.cap (Own.of ho); clear ho)
      | (go_at_call 40; refine (toCaster_any _ _ _).mono ?_; rintro _ u2oH ⟨rfl, hbq⟩; replace s0oH := s0oH.next hbq)
      | (go_at_call 41; refine (toIntS_any _ _ _ _ (hs2.next (below_next hbV (And.left (by assumption)))) hn2).mono ?_; rintro _ u3oH ⟨As2oH, cs2oH, rfl, ho, hbq⟩; replace s0oH := s0oH.next hbq; have s2oH := Sees.of_own ho; have ks2oH := Own.cap (Own.of ho); clear ho)
      | (go_at_call 42; refine (ladleOf_any _ _ _ _ _ _ _ s0oH hn0 s2oH hn2 _ _).mono ?_; rintro _ w15 ⟨AoH, coH, rfl, oH, hbq⟩))
  have hb : Below w14.heap.size w14 w15 := And.left (by assumption)
  clear hcU hgU
  clear s0oH ks0oH
  clear s2oH ks2oH
  replace oW := oW.below hb
  replace oG := oG.below hb
  have z14 := hb.size
  replace hbV := below_next hbV hb
  clear hb
  go_wp2_with fail
  refine (eqIntS_same _ _ _ _ _ _ oH.sees oW.sees hnR).mono ?_
  rintro _ w16 ⟨rfl, hb⟩
  replace oW := oW.below hb
  replace oG := oG.below hb
  replace oH := oH.below hb
  have z15 := hb.size
  replace hbV := below_next hbV hb
  clear hb
  go_wp2_with fail
  refine (heldIntS_any _ _ _ _ _ oG.sees hnR (by omega) (by omega)).mono ?_
  rintro _ _ ⟨rfl, rfl⟩
  go_wp2_with fail
  go_ret
  exact ⟨rfl, below_next hbW hbV⟩
end Go.Proofs.Ytblfbllhkmcbbaa
