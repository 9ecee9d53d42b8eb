/-
  The walk of the law FnGradeMeet.
-/
import Derived.Test.YtdfbkldppblefaaDoorDw
import Derived.Test.YtdfbkldppblefaaDoorLat
namespace Go.Proofs.YtdfbkldppblefaaDoor
open Go.RowKit
set_option linter.unusedVariables false
theorem in_self (a : Grade) : gradeIn a a = gradeOk a := by simp [gradeIn, leB]
theorem in_eq {a b : Grade} (h1 : gradeIn a b = true) (h2 : gradeIn b a = true) : a = b := by
  simp only [gradeIn, leB, Bool.and_eq_true, decide_eq_true_eq] at h1 h2
  cases a; cases b
  simp only [Grade.mk.injEq] at h1 h2 ⊢
  omega
theorem maxI_left {x y : Int} : maxI x y = x ↔ y ≤ x := by unfold maxI; split <;> omega
theorem minI_left {x y : Int} : minI x y = x ↔ x ≤ y := by unfold minI; split <;> omega
theorem meet0_iff {a b : Grade} : meetG0 a b = a ↔ b.lc ≤ a.lc ∧ a.hc ≤ b.hc ∧ b.lm ≤ a.lm ∧ a.hm ≤ b.hm ∧ b.ls ≤ a.ls ∧ a.hs ≤ b.hs := by
  cases a; cases b
  simp only [meetG0, Grade.mk.injEq, maxI_left, minI_left]
theorem in_iff {a b : Grade} : gradeIn a b = true ↔ gradeOk a = true ∧ gradeOk b = true ∧ meetG0 a b = a := by
  rw [meet0_iff]
  simp only [gradeIn, leB, Bool.and_eq_true, decide_eq_true_eq, and_assoc]
theorem in_meet {a b : Grade} (h : gradeIn a b = true) : meetOk a b = true ∧ meetG a b = a := by
  obtain ⟨h1, h2, h3⟩ := in_iff.1 h
  have h4 : meetOk a b = true := by simp [meetOk, h1, h2, h3]
  exact ⟨h4, by simp [meetG, h4, h3]⟩
theorem not_in {a b : Grade} (h : gradeIn a b = false) (hm : meetOk a b = true) : meetG a b ≠ a := by
  intro he
  have h1 : gradeOk a = true ∧ gradeOk b = true := by
    simp only [meetOk, Bool.and_eq_true] at hm
    exact hm.1
  simp only [meetG, hm, if_true] at he
  have := in_iff.2 ⟨h1.1, h1.2, he⟩
  rw [h] at this
  cases this
theorem maxI_comm' (x y : Int) : maxI x y = maxI y x := by unfold maxI; split <;> split <;> omega
theorem minI_comm' (x y : Int) : minI x y = minI y x := by unfold minI; split <;> split <;> omega
theorem meet0_comm (a b : Grade) : meetG0 a b = meetG0 b a := by
  simp only [meetG0, maxI_comm' a.lc, maxI_comm' a.lm, maxI_comm' a.ls, minI_comm' a.hc, minI_comm' a.hm, minI_comm' a.hs]
theorem meetOk_comm (a b : Grade) : meetOk a b = meetOk b a := by
  simp only [meetOk, meet0_comm a b]
  cases gradeOk a <;> cases gradeOk b <;> rfl
theorem meetG_comm (a b : Grade) : meetG a b = meetG b a := by
  simp only [meetG, meetOk_comm a b, meet0_comm a b]
theorem meet_in {a b : Grade} (h : meetOk a b = true) : gradeIn (meetG a b) a = true := by
  have h0 := h
  simp only [meetOk, Bool.and_eq_true] at h
  simp only [meetG, h0, if_true]
  rw [in_iff]
  refine ⟨h.2, h.1.1, ?_⟩
  rw [meet0_iff]
  simp only [meetG0, maxI, minI]
  refine ⟨?_, ?_, ?_, ?_, ?_, ?_⟩ <;> split <;> omega
theorem low_in {g : Grade} (h : gradeOk g = true) : gradeIn ⟨g.lc, g.lc, g.lm, g.lm, g.ls, g.ls⟩ g = true := by
  simp only [gradeIn, gradeOk, rangeOk, leB, Bool.and_eq_true, decide_eq_true_eq, inB_iff] at h ⊢
  omega
theorem meet_ok {a b : Grade} (h : meetOk a b = true) : gradeOk (meetG a b) = true := by
  have h0 := h
  simp only [meetOk, Bool.and_eq_true] at h
  simp only [meetG, h0, if_true]
  exact h.2
theorem meet_none {a b : Grade} (h : meetOk a b = false) : meetG a b = ⟨0, 0, 0, 0, 0, 0⟩ := by simp [meetG, h]
set_option maxHeartbeats 4000000 in
theorem fnGradeMeet_walk (A : Option Addr) (n c : Nat) (l : List Int) (w : World) (hs : Sees w w.heap.size A (bys l)) (hl : l.length = n) (hby : ∀ z ∈ l, byteB z) (hc : n ≤ c) (hm : c ≤ maxLen) :
    Calls Tryd.prog 8 #[.slice A n c] w fun e w' => e = .returned (.bool true) ∧ Below w.heap.size w w' := by
  have hm' := hm
  unfold maxLen at hm'
  by_cases hn : n ≤ 1048576
  case neg =>
    go_enter Tryd.func8, Tryd.ntmps8
    go_wp2_with fail
    go_ret
    exact ⟨rfl, Below.refl _ _⟩
  go_enter Tryd.func8, Tryd.ntmps8
  go_wp2_with fail
  refine (drawGradeMeet_any A n c l _ hs hl hby hc hm).mono ?_
  rintro _ w1 ⟨⟨a1, a2, a3, a4, a5, a6⟩, ⟨b1, b2, b3, b4, b5, b6⟩, rfl, hb⟩
  have hA := (Blk.made w1 30 #[.int .i64 a1, .int .i64 a2, .int .i64 a3, .int .i64 a4, .int .i64 a5, .int .i64 a6]).alloc (.cells #[.int .i64 b1, .int .i64 b2, .int .i64 b3, .int .i64 b4, .int .i64 b5, .int .i64 b6] 30)
  have hB := Blk.made (w1.alloc (.cells #[.int .i64 a1, .int .i64 a2, .int .i64 a3, .int .i64 a4, .int .i64 a5, .int .i64 a6] 30)) 30 #[.int .i64 b1, .int .i64 b2, .int .i64 b3, .int .i64 b4, .int .i64 b5, .int .i64 b6]
  rw [show (w1.alloc (.cells #[.int .i64 a1, .int .i64 a2, .int .i64 a3, .int .i64 a4, .int .i64 a5, .int .i64 a6] 30)).heap.size = w1.heap.size + 1 by simp] at hB
  replace hb := (hb.alloc hb.size (.cells #[.int .i64 a1, .int .i64 a2, .int .i64 a3, .int .i64 a4, .int .i64 a5, .int .i64 a6] 30)).alloc (Nat.le_trans hb.size (by simp)) (.cells #[.int .i64 b1, .int .i64 b2, .int .i64 b3, .int .i64 b4, .int .i64 b5, .int .i64 b6] 30)
  go_wp2_with fail
  generalize (w1.alloc _).alloc _ = W at hA hB hb ⊢
  refine (gradeMeet_any _ _ _ _ _ _ _ _ _ _ _ _ _).mono ?_
  rintro _ w2 ⟨rfl, hb1⟩
  replace hA := hA.below hb1 hA.lt
  replace hB := hB.below hb1 hB.lt
  replace hb := below_next hb hb1
  clear hb1
  cases hmo : meetOk ⟨a1, a2, a3, a4, a5, a6⟩ ⟨b1, b2, b3, b4, b5, b6⟩ with
  | false =>
    have hmg := meet_none hmo
    have hmo2 := hmo
    rw [meetOk_comm] at hmo2
    have hmg2 := meet_none hmo2
    rw [hmg]
    have HG := Lib.hid hmg
    have HG2 := Lib.hid hmg2
    have HO := Lib.hid hmo
    have HO2 := Lib.hid hmo2
    clear hmg hmg2 hmo hmo2
    have hX := Blk.made w2 30 #[.int .i64 0, .int .i64 0, .int .i64 0, .int .i64 0, .int .i64 0, .int .i64 0]
    replace hA := hA.alloc (.cells #[.int .i64 0, .int .i64 0, .int .i64 0, .int .i64 0, .int .i64 0, .int .i64 0] 30)
    replace hB := hB.alloc (.cells #[.int .i64 0, .int .i64 0, .int .i64 0, .int .i64 0, .int .i64 0, .int .i64 0] 30)
    replace hb := hb.alloc hb.size (.cells #[.int .i64 0, .int .i64 0, .int .i64 0, .int .i64 0, .int .i64 0, .int .i64 0] 30)
    go_upto_region 5 with (fail)
    generalize w2.alloc _ = V at hA hB hX hb ⊢
    have e_hA := hA.cell
    have e_hB := hB.cell
    go_wp2_with fail
    clear e_hA e_hB
    refine (sGradeMeet_any _ _ _ _ _ _ _ _ _ _ _ _ _).mono ?_
    rintro _ w3 ⟨rfl, hb1⟩
    rw [HO.out, HG.out]
    replace hA := hA.below hb1 hA.lt
    replace hB := hB.below hb1 hB.lt
    replace hX := hX.below hb1 hX.lt
    replace hb := below_next hb hb1
    clear hb1
    have hY := Blk.made w3 30 #[.int .i64 0, .int .i64 0, .int .i64 0, .int .i64 0, .int .i64 0, .int .i64 0]
    replace hA := hA.alloc (.cells #[.int .i64 0, .int .i64 0, .int .i64 0, .int .i64 0, .int .i64 0, .int .i64 0] 30)
    replace hB := hB.alloc (.cells #[.int .i64 0, .int .i64 0, .int .i64 0, .int .i64 0, .int .i64 0, .int .i64 0] 30)
    replace hX := hX.alloc (.cells #[.int .i64 0, .int .i64 0, .int .i64 0, .int .i64 0, .int .i64 0, .int .i64 0] 30)
    replace hb := hb.alloc hb.size (.cells #[.int .i64 0, .int .i64 0, .int .i64 0, .int .i64 0, .int .i64 0, .int .i64 0] 30)
    go_upto_region 6 with (fail)
    generalize w3.alloc _ = V2 at hA hB hX hY hb ⊢
    have e_hA := hA.cell
    have e_hB := hB.cell
    have e_hX := hX.cell
    have e_hY := hY.cell
    go_wp2_with fail
    clear e_hA e_hB e_hX e_hY
    refine (gradeMeet_any _ _ _ _ _ _ _ _ _ _ _ _ _).mono ?_
    rintro _ w4 ⟨rfl, hb1⟩
    rw [HO2.out, HG2.out]
    replace hA := hA.below hb1 hA.lt
    replace hB := hB.below hb1 hB.lt
    replace hX := hX.below hb1 hX.lt
    replace hY := hY.below hb1 hY.lt
    replace hb := below_next hb hb1
    clear hb1
    have hZ := Blk.made w4 30 #[.int .i64 0, .int .i64 0, .int .i64 0, .int .i64 0, .int .i64 0, .int .i64 0]
    replace hA := hA.alloc (.cells #[.int .i64 0, .int .i64 0, .int .i64 0, .int .i64 0, .int .i64 0, .int .i64 0] 30)
    replace hB := hB.alloc (.cells #[.int .i64 0, .int .i64 0, .int .i64 0, .int .i64 0, .int .i64 0, .int .i64 0] 30)
    replace hX := hX.alloc (.cells #[.int .i64 0, .int .i64 0, .int .i64 0, .int .i64 0, .int .i64 0, .int .i64 0] 30)
    replace hY := hY.alloc (.cells #[.int .i64 0, .int .i64 0, .int .i64 0, .int .i64 0, .int .i64 0, .int .i64 0] 30)
    replace hb := hb.alloc hb.size (.cells #[.int .i64 0, .int .i64 0, .int .i64 0, .int .i64 0, .int .i64 0, .int .i64 0] 30)
    go_upto_region 9 with (fail)
    generalize w4.alloc _ = V3 at hA hB hX hY hZ hb ⊢
    have e_hX := hX.cell
    have e_hZ := hZ.cell
    go_wp2_with fail
    refine (alive_any _).mono ?_
    rintro _ w9 ⟨rfl, hb1⟩
    go_wp2_with fail
    go_ret
    exact ⟨rfl, below_next hb hb1⟩
  | true =>
    have hmo2 := hmo
    rw [meetOk_comm] at hmo2
    have hmg2 := meetG_comm ⟨b1, b2, b3, b4, b5, b6⟩ ⟨a1, a2, a3, a4, a5, a6⟩
    have hi1 := meet_in hmo
    have hi2 := meet_in hmo2
    rw [hmg2] at hi2
    have hi3 := low_in (meet_ok hmo)
    generalize hmg : meetG ⟨a1, a2, a3, a4, a5, a6⟩ ⟨b1, b2, b3, b4, b5, b6⟩ = x at hi1 hi2 hi3 hmg2 ⊢
    obtain ⟨x1, x2, x3, x4, x5, x6⟩ := x
    simp only at hi3
    have HG := Lib.hid hmg
    have HG2 := Lib.hid hmg2
    have HO := Lib.hid hmo
    have HO2 := Lib.hid hmo2
    clear hmg hmg2 hmo hmo2
    have HI1 := Lib.hid hi1
    have HI2 := Lib.hid hi2
    have HI3 := Lib.hid hi3
    clear hi1 hi2 hi3
    have hX := Blk.made w2 30 #[.int .i64 x1, .int .i64 x2, .int .i64 x3, .int .i64 x4, .int .i64 x5, .int .i64 x6]
    replace hA := hA.alloc (.cells #[.int .i64 x1, .int .i64 x2, .int .i64 x3, .int .i64 x4, .int .i64 x5, .int .i64 x6] 30)
    replace hB := hB.alloc (.cells #[.int .i64 x1, .int .i64 x2, .int .i64 x3, .int .i64 x4, .int .i64 x5, .int .i64 x6] 30)
    replace hb := hb.alloc hb.size (.cells #[.int .i64 x1, .int .i64 x2, .int .i64 x3, .int .i64 x4, .int .i64 x5, .int .i64 x6] 30)
    go_upto_region 5 with (fail)
    generalize w2.alloc _ = V at hA hB hX hb ⊢
    have e_hA := hA.cell
    have e_hB := hB.cell
    go_wp2_with fail
    clear e_hA e_hB
    refine (sGradeMeet_any _ _ _ _ _ _ _ _ _ _ _ _ _).mono ?_
    rintro _ w3 ⟨rfl, hb1⟩
    rw [HO.out, HG.out]
    replace hA := hA.below hb1 hA.lt
    replace hB := hB.below hb1 hB.lt
    replace hX := hX.below hb1 hX.lt
    replace hb := below_next hb hb1
    clear hb1
    have hY := Blk.made w3 30 #[.int .i64 x1, .int .i64 x2, .int .i64 x3, .int .i64 x4, .int .i64 x5, .int .i64 x6]
    replace hA := hA.alloc (.cells #[.int .i64 x1, .int .i64 x2, .int .i64 x3, .int .i64 x4, .int .i64 x5, .int .i64 x6] 30)
    replace hB := hB.alloc (.cells #[.int .i64 x1, .int .i64 x2, .int .i64 x3, .int .i64 x4, .int .i64 x5, .int .i64 x6] 30)
    replace hX := hX.alloc (.cells #[.int .i64 x1, .int .i64 x2, .int .i64 x3, .int .i64 x4, .int .i64 x5, .int .i64 x6] 30)
    replace hb := hb.alloc hb.size (.cells #[.int .i64 x1, .int .i64 x2, .int .i64 x3, .int .i64 x4, .int .i64 x5, .int .i64 x6] 30)
    go_upto_region 6 with (fail)
    generalize w3.alloc _ = V2 at hA hB hX hY hb ⊢
    have e_hA := hA.cell
    have e_hB := hB.cell
    have e_hX := hX.cell
    have e_hY := hY.cell
    go_wp2_with fail
    clear e_hA e_hB e_hX e_hY
    refine (gradeMeet_any _ _ _ _ _ _ _ _ _ _ _ _ _).mono ?_
    rintro _ w4 ⟨rfl, hb1⟩
    rw [HO2.out, HG2.out]
    replace hA := hA.below hb1 hA.lt
    replace hB := hB.below hb1 hB.lt
    replace hX := hX.below hb1 hX.lt
    replace hY := hY.below hb1 hY.lt
    replace hb := below_next hb hb1
    clear hb1
    have hZ := Blk.made w4 30 #[.int .i64 x1, .int .i64 x2, .int .i64 x3, .int .i64 x4, .int .i64 x5, .int .i64 x6]
    replace hA := hA.alloc (.cells #[.int .i64 x1, .int .i64 x2, .int .i64 x3, .int .i64 x4, .int .i64 x5, .int .i64 x6] 30)
    replace hB := hB.alloc (.cells #[.int .i64 x1, .int .i64 x2, .int .i64 x3, .int .i64 x4, .int .i64 x5, .int .i64 x6] 30)
    replace hX := hX.alloc (.cells #[.int .i64 x1, .int .i64 x2, .int .i64 x3, .int .i64 x4, .int .i64 x5, .int .i64 x6] 30)
    replace hY := hY.alloc (.cells #[.int .i64 x1, .int .i64 x2, .int .i64 x3, .int .i64 x4, .int .i64 x5, .int .i64 x6] 30)
    replace hb := hb.alloc hb.size (.cells #[.int .i64 x1, .int .i64 x2, .int .i64 x3, .int .i64 x4, .int .i64 x5, .int .i64 x6] 30)
    go_upto_region 9 with (fail)
    generalize w4.alloc _ = V3 at hA hB hX hY hZ hb ⊢
    have e_hX := hX.cell
    have e_hZ := hZ.cell
    have e_hA := hA.cell
    have lX := hX.lt
    have lA := hA.lt
    have hL := Blk.made V3 30 #[.int .i64 x1, .int .i64 x1, .int .i64 x3, .int .i64 x3, .int .i64 x5, .int .i64 x5]
    replace hA := hA.alloc (.cells #[.int .i64 x1, .int .i64 x1, .int .i64 x3, .int .i64 x3, .int .i64 x5, .int .i64 x5] 30)
    replace hB := hB.alloc (.cells #[.int .i64 x1, .int .i64 x1, .int .i64 x3, .int .i64 x3, .int .i64 x5, .int .i64 x5] 30)
    replace hX := hX.alloc (.cells #[.int .i64 x1, .int .i64 x1, .int .i64 x3, .int .i64 x3, .int .i64 x5, .int .i64 x5] 30)
    replace hb := hb.alloc hb.size (.cells #[.int .i64 x1, .int .i64 x1, .int .i64 x3, .int .i64 x3, .int .i64 x5, .int .i64 x5] 30)
    go_upto_region 14 with (fail)
    clear e_hX e_hZ e_hA
    generalize V3.alloc _ = V4 at hA hB hX hL hb ⊢
    have e_hX := hX.cell
    have e_hA := hA.cell
    go_wp2_with fail
    clear e_hX e_hA
    refine (gradeWithin_any _ _ _ _ _ _ _ _ _ _ _ _ _).mono ?_
    rintro _ w5 ⟨rfl, hb1⟩
    replace hA := hA.below hb1 hA.lt
    replace hB := hB.below hb1 hB.lt
    replace hX := hX.below hb1 hX.lt
    replace hL := hL.below hb1 hL.lt
    replace hb := below_next hb hb1
    clear hb1
    rw [HI1.out]
    have e_hX := hX.cell
    have e_hB := hB.cell
    go_wp2_with fail
    clear e_hX e_hB
    refine (gradeWithin_any _ _ _ _ _ _ _ _ _ _ _ _ _).mono ?_
    rintro _ w6 ⟨rfl, hb1⟩
    replace hA := hA.below hb1 hA.lt
    replace hB := hB.below hb1 hB.lt
    replace hX := hX.below hb1 hX.lt
    replace hL := hL.below hb1 hL.lt
    replace hb := below_next hb hb1
    clear hb1
    rw [HI2.out]
    have e_hX := hX.cell
    have e_hL := hL.cell
    go_wp2_with fail
    clear e_hX e_hL
    refine (gradeWithin_any _ _ _ _ _ _ _ _ _ _ _ _ _).mono ?_
    rintro _ w7 ⟨rfl, hb1⟩
    replace hA := hA.below hb1 hA.lt
    replace hB := hB.below hb1 hB.lt
    replace hX := hX.below hb1 hX.lt
    replace hL := hL.below hb1 hL.lt
    replace hb := below_next hb hb1
    clear hb1
    rw [HI3.out]
    go_wp2_with fail
    go_ret
    exact ⟨rfl, hb⟩
end Go.Proofs.YtdfbkldppblefaaDoor
