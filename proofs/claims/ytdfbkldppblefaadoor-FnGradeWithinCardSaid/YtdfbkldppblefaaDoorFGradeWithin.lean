/-
  The walk of the law FnGradeWithin.
-/
import Derived.Test.YtdfbkldppblefaaDoorDw
import Derived.Test.YtdfbkldppblefaaDoorLat
namespace Go.Proofs.YtdfbkldppblefaaDoor
open Go.RowKit
set_option linter.unusedVariables false
theorem in_self (a : Grade) : gradeIn a a = gradeOk a := by simp [gradeIn, leB]
theorem in_eq {a b : Grade} (h1 : gradeIn a b = true) (h2 : gradeIn b a = true) : a = b := by
  simp only [gradeIn, leB, Bool.and_eq_true, decide_eq_true_eq] at h1 h2
  cases a; cases b
  simp only [Grade.mk.injEq] at h1 h2 ⊢
  omega
theorem maxI_left {x y : Int} : maxI x y = x ↔ y ≤ x := by unfold maxI; split <;> omega
theorem minI_left {x y : Int} : minI x y = x ↔ x ≤ y := by unfold minI; split <;> omega
theorem meet0_iff {a b : Grade} : meetG0 a b = a ↔ b.lc ≤ a.lc ∧ a.hc ≤ b.hc ∧ b.lm ≤ a.lm ∧ a.hm ≤ b.hm ∧ b.ls ≤ a.ls ∧ a.hs ≤ b.hs := by
  cases a; cases b
  simp only [meetG0, Grade.mk.injEq, maxI_left, minI_left]
theorem in_iff {a b : Grade} : gradeIn a b = true ↔ gradeOk a = true ∧ gradeOk b = true ∧ meetG0 a b = a := by
  rw [meet0_iff]
  simp only [gradeIn, leB, Bool.and_eq_true, decide_eq_true_eq, and_assoc]
theorem in_meet {a b : Grade} (h : gradeIn a b = true) : meetOk a b = true ∧ meetG a b = a := by
  obtain ⟨h1, h2, h3⟩ := in_iff.1 h
  have h4 : meetOk a b = true := by simp [meetOk, h1, h2, h3]
  exact ⟨h4, by simp [meetG, h4, h3]⟩
theorem not_in {a b : Grade} (h : gradeIn a b = false) (hm : meetOk a b = true) : meetG a b ≠ a := by
  intro he
  have h1 : gradeOk a = true ∧ gradeOk b = true := by
    simp only [meetOk, Bool.and_eq_true] at hm
    exact hm.1
  simp only [meetG, hm, if_true] at he
  have := in_iff.2 ⟨h1.1, h1.2, he⟩
  rw [h] at this
  cases this
theorem maxI_comm' (x y : Int) : maxI x y = maxI y x := by unfold maxI; split <;> split <;> omega
theorem minI_comm' (x y : Int) : minI x y = minI y x := by unfold minI; split <;> split <;> omega
theorem meet0_comm (a b : Grade) : meetG0 a b = meetG0 b a := by
  simp only [meetG0, maxI_comm' a.lc, maxI_comm' a.lm, maxI_comm' a.ls, minI_comm' a.hc, minI_comm' a.hm, minI_comm' a.hs]
theorem meetOk_comm (a b : Grade) : meetOk a b = meetOk b a := by
  simp only [meetOk, meet0_comm a b]
  cases gradeOk a <;> cases gradeOk b <;> rfl
theorem meetG_comm (a b : Grade) : meetG a b = meetG b a := by
  simp only [meetG, meetOk_comm a b, meet0_comm a b]
theorem meet_in {a b : Grade} (h : meetOk a b = true) : gradeIn (meetG a b) a = true := by
  have h0 := h
  simp only [meetOk, Bool.and_eq_true] at h
  simp only [meetG, h0, if_true]
  rw [in_iff]
  refine ⟨h.2, h.1.1, ?_⟩
  rw [meet0_iff]
  simp only [meetG0, maxI, minI]
  refine ⟨?_, ?_, ?_, ?_, ?_, ?_⟩ <;> split <;> omega
theorem low_in {g : Grade} (h : gradeOk g = true) : gradeIn ⟨g.lc, g.lc, g.lm, g.lm, g.ls, g.ls⟩ g = true := by
  simp only [gradeIn, gradeOk, rangeOk, leB, Bool.and_eq_true, decide_eq_true_eq, inB_iff] at h ⊢
  omega
theorem meet_ok {a b : Grade} (h : meetOk a b = true) : gradeOk (meetG a b) = true := by
  have h0 := h
  simp only [meetOk, Bool.and_eq_true] at h
  simp only [meetG, h0, if_true]
  exact h.2
theorem meet_none {a b : Grade} (h : meetOk a b = false) : meetG a b = ⟨0, 0, 0, 0, 0, 0⟩ := by simp [meetG, h]
set_option maxHeartbeats 4000000 in
theorem fnGradeWithin_walk (A : Option Addr) (n c : Nat) (l : List Int) (w : World) (hs : Sees w w.heap.size A (bys l)) (hl : l.length = n) (hby : ∀ z ∈ l, byteB z) (hc : n ≤ c) (hm : c ≤ maxLen) :
    Calls Tryd.prog 6 #[.slice A n c] w fun e w' => e = .returned (.bool true) ∧ Below w.heap.size w w' := by
  have hm' := hm
  unfold maxLen at hm'
  by_cases hn : n ≤ 1048576
  case neg =>
    go_enter Tryd.func6, Tryd.ntmps6
    go_wp2_with fail
    go_ret
    exact ⟨rfl, Below.refl _ _⟩
  go_enter Tryd.func6, Tryd.ntmps6
  go_wp2_with fail
  refine (drawGradeWithin_any A n c l _ hs hl hby hc hm).mono ?_
  rintro _ w1 ⟨⟨a1, a2, a3, a4, a5, a6⟩, ⟨b1, b2, b3, b4, b5, b6⟩, rfl, hb⟩
  have hA := (Blk.made w1 30 #[.int .i64 a1, .int .i64 a2, .int .i64 a3, .int .i64 a4, .int .i64 a5, .int .i64 a6]).alloc (.cells #[.int .i64 b1, .int .i64 b2, .int .i64 b3, .int .i64 b4, .int .i64 b5, .int .i64 b6] 30)
  have hB := Blk.made (w1.alloc (.cells #[.int .i64 a1, .int .i64 a2, .int .i64 a3, .int .i64 a4, .int .i64 a5, .int .i64 a6] 30)) 30 #[.int .i64 b1, .int .i64 b2, .int .i64 b3, .int .i64 b4, .int .i64 b5, .int .i64 b6]
  rw [show (w1.alloc (.cells #[.int .i64 a1, .int .i64 a2, .int .i64 a3, .int .i64 a4, .int .i64 a5, .int .i64 a6] 30)).heap.size = w1.heap.size + 1 by simp] at hB
  replace hb := (hb.alloc hb.size (.cells #[.int .i64 a1, .int .i64 a2, .int .i64 a3, .int .i64 a4, .int .i64 a5, .int .i64 a6] 30)).alloc (Nat.le_trans hb.size (by simp)) (.cells #[.int .i64 b1, .int .i64 b2, .int .i64 b3, .int .i64 b4, .int .i64 b5, .int .i64 b6] 30)
  go_wp2_with fail
  generalize (w1.alloc _).alloc _ = W at hA hB hb ⊢
  refine (gradeWithin_any _ _ _ _ _ _ _ _ _ _ _ _ _).mono ?_
  rintro _ w2 ⟨rfl, hb1⟩
  replace hA := hA.below hb1 hA.lt
  replace hB := hB.below hb1 hB.lt
  replace hb := below_next hb hb1
  clear hb1
  have e_hA := hA.cell
  have e_hB := hB.cell
  go_wp2_with fail
  clear e_hA e_hB
  refine (sGradeWithin_any _ _ _ _ _ _ _ _ _ _ _ _ _).mono ?_
  rintro _ w3 ⟨rfl, hb1⟩
  replace hA := hA.below hb1 hA.lt
  replace hB := hB.below hb1 hB.lt
  replace hb := below_next hb hb1
  clear hb1
  cases hin : gradeIn ⟨a1, a2, a3, a4, a5, a6⟩ ⟨b1, b2, b3, b4, b5, b6⟩ with
  | false =>
    have e_hA := hA.cell
    have e_hB := hB.cell
    go_wp2_with fail
    clear e_hA e_hB
    refine (gradeMeet_any _ _ _ _ _ _ _ _ _ _ _ _ _).mono ?_
    rintro _ w4 ⟨rfl, hb1⟩
    replace hA := hA.below hb1 hA.lt
    replace hB := hB.below hb1 hB.lt
    replace hb := below_next hb hb1
    clear hb1
    have hni := fun h => not_in hin h
    generalize meetG ⟨a1, a2, a3, a4, a5, a6⟩ ⟨b1, b2, b3, b4, b5, b6⟩ = x at hni ⊢
    generalize meetOk ⟨a1, a2, a3, a4, a5, a6⟩ ⟨b1, b2, b3, b4, b5, b6⟩ = mo at hni ⊢
    obtain ⟨x1, x2, x3, x4, x5, x6⟩ := x
    have hX := Blk.made w4 30 #[.int .i64 x1, .int .i64 x2, .int .i64 x3, .int .i64 x4, .int .i64 x5, .int .i64 x6]
    replace hA := hA.alloc (.cells #[.int .i64 x1, .int .i64 x2, .int .i64 x3, .int .i64 x4, .int .i64 x5, .int .i64 x6] 30)
    replace hB := hB.alloc (.cells #[.int .i64 x1, .int .i64 x2, .int .i64 x3, .int .i64 x4, .int .i64 x5, .int .i64 x6] 30)
    replace hb := hb.alloc hb.size (.cells #[.int .i64 x1, .int .i64 x2, .int .i64 x3, .int .i64 x4, .int .i64 x5, .int .i64 x6] 30)
    go_upto_region 8 with (fail)
    generalize w4.alloc _ = V at hA hB hX hb ⊢
    have hV := later_cell V
    have lA := hA.lt
    have lB := hB.lt
    have lX := hX.lt
    have h1 := fun (u : World) (h : Below V.heap.size V u) => gradeWithin_any a1 a2 a3 a4 a5 a6 a1 a2 a3 a4 a5 a6 u
    have h2 := fun (u : World) (h : Below V.heap.size V u) => gradeValid_any a1 a2 a3 a4 a5 a6 u
    simp only [in_self] at h1
    generalize gradeOk ⟨a1, a2, a3, a4, a5, a6⟩ = ga at h1 h2
    have H1 := Lib.hid h1
    have H2 := Lib.hid h2
    clear h1 h2
    have h3 : True := trivial
    clear hin
    have e_hA := hA.cell
    have e_hB := hB.cell
    have e_hX := hX.cell
    cases mo with
    | false =>
      cases ga
      all_goals
        refine wp_region_later (by kernel_rfl) (by kernel_rfl) ?_
        repeat (go_big_quiet_step ((first | (go_at_call 25; with_reducible exact Later.of _ (H1.out _ (Later.below _))) | (go_at_call 19; exact Later.of _ (H2.out _ (Later.below _))) | (go_at_call 17; exact Later.of _ (alive_any _)))))
        refine wpQuiet_nil ?_
        intro _ hw'
        obtain ⟨u, rfl⟩ := hw'
        have hu := u.below
        go_wp2_with fail
        go_ret
        exact ⟨rfl, below_next hb hu⟩
    | true =>
      have hne := hni rfl
      simp only [ne_eq, Grade.mk.injEq] at hne
      clear hni
      have hcase : x1 ≠ a1 ∨ (x1 = a1 ∧ x2 ≠ a2) ∨ (x1 = a1 ∧ x2 = a2 ∧ x3 ≠ a3) ∨ (x1 = a1 ∧ x2 = a2 ∧ x3 = a3 ∧ x4 ≠ a4) ∨ (x1 = a1 ∧ x2 = a2 ∧ x3 = a3 ∧ x4 = a4 ∧ x5 ≠ a5) ∨ (x1 = a1 ∧ x2 = a2 ∧ x3 = a3 ∧ x4 = a4 ∧ x5 = a5 ∧ x6 ≠ a6) := by omega
      clear hne
      rcases hcase with hd | ⟨rfl, hd⟩ | ⟨rfl, rfl, hd⟩ | ⟨rfl, rfl, rfl, hd⟩ | ⟨rfl, rfl, rfl, rfl, hd⟩ | ⟨rfl, rfl, rfl, rfl, rfl, hd⟩
      · have hd1 : (x1 == a1) = false := by simpa using hd
        have hd2 : decide (x1 = a1) = false := by simpa using hd
        have hd3 : (x1 = a1) = False := by simpa using hd
        clear hd
        cases ga
        all_goals
          refine wp_region_later (by kernel_rfl) (by kernel_rfl) ?_
          repeat (go_big_quiet_step ((first | (go_at_call 25; with_reducible exact Later.of _ (H1.out _ (Later.below _))) | (go_at_call 19; exact Later.of _ (H2.out _ (Later.below _))) | (go_at_call 17; exact Later.of _ (alive_any _)))))
          refine wpQuiet_nil ?_
          intro _ hw'
          obtain ⟨u, rfl⟩ := hw'
          have hu := u.below
          go_wp2_with fail
          go_ret
          exact ⟨rfl, below_next hb hu⟩
      · have hd1 : (x2 == a2) = false := by simpa using hd
        have hd2 : decide (x2 = a2) = false := by simpa using hd
        have hd3 : (x2 = a2) = False := by simpa using hd
        clear hd
        cases ga
        all_goals
          refine wp_region_later (by kernel_rfl) (by kernel_rfl) ?_
          repeat (go_big_quiet_step ((first | (go_at_call 25; with_reducible exact Later.of _ (H1.out _ (Later.below _))) | (go_at_call 19; exact Later.of _ (H2.out _ (Later.below _))) | (go_at_call 17; exact Later.of _ (alive_any _)))))
          refine wpQuiet_nil ?_
          intro _ hw'
          obtain ⟨u, rfl⟩ := hw'
          have hu := u.below
          go_wp2_with fail
          go_ret
          exact ⟨rfl, below_next hb hu⟩
      · have hd1 : (x3 == a3) = false := by simpa using hd
        have hd2 : decide (x3 = a3) = false := by simpa using hd
        have hd3 : (x3 = a3) = False := by simpa using hd
        clear hd
        cases ga
        all_goals
          refine wp_region_later (by kernel_rfl) (by kernel_rfl) ?_
          repeat (go_big_quiet_step ((first | (go_at_call 25; with_reducible exact Later.of _ (H1.out _ (Later.below _))) | (go_at_call 19; exact Later.of _ (H2.out _ (Later.below _))) | (go_at_call 17; exact Later.of _ (alive_any _)))))
          refine wpQuiet_nil ?_
          intro _ hw'
          obtain ⟨u, rfl⟩ := hw'
          have hu := u.below
          go_wp2_with fail
          go_ret
          exact ⟨rfl, below_next hb hu⟩
      · have hd1 : (x4 == a4) = false := by simpa using hd
        have hd2 : decide (x4 = a4) = false := by simpa using hd
        have hd3 : (x4 = a4) = False := by simpa using hd
        clear hd
        cases ga
        all_goals
          refine wp_region_later (by kernel_rfl) (by kernel_rfl) ?_
          repeat (go_big_quiet_step ((first | (go_at_call 25; with_reducible exact Later.of _ (H1.out _ (Later.below _))) | (go_at_call 19; exact Later.of _ (H2.out _ (Later.below _))) | (go_at_call 17; exact Later.of _ (alive_any _)))))
          refine wpQuiet_nil ?_
          intro _ hw'
          obtain ⟨u, rfl⟩ := hw'
          have hu := u.below
          go_wp2_with fail
          go_ret
          exact ⟨rfl, below_next hb hu⟩
      · have hd1 : (x5 == a5) = false := by simpa using hd
        have hd2 : decide (x5 = a5) = false := by simpa using hd
        have hd3 : (x5 = a5) = False := by simpa using hd
        clear hd
        cases ga
        all_goals
          refine wp_region_later (by kernel_rfl) (by kernel_rfl) ?_
          repeat (go_big_quiet_step ((first | (go_at_call 25; with_reducible exact Later.of _ (H1.out _ (Later.below _))) | (go_at_call 19; exact Later.of _ (H2.out _ (Later.below _))) | (go_at_call 17; exact Later.of _ (alive_any _)))))
          refine wpQuiet_nil ?_
          intro _ hw'
          obtain ⟨u, rfl⟩ := hw'
          have hu := u.below
          go_wp2_with fail
          go_ret
          exact ⟨rfl, below_next hb hu⟩
      · have hd1 : (x6 == a6) = false := by simpa using hd
        have hd2 : decide (x6 = a6) = false := by simpa using hd
        have hd3 : (x6 = a6) = False := by simpa using hd
        clear hd
        cases ga
        all_goals
          refine wp_region_later (by kernel_rfl) (by kernel_rfl) ?_
          repeat (go_big_quiet_step ((first | (go_at_call 25; with_reducible exact Later.of _ (H1.out _ (Later.below _))) | (go_at_call 19; exact Later.of _ (H2.out _ (Later.below _))) | (go_at_call 17; exact Later.of _ (alive_any _)))))
          refine wpQuiet_nil ?_
          intro _ hw'
          obtain ⟨u, rfl⟩ := hw'
          have hu := u.below
          go_wp2_with fail
          go_ret
          exact ⟨rfl, below_next hb hu⟩
  | true =>
    have e_hA := hA.cell
    have e_hB := hB.cell
    go_wp2_with fail
    clear e_hA e_hB
    refine (gradeMeet_any _ _ _ _ _ _ _ _ _ _ _ _ _).mono ?_
    rintro _ w4 ⟨rfl, hb1⟩
    replace hA := hA.below hb1 hA.lt
    replace hB := hB.below hb1 hB.lt
    replace hb := below_next hb hb1
    clear hb1
    obtain ⟨hmo, hmg⟩ := in_meet hin
    rw [hmo, hmg]
    clear hmo hmg
    have hX := Blk.made w4 30 #[.int .i64 a1, .int .i64 a2, .int .i64 a3, .int .i64 a4, .int .i64 a5, .int .i64 a6]
    replace hA := hA.alloc (.cells #[.int .i64 a1, .int .i64 a2, .int .i64 a3, .int .i64 a4, .int .i64 a5, .int .i64 a6] 30)
    replace hB := hB.alloc (.cells #[.int .i64 a1, .int .i64 a2, .int .i64 a3, .int .i64 a4, .int .i64 a5, .int .i64 a6] 30)
    replace hb := hb.alloc hb.size (.cells #[.int .i64 a1, .int .i64 a2, .int .i64 a3, .int .i64 a4, .int .i64 a5, .int .i64 a6] 30)
    go_upto_region 8 with (fail)
    generalize w4.alloc _ = V at hA hB hX hb ⊢
    have hV := later_cell V
    have lA := hA.lt
    have lB := hB.lt
    have lX := hX.lt
    have h1 := fun (u : World) (h : Below V.heap.size V u) => gradeWithin_any a1 a2 a3 a4 a5 a6 a1 a2 a3 a4 a5 a6 u
    have h2 := fun (u : World) (h : Below V.heap.size V u) => gradeValid_any a1 a2 a3 a4 a5 a6 u
    simp only [in_self] at h1
    generalize gradeOk ⟨a1, a2, a3, a4, a5, a6⟩ = ga at h1 h2
    have H1 := Lib.hid h1
    have H2 := Lib.hid h2
    clear h1 h2
    have h3 := fun (u : World) (h : Below V.heap.size V u) => gradeWithin_any b1 b2 b3 b4 b5 b6 a1 a2 a3 a4 a5 a6 u
    cases hin2 : gradeIn ⟨b1, b2, b3, b4, b5, b6⟩ ⟨a1, a2, a3, a4, a5, a6⟩ with
    | false =>
      simp only [hin2] at h3
      have H3 := Lib.hid h3
      clear h3 hin2 hin
      have e_hA := hA.cell
      have e_hB := hB.cell
      have e_hX := hX.cell
      cases ga
      all_goals
        refine wp_region_later (by kernel_rfl) (by kernel_rfl) ?_
        repeat (go_big_quiet_step ((first | (go_at_call 25; with_reducible exact Later.of _ (H1.out _ (Later.below _))) | (go_at_call 25; with_reducible exact Later.of _ (H3.out _ (Later.below _))) | (go_at_call 19; exact Later.of _ (H2.out _ (Later.below _))) | (go_at_call 17; exact Later.of _ (alive_any _)))))
        refine wpQuiet_nil ?_
        intro _ hw'
        obtain ⟨u, rfl⟩ := hw'
        have hu := u.below
        go_wp2_with fail
        go_ret
        exact ⟨rfl, below_next hb hu⟩
    | true =>
      simp only [hin2] at h3
      have H3 := Lib.hid h3
      have hab := in_eq hin hin2
      injection hab with q1 q2 q3 q4 q5 q6
      subst q1 q2 q3 q4 q5 q6
      clear h3 hin2 hin
      have e_hA := hA.cell
      have e_hB := hB.cell
      have e_hX := hX.cell
      cases ga
      all_goals
        refine wp_region_later (by kernel_rfl) (by kernel_rfl) ?_
        repeat (go_big_quiet_step ((first | (go_at_call 25; with_reducible exact Later.of _ (H1.out _ (Later.below _))) | (go_at_call 25; with_reducible exact Later.of _ (H3.out _ (Later.below _))) | (go_at_call 19; exact Later.of _ (H2.out _ (Later.below _))) | (go_at_call 17; exact Later.of _ (alive_any _)))))
        refine wpQuiet_nil ?_
        intro _ hw'
        obtain ⟨u, rfl⟩ := hw'
        have hu := u.below
        go_wp2_with fail
        go_ret
        exact ⟨rfl, below_next hb hu⟩
end Go.Proofs.YtdfbkldppblefaaDoor
