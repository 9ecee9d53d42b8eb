/-
  Plain laws of the cheapest mixture: a wider grade is never dearer, a dearer stuff never cheaper, no more can be melted. No program in sight.
-/
import Derived.Test.YtlhjncefckidjaaDoorPs
namespace Go.Proofs.YtlhjncefckidjaaDoor
set_option linter.unusedVariables false
theorem least_found {l : List Stuff} {g : Grade} {t : Int} (h : (mixBest l g t).2 = true) : mixLeast l g t = mixCost l (mixBest l g t).1 ∧ 0 ≤ mixLeast l g t ∧ mixLeast l g t ≤ 1188 := by
  obtain ⟨_, _, _, _, h5, h6, _⟩ := best_is h
  have e : mixLeast l g t = mixCost l (mixBest l g t).1 := by simp [mixLeast, h]
  have hs := sums_bounds h5
  have e2 : mixCost l (mixBest l g t).1 = costOf (l.zip (mixBest l g t).1) := by simp [mixCost, h5]
  refine ⟨e, ?_, ?_⟩ <;> rw [e, e2] <;> omega
theorem least_none {l : List Stuff} {g : Grade} {t : Int} (h : (mixBest l g t).2 = false) : mixLeast l g t = -1 := by simp [mixLeast, h]
theorem least_neg {l : List Stuff} {g : Grade} {t : Int} : (mixLeast l g t < 0 ↔ (mixBest l g t).2 = false) := by
  cases h : (mixBest l g t).2 with
  | false => simp [least_none h]
  | true =>
    have := (least_found h).2
    simp
    omega
def wideC (g : Grade) : Grade := ⟨0, 999, g.lm, g.hm, g.ls, g.hs⟩
theorem meets_wideC {l : List Stuff} {x : List Int} {g : Grade} (h : mixMeets l x g = true) : mixMeets l x (wideC g) = true := by
  rw [meets_iff] at h ⊢
  obtain ⟨h1, h2, h3, ⟨a1, a2⟩, b, c⟩ := h
  have hs := sums_bounds h1
  have hg := grade_bounds h2
  refine ⟨h1, ?_, h3, ⟨by simp only [wideC, Int.zero_mul]; omega, by simp only [wideC]; omega⟩, b, c⟩
  simp only [wideC, gradeOk, rangeOk, Bool.and_eq_true, inB_iff]
  omega
theorem wide_law {l : List Stuff} {g : Grade} {t : Int} (h : (mixBest l g t).2 = true) : 0 ≤ mixLeast l (wideC g) t ∧ mixLeast l (wideC g) t ≤ mixLeast l g t := by
  obtain ⟨_, _, _, h4, h5, h6, h7⟩ := best_is h
  obtain ⟨k1, k2⟩ := best_least h4 (meets_wideC h7) h6
  obtain ⟨e1, e2, _⟩ := least_found k1
  exact ⟨e2, by rw [e1, (least_found h).1]; exact k2⟩
/-- The first stuff costs one more. -/
def dearS : List Stuff → List Stuff
  | [] => []
  | s :: l => ⟨s.c, s.m, s.s, s.p + 1, s.k⟩ :: l
theorem dear_len (l : List Stuff) : (dearS l).length = l.length := by cases l <;> simp [dearS]
theorem dear_ok {s : Stuff} {l : List Stuff} (h : stuffsOk (s :: l) = true) (hp : s.p + 1 ≤ 99) : stuffsOk (dearS (s :: l)) = true := by
  simp only [stuffsOk, dearS, Bool.and_eq_true, List.all_cons, decide_eq_true_eq, List.length_cons, stuffOk, inB_iff] at h ⊢
  obtain ⟨h1, ⟨⟨⟨⟨h2, h3⟩, h4⟩, h5⟩, h6⟩, h7⟩ := h
  exact ⟨by simpa using h1, ⟨⟨⟨⟨h2, h3⟩, h4⟩, by omega⟩, h6⟩, h7⟩
theorem dear_mix {s : Stuff} {l : List Stuff} {x : List Int} (h : stuffsOk (s :: l) = true) (h' : stuffsOk (dearS (s :: l)) = true) : mixOk (dearS (s :: l)) x = mixOk (s :: l) x := by
  have e : mixAll (dearS (s :: l)) x = mixAll (s :: l) x := by
    cases x with
    | nil => rfl
    | cons y x => simp [mixAll, dearS, pairOk]
  unfold mixOk
  rw [h, h', e, dear_len]
theorem dear_sums {s : Stuff} {l : List Stuff} {x : List Int} : sumC ((dearS (s :: l)).zip x) = sumC ((s :: l).zip x) ∧ sumM ((dearS (s :: l)).zip x) = sumM ((s :: l).zip x) ∧ sumS ((dearS (s :: l)).zip x) = sumS ((s :: l).zip x) := by
  cases x with
  | nil => exact ⟨rfl, rfl, rfl⟩
  | cons y x => simp [dearS, sumC, sumM, sumS]
theorem dear_meets {s : Stuff} {l : List Stuff} {x : List Int} {g : Grade} (h : stuffsOk (s :: l) = true) (h' : stuffsOk (dearS (s :: l)) = true) : mixMeets (dearS (s :: l)) x g = mixMeets (s :: l) x g := by
  obtain ⟨e1, e2, e3⟩ := @dear_sums s l x
  unfold mixMeets ofC ofM ofS
  rw [dear_mix h h', e1, e2, e3]
theorem dear_cost {s : Stuff} {l : List Stuff} {x : List Int} (h : stuffsOk (s :: l) = true) (h' : stuffsOk (dearS (s :: l)) = true) (hx : mixOk (s :: l) x = true) : mixCost (s :: l) x ≤ mixCost (dearS (s :: l)) x ∧ mixCost (dearS (s :: l)) x ≤ mixCost (s :: l) x + tonsOf x := by
  have hx' : mixOk (dearS (s :: l)) x = true := by rw [dear_mix h h']; exact hx
  simp only [mixCost, hx, hx', if_true]
  rw [costOf_sum hx, costOf_sum hx', tons_sum hx]
  have hpq := fun p hp => mix_pair hx (p := p) hp
  cases x with
  | nil => simp [sumF, dearS]
  | cons y x =>
    simp only [dearS, List.zip_cons_cons, sumF] at hpq ⊢
    have h1 := hpq (s, y) List.mem_cons_self
    simp only at h1
    have h2 : 0 ≤ sumF (fun p : Stuff × Int => p.2) (l.zip x) := by
      have := sumF_bounds (f := fun p : Stuff × Int => p.2) (M := 9) (by omega) (l := l.zip x) (fun p hp => by have := hpq p (List.mem_cons_of_mem _ hp); omega)
      omega
    have e : y * (s.p + 1) = y * s.p + y := by rw [Int.mul_add, Int.mul_one]
    rw [e]
    omega
theorem dear_law {s : Stuff} {l : List Stuff} {g : Grade} {t : Int} (h : (mixBest (s :: l) g t).2 = true) (hp : s.p + 1 ≤ 99) : mixLeast (s :: l) g t ≤ mixLeast (dearS (s :: l)) g t ∧ mixLeast (dearS (s :: l)) g t ≤ mixLeast (s :: l) g t + t := by
  obtain ⟨h1, h2, h3, h4, h5, h6, h7⟩ := best_is h
  have h' := dear_ok h1 hp
  obtain ⟨k1, k2⟩ := best_least (l := dearS (s :: l)) h4 (by rw [dear_meets h1 h']; exact h7) h6
  obtain ⟨m1, m2, m3, m4, m5, m6, m7⟩ := best_is k1
  rw [dear_meets h1 h'] at m7
  rw [dear_mix h1 h'] at m5
  obtain ⟨_, k4⟩ := best_least (l := s :: l) h4 m7 m6
  have c1 := dear_cost h1 h' h5
  have c2 := dear_cost h1 h' m5
  rw [(least_found h).1, (least_found k1).1]
  rw [h6] at c1
  omega
/-! ### the most that can be melted -/
theorem mostTo_is (l : List Stuff) (g : Grade) (n : Nat) : 0 ≤ mostTo l g n ∧ mostTo l g n ≤ n ∧ (mostTo l g n ≠ 0 → (mixBest l g (mostTo l g n)).2 = true) ∧ ∀ t : Int, mostTo l g n < t → t ≤ n → (mixBest l g t).2 = false := by
  induction n with
  | zero => exact ⟨by simp [mostTo], by simp [mostTo], by simp [mostTo], fun t h1 h2 => by simp [mostTo] at h1; omega⟩
  | succ n ih =>
    obtain ⟨i1, i2, i3, i4⟩ := ih
    simp only [mostTo]
    cases h : (mixBest l g ((n : Int) + 1)).2 with
    | true => simp only [if_true]; exact ⟨by omega, by omega, fun _ => h, fun t h1 h2 => by omega⟩
    | false =>
      simp only [Bool.false_eq_true, if_false]
      refine ⟨i1, by omega, i3, fun t h1 h2 => ?_⟩
      by_cases ht : t = (n : Int) + 1
      · rw [ht]; exact h
      · exact i4 t h1 (by omega)
theorem most_neg {l : List Stuff} {g : Grade} : mixMost l g < 0 ↔ (stuffsOk l && gradeOk g) = false := by
  unfold mixMost
  cases h : stuffsOk l && gradeOk g with
  | false => simp
  | true =>
    have := (mostTo_is l g 12).1
    simp
    omega
theorem most_is {l : List Stuff} {g : Grade} (h : 0 ≤ mixMost l g) {t : Int} (h1 : 1 ≤ t) (h2 : t ≤ 12) : (mixMost l g < t → (mixBest l g t).2 = false) ∧ (t = mixMost l g → (mixBest l g t).2 = true) := by
  unfold mixMost at h ⊢
  split at h
  · rename_i hc
    rw [if_pos hc]
    obtain ⟨i1, i2, i3, i4⟩ := mostTo_is l g 12
    exact ⟨fun k => i4 t k h2, fun e => by rw [e]; exact i3 (by omega)⟩
  · omega
theorem most_le {l : List Stuff} {g : Grade} : mixMost l g ≤ 12 := by
  unfold mixMost
  split
  · exact (mostTo_is l g 12).2.1
  · omega
/-! ### what the law on the cheapest mixture says -/
theorem best_other {l : List Stuff} {x : List Int} {g : Grade} (h : mixMeets l x g = true) (hn : tonsOf x ≤ 12) : 0 ≤ mixLeast l g (tonsOf x) ∧ mixLeast l g (tonsOf x) ≤ mixCost l x := by
  obtain ⟨k1, k2⟩ := best_least hn h rfl
  obtain ⟨e1, e2, _⟩ := least_found k1
  exact ⟨e2, by rw [e1]; exact k2⟩
theorem best_none {l : List Stuff} {g : Grade} {t : Int} (h : (mixBest l g t).2 = false) : (mixBest l g t).1 = [] := by
  unfold mixBest at h ⊢
  split at h
  · rename_i hc
    rw [if_pos hc]
    rcases bestS_mem l g (allM l [] t) ([], false) with e | ⟨q1, _, _⟩
    · unfold bestS; rw [e]
    · unfold bestS at h; rw [q1] at h; cases h
  · rename_i hc; rw [if_neg hc]
theorem best_len {l : List Stuff} {g : Grade} {t : Int} : (mixBest l g t).1.length ≤ 4 := by
  cases h : (mixBest l g t).2 with
  | false => rw [best_none h]; simp
  | true =>
    obtain ⟨h1, _, _, _, h5, _, _⟩ := best_is h
    have := mixOk_len h5
    have := stuffs_len h1
    omega
end Go.Proofs.YtlhjncefckidjaaDoor
