/-
  Plain laws of the search for the cheapest mixture: all mixtures in ascending order, the first of the cheapest, and what the search's own state keeps. No program in sight.
-/
import Derived.Test.YtlhjncefckidjaaDoorPn
namespace Go.Proofs.YtlhjncefckidjaaDoor
set_option linter.unusedVariables false
/-- All mixtures of t tons over the stuffs r that begin with pre, in ascending order. -/
def allM : List Stuff → List Int → Int → List (List Int)
  | [], pre, t => if t = 0 then [pre] else []
  | s :: r, pre, t => (upM (minI t s.k)).flatMap fun n => allM r (pre ++ [n]) (t - n)
where upM (m : Int) : List Int := (List.range (m + 1).toNat).map fun (i : Nat) => (i : Int)
/-- What the reference keeps: the best mixture so far and whether there is one. -/
def keepS (l : List Stuff) (g : Grade) (b : List Int × Bool) (x : List Int) : List Int × Bool :=
  if mixMeets l x g && (!b.2 || decide (mixCost l x < mixCost l b.1)) then (x, true) else b
/-- What the program keeps: best, cost, found. -/
def keepP (l : List Stuff) (g : Grade) (b : List Int × Int × Bool) (x : List Int) : List Int × Int × Bool :=
  if mixMeets l x g && (!b.2.2 || decide (mixCost l x < b.2.1)) then (x, mixCost l x, true) else b
def bestS (l : List Stuff) (g : Grade) (xs : List (List Int)) : List Int × Bool := xs.foldl (keepS l g) ([], false)
def bestP (l : List Stuff) (g : Grade) (b : List Int × Int × Bool) (xs : List (List Int)) : List Int × Int × Bool := xs.foldl (keepP l g) b
/-- Both keep the same mixture. -/
theorem keep_same (l : List Stuff) (g : Grade) (xs : List (List Int)) : ∀ (b : List Int × Bool) (p : List Int × Int × Bool), p.1 = b.1 → p.2.2 = b.2 → (b.2 = true → p.2.1 = mixCost l b.1) →
    (xs.foldl (keepP l g) p).1 = (xs.foldl (keepS l g) b).1 ∧ (xs.foldl (keepP l g) p).2.2 = (xs.foldl (keepS l g) b).2 ∧ ((xs.foldl (keepS l g) b).2 = true → (xs.foldl (keepP l g) p).2.1 = mixCost l (xs.foldl (keepS l g) b).1) := by
  induction xs with
  | nil => intro b p h1 h2 h3; exact ⟨h1, h2, h3⟩
  | cons x xs ih =>
    intro b p h1 h2 h3
    simp only [List.foldl_cons]
    have e : (mixMeets l x g && (!p.2.2 || decide (mixCost l x < p.2.1))) = (mixMeets l x g && (!b.2 || decide (mixCost l x < mixCost l b.1))) := by
      rw [h2]
      cases hb : b.2 with
      | false => simp
      | true => rw [h3 hb]
    refine ih _ _ ?_ ?_ ?_
    · unfold keepP keepS
      rw [e]
      split
      · rfl
      · exact h1
    · unfold keepP keepS
      rw [e]
      split
      · rfl
      · exact h2
    · unfold keepP keepS
      rw [e]
      split
      · intro _; rfl
      · exact h3
theorem best_same (l : List Stuff) (g : Grade) (xs : List (List Int)) : (bestP l g ([], 0, false) xs).1 = (bestS l g xs).1 ∧ (bestP l g ([], 0, false) xs).2.2 = (bestS l g xs).2 := by
  obtain ⟨h1, h2, _⟩ := keep_same l g xs ([], false) ([], 0, false) rfl rfl (by simp)
  exact ⟨h1, h2⟩
/-- What is kept is one of the list, and of the grade. -/
theorem bestS_mem (l : List Stuff) (g : Grade) (xs : List (List Int)) : ∀ b : List Int × Bool, (xs.foldl (keepS l g) b) = b ∨ ((xs.foldl (keepS l g) b).2 = true ∧ (xs.foldl (keepS l g) b).1 ∈ xs ∧ mixMeets l (xs.foldl (keepS l g) b).1 g = true) := by
  induction xs with
  | nil => intro b; exact .inl rfl
  | cons x xs ih =>
    intro b
    simp only [List.foldl_cons]
    rcases ih (keepS l g b x) with h | ⟨h1, h2, h3⟩
    · rw [h]
      unfold keepS
      split
      · rename_i hk
        right
        rw [Bool.and_eq_true] at hk
        exact ⟨rfl, List.mem_cons_self, hk.1⟩
      · exact .inl rfl
    · exact .inr ⟨h1, List.mem_cons_of_mem _ h2, h3⟩
/-- Nothing of the list that is of the grade is cheaper. -/
theorem bestS_least (l : List Stuff) (g : Grade) (xs : List (List Int)) : ∀ b : List Int × Bool,
    (b.2 = true → (xs.foldl (keepS l g) b).2 = true ∧ mixCost l (xs.foldl (keepS l g) b).1 ≤ mixCost l b.1) ∧ (∀ x ∈ xs, mixMeets l x g = true → (xs.foldl (keepS l g) b).2 = true ∧ mixCost l (xs.foldl (keepS l g) b).1 ≤ mixCost l x) := by
  induction xs with
  | nil => intro b; exact ⟨fun h => ⟨h, Int.le_refl _⟩, fun x hx => by simp at hx⟩
  | cons x xs ih =>
    intro b
    simp only [List.foldl_cons]
    obtain ⟨i1, i2⟩ := ih (keepS l g b x)
    have hk1 : b.2 = true → (keepS l g b x).2 = true ∧ mixCost l (keepS l g b x).1 ≤ mixCost l b.1 := by
      intro hb
      unfold keepS
      split
      · rename_i hk
        rw [Bool.and_eq_true, hb] at hk
        simp at hk
        exact ⟨rfl, by simp only; omega⟩
      · exact ⟨hb, Int.le_refl _⟩
    have hk2 : mixMeets l x g = true → (keepS l g b x).2 = true ∧ mixCost l (keepS l g b x).1 ≤ mixCost l x := by
      intro hm
      unfold keepS
      split
      · exact ⟨rfl, Int.le_refl _⟩
      · rename_i hk
        rw [hm, Bool.true_and] at hk
        cases hb : b.2 with
        | false => rw [hb] at hk; simp at hk
        | true =>
          rw [hb] at hk
          simp at hk
          exact ⟨rfl, hk⟩
    refine ⟨fun hb => ?_, fun y hy hm => ?_⟩
    · obtain ⟨q1, q2⟩ := hk1 hb
      obtain ⟨q3, q4⟩ := i1 q1
      exact ⟨q3, Int.le_trans q4 q2⟩
    · rcases List.mem_cons.1 hy with rfl | hy
      · obtain ⟨q1, q2⟩ := hk2 hm
        obtain ⟨q3, q4⟩ := i1 q1
        exact ⟨q3, Int.le_trans q4 q2⟩
      · exact i2 y hy hm
theorem upM_mem {m n : Int} : n ∈ allM.upM m ↔ 0 ≤ n ∧ n ≤ m := by
  unfold allM.upM
  rw [List.mem_map]
  constructor
  · rintro ⟨i, hi, rfl⟩
    rw [List.mem_range] at hi
    omega
  · rintro ⟨h1, h2⟩
    exact ⟨n.toNat, by rw [List.mem_range]; omega, by omega⟩
theorem sumF_cons {α : Type} (f : α → Int) (a : α) (l : List α) : sumF f (a :: l) = f a + sumF f l := by simp [sumF]
theorem sumF_nonneg {l : List Int} (h : ∀ a ∈ l, 0 ≤ a) : 0 ≤ sumF id l := by
  induction l with
  | nil => simp [sumF]
  | cons a l ih =>
    rw [sumF_cons]
    have h1 := h a List.mem_cons_self
    have h2 := ih fun b hb => h b (List.mem_cons_of_mem _ hb)
    simp only [id]
    omega
theorem allM_up {m n : Int} : n ∈ allM.upM m ↔ 0 ≤ n ∧ n ≤ m := upM_mem
/-- The mixtures of the first n shares of the next stuff. -/
def allN (r : List Stuff) (pre : List Int) (t : Int) (n : Nat) : List (List Int) := (List.range n).flatMap fun (i : Nat) => allM r (pre ++ [(i : Int)]) (t - (i : Int))
theorem allN_zero (r : List Stuff) (pre : List Int) (t : Int) : allN r pre t 0 = [] := rfl
theorem allN_succ (r : List Stuff) (pre : List Int) (t : Int) (n : Nat) : allN r pre t (n + 1) = allN r pre t n ++ allM r (pre ++ [(n : Int)]) (t - (n : Int)) := by
  unfold allN
  rw [List.range_succ, List.flatMap_append]
  simp
theorem allM_nil (pre : List Int) (t : Int) : allM [] pre t = if t = 0 then [pre] else [] := by
  simp only [allM]
theorem allM_cons (s : Stuff) (r : List Stuff) (pre : List Int) (t : Int) : allM (s :: r) pre t = allN r pre t (minI t s.k + 1).toNat := by
  simp only [allM]
  unfold allN allM.upM
  rw [List.flatMap_map]
/-- What all mixtures are. -/
theorem allM_mem (r : List Stuff) : ∀ (pre : List Int) (t : Int) (x : List Int), x ∈ allM r pre t ↔ ∃ y, x = pre ++ y ∧ y.length = r.length ∧ (∀ p ∈ r.zip y, 0 ≤ p.2 ∧ p.2 ≤ p.1.k) ∧ sumF id y = t := by
  induction r with
  | nil =>
    intro pre t x
    rw [allM_nil]
    constructor
    · intro h
      split at h
      · rename_i ht
        rw [List.mem_singleton] at h
        exact ⟨[], by rw [h, List.append_nil], rfl, by simp, by simp [sumF, ht]⟩
      · simp at h
    · rintro ⟨y, rfl, hy, _, ht⟩
      have hy0 : y = [] := List.length_eq_zero_iff.1 hy
      subst hy0
      simp [sumF] at ht
      simp [← ht]
  | cons s r ih =>
    intro pre t x
    simp only [allM]
    rw [List.mem_flatMap]
    constructor
    · rintro ⟨n, hn, hx⟩
      rw [allM_up] at hn
      obtain ⟨y, rfl, hl, hp, hs⟩ := (ih _ _ _).1 hx
      have hm := minI_eq t s.k
      refine ⟨n :: y, by simp, by simp [hl], ?_, ?_⟩
      · intro p hpm
        rw [List.zip_cons_cons] at hpm
        rcases List.mem_cons.1 hpm with rfl | hpm
        · exact ⟨hn.1, by simp only; omega⟩
        · exact hp p hpm
      · simp only [sumF_cons, id, hs]
        omega
    · rintro ⟨y, rfl, hl, hp, hs⟩
      match y, hl, hp, hs with
      | n :: y, hl, hp, hs =>
        have hq := hp (s, n) (by rw [List.zip_cons_cons]; exact List.mem_cons_self)
        simp only [sumF_cons, id] at hs
        have hl' : y.length = r.length := by simpa using hl
        have hp' : ∀ p ∈ r.zip y, 0 ≤ p.2 ∧ p.2 ≤ p.1.k := fun p h => hp p (by rw [List.zip_cons_cons]; exact List.mem_cons_of_mem _ h)
        have h0 : 0 ≤ sumF id y := by
          refine sumF_nonneg fun a ha => ?_
          obtain ⟨q, hq⟩ := mem_of_zip hl' ha
          exact (hp' _ hq).1
        have hm := minI_eq t s.k
        refine ⟨n, ?_, ?_⟩
        · rw [allM_up]
          simp only at hq
          omega
        · exact (ih _ _ _).2 ⟨y, by simp, hl', hp', by omega⟩
theorem zip_sum {l : List Stuff} {x : List Int} (h : x.length = l.length) : sumF (fun p : Stuff × Int => p.2) (l.zip x) = sumF id x := by
  have e := sumF_map id (fun p : Stuff × Int => p.2) (l.zip x)
  rw [zip_snd h] at e
  exact e.symm
theorem allM_valid {l : List Stuff} (h : stuffsOk l = true) {t : Int} {x : List Int} : x ∈ allM l [] t ↔ mixOk l x = true ∧ tonsOf x = t := by
  rw [allM_mem]
  constructor
  · rintro ⟨y, rfl, hl, hp, hs⟩
    have hm := mixOk_of h hl hp
    exact ⟨hm, ((tons_sum hm).trans (zip_sum hl)).trans hs⟩
  · rintro ⟨hm, ht⟩
    obtain ⟨_, hl, hp⟩ := mixOk_parts hm
    exact ⟨x, (List.nil_append x).symm, hl, hp, ((tons_sum hm).trans (zip_sum hl)).symm.trans ht⟩
def mixBest (l : List Stuff) (g : Grade) (t : Int) : List Int × Bool := if stuffsOk l && gradeOk g && inB t 1 12 then bestS l g (allM l [] t) else ([], false)
def mixLeast (l : List Stuff) (g : Grade) (t : Int) : Int := if (mixBest l g t).2 then mixCost l (mixBest l g t).1 else -1
def mostTo (l : List Stuff) (g : Grade) : Nat → Int
  | 0 => 0
  | n + 1 => if (mixBest l g ((n : Int) + 1)).2 then (n : Int) + 1 else mostTo l g n
def mixMost (l : List Stuff) (g : Grade) : Int := if stuffsOk l && gradeOk g then mostTo l g 12 else -1
/-- What is found is a mixture of so many tons and of the grade. -/
theorem best_is {l : List Stuff} {g : Grade} {t : Int} (h : (mixBest l g t).2 = true) : stuffsOk l = true ∧ gradeOk g = true ∧ 1 ≤ t ∧ t ≤ 12 ∧ mixOk l (mixBest l g t).1 = true ∧ tonsOf (mixBest l g t).1 = t ∧ mixMeets l (mixBest l g t).1 g = true := by
  unfold mixBest at h ⊢
  split at h
  · rename_i hc
    rw [Bool.and_eq_true, Bool.and_eq_true, inB_iff] at hc
    obtain ⟨⟨h1, h2⟩, h3, h4⟩ := hc
    rw [if_pos (by rw [Bool.and_eq_true, Bool.and_eq_true, inB_iff]; exact ⟨⟨h1, h2⟩, h3, h4⟩)]
    rcases bestS_mem l g (allM l [] t) ([], false) with e | ⟨_, q2, q3⟩
    · unfold bestS at h
      rw [e] at h
      simp at h
    · obtain ⟨r1, r2⟩ := (allM_valid h1).1 q2
      exact ⟨h1, h2, h3, h4, r1, r2, q3⟩
  · simp at h
/-- Whatever mixture of the grade makes so many tons is no cheaper than what is found. -/
theorem best_least {l : List Stuff} {g : Grade} {t : Int} (ht : t ≤ 12) {x : List Int} (hx : mixMeets l x g = true) (hs : tonsOf x = t) : (mixBest l g t).2 = true ∧ mixCost l (mixBest l g t).1 ≤ mixCost l x := by
  obtain ⟨h1, h2, h3, _⟩ := meets_iff.1 hx
  unfold mixBest
  rw [if_pos (by rw [Bool.and_eq_true, Bool.and_eq_true, inB_iff]; exact ⟨⟨(mixOk_parts h1).1, h2⟩, by omega, ht⟩)]
  exact (bestS_least l g (allM l [] t) ([], false)).2 x ((allM_valid (mixOk_parts h1).1).2 ⟨h1, hs⟩) hx
end Go.Proofs.YtlhjncefckidjaaDoor
