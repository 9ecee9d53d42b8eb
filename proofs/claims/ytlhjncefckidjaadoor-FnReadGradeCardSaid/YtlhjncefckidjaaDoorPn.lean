/-
  Plain laws of mixtures: with one ton less, taken away, melted together. No program in sight.
-/
import Derived.Test.YtlhjncefckidjaaDoorPm
namespace Go.Proofs.YtlhjncefckidjaaDoor
set_option linter.unusedVariables false

theorem sumF_set {α : Type} (f : α → Int) (l : List α) : ∀ (k : Nat) (a b : α), l[k]? = some a → sumF f (l.set k b) = sumF f l - f a + f b := by
  induction l with
  | nil => intro k a b h; simp at h
  | cons c l ih =>
    intro k a b h
    cases k with
    | zero => simp at h; subst h; simp only [List.set_cons_zero, sumF]; omega
    | succ k => simp at h; simp only [List.set_cons_succ, sumF]; rw [ih k a b h]; omega
theorem zip_set (l : List Stuff) : ∀ (x : List Int) (k : Nat) (s : Stuff) (u : Int), l[k]? = some s → l.zip (x.set k u) = (l.zip x).set k (s, u) := by
  induction l with
  | nil => intro x k s u h; simp at h
  | cons a l ih =>
    intro x k s u h
    cases x with
    | nil => simp
    | cons y x =>
      cases k with
      | zero => simp at h; subst h; rfl
      | succ k => simp at h; simp only [List.set_cons_succ, List.zip_cons_cons]; rw [ih x k s u h]
theorem mixOk_set {l : List Stuff} {x : List Int} (h : mixOk l x = true) {k : Nat} {s : Stuff} (hs : l[k]? = some s) (u : Int) : mixOk l (x.set k u) = inB u 0 s.k := by
  obtain ⟨h1, h2, h3⟩ := mixOk_parts h
  have hk : k < l.length := (List.getElem?_eq_some_iff.1 hs).1
  cases hu : inB u 0 s.k with
  | true =>
    rw [inB_iff] at hu
    refine mixOk_of h1 (by simp [h2]) fun p hp => ?_
    rw [zip_set l x k s u hs] at hp
    rcases List.mem_or_eq_of_mem_set hp with hp | rfl
    · exact h3 p hp
    · exact hu
  | false =>
    have hz : (l.zip (x.set k u))[k]? = some (s, u) := by
      rw [zip_set l x k s u hs, List.getElem?_set, if_pos rfl, if_pos (by simp; omega)]
    simp only [mixOk, mixAll, all_false_at pairOk _ _ _ hz hu, Bool.and_false]
theorem zip_get {l : List Stuff} {x : List Int} {k : Nat} {s : Stuff} {v : Int} (hs : l[k]? = some s) (hv : x[k]? = some v) : (l.zip x)[k]? = some (s, v) := zip_at hs hv
theorem less_ok {l : List Stuff} {x : List Int} (h : mixOk l x = true) {k : Nat} {s : Stuff} {v : Int} (hs : l[k]? = some s) (hv : x[k]? = some v) (hp : 0 < v) : mixOk l (x.set k (v - 1)) = true := by
  rw [mixOk_set h hs, inB_iff]
  have := (mixOk_parts h).2.2 _ (List.mem_of_getElem? (zip_get hs hv))
  simp only at this
  omega
theorem less_cost {l : List Stuff} {x : List Int} (h : mixOk l x = true) {k : Nat} {s : Stuff} {v : Int} (hs : l[k]? = some s) (hv : x[k]? = some v) (hp : 0 < v) : mixCost l (x.set k (v - 1)) = mixCost l x - s.p := by
  have h' := less_ok h hs hv hp
  simp only [mixCost, h, h', if_true]
  rw [costOf_sum h, costOf_sum h', zip_set l x k s _ hs, sumF_set _ _ k _ _ (zip_get hs hv)]
  simp only [Int.sub_mul]
  omega
theorem less_C {l : List Stuff} {x : List Int} (h : mixOk l x = true) {k : Nat} {s : Stuff} {v : Int} (hs : l[k]? = some s) (hv : x[k]? = some v) (hp : 0 < v) : mixSC l (x.set k (v - 1)) = mixSC l x - s.c := by
  have h' := less_ok h hs hv hp
  simp only [mixSC, h, h', if_true]
  rw [sumC_sum h, sumC_sum h', zip_set l x k s _ hs, sumF_set _ _ k _ _ (zip_get hs hv)]
  simp only [Int.sub_mul]
  omega
theorem less_M {l : List Stuff} {x : List Int} (h : mixOk l x = true) {k : Nat} {s : Stuff} {v : Int} (hs : l[k]? = some s) (hv : x[k]? = some v) (hp : 0 < v) : mixSM l (x.set k (v - 1)) = mixSM l x - s.m := by
  have h' := less_ok h hs hv hp
  simp only [mixSM, h, h', if_true]
  rw [sumM_sum h, sumM_sum h', zip_set l x k s _ hs, sumF_set _ _ k _ _ (zip_get hs hv)]
  simp only [Int.sub_mul]
  omega
theorem less_S {l : List Stuff} {x : List Int} (h : mixOk l x = true) {k : Nat} {s : Stuff} {v : Int} (hs : l[k]? = some s) (hv : x[k]? = some v) (hp : 0 < v) : mixSS l (x.set k (v - 1)) = mixSS l x - s.s := by
  have h' := less_ok h hs hv hp
  simp only [mixSS, h, h', if_true]
  rw [sumS_sum h, sumS_sum h', zip_set l x k s _ hs, sumF_set _ _ k _ _ (zip_get hs hv)]
  simp only [Int.sub_mul]
  omega
theorem none_ok {l : List Stuff} (h : stuffsOk l = true) : mixOk l (List.replicate l.length 0) = true := by
  refine mixOk_of h (by simp) fun p hp => ?_
  have h1 := (List.of_mem_zip (a := p.1) (b := p.2) hp).1
  have h2 := List.eq_of_mem_replicate (List.of_mem_zip (a := p.1) (b := p.2) hp).2
  have := stuff_bounds h h1
  omega
/-! ### the sums' bounds -/
theorem sums_bounds {l : List Stuff} {x : List Int} (h : mixOk l x = true) :
    (0 ≤ sumC (l.zip x) ∧ sumC (l.zip x) ≤ 999 * tonsOf x) ∧ (0 ≤ sumM (l.zip x) ∧ sumM (l.zip x) ≤ 999 * tonsOf x) ∧ (0 ≤ sumS (l.zip x) ∧ sumS (l.zip x) ≤ 999 * tonsOf x) ∧ 0 ≤ costOf (l.zip x) ∧ costOf (l.zip x) ≤ 99 * tonsOf x := by
  rw [sumC_sum h, sumM_sum h, sumS_sum h, costOf_sum h, tons_sum h, ← sumF_mul, ← sumF_mul]
  have key : ∀ (f : Stuff × Int → Int) (K : Int), (∀ p ∈ l.zip x, 0 ≤ f p ∧ f p ≤ K * p.2) → 0 ≤ sumF f (l.zip x) ∧ sumF f (l.zip x) ≤ sumF (fun p => K * p.2) (l.zip x) := by
    intro f K hf
    refine ⟨?_, sumF_le fun p hp => (hf p hp).2⟩
    have : sumF (fun _ => (0 : Int)) (l.zip x) ≤ sumF f (l.zip x) := sumF_le fun p hp => (hf p hp).1
    have e : ∀ q : List (Stuff × Int), sumF (fun _ => (0 : Int)) q = 0 := by
      intro q; induction q with
      | nil => rfl
      | cons a q ih => simp only [sumF, ih]; omega
    rw [e] at this
    exact this
  have mul_le : ∀ (a b K : Int), 0 ≤ a → 0 ≤ b → b ≤ K → 0 ≤ a * b ∧ a * b ≤ K * a := fun a b K h1 h2 h3 => ⟨Int.mul_nonneg h1 h2, by rw [Int.mul_comm K a]; exact Int.mul_le_mul_of_nonneg_left h3 h1⟩
  refine ⟨key _ 999 fun p hp => ?_, key _ 999 fun p hp => ?_, key _ 999 fun p hp => ?_, key _ 99 fun p hp => ?_⟩
  all_goals
    have g := mix_pair h hp
    exact mul_le _ _ _ (by omega) (by omega) (by omega)
/-! ### of a grade -/
theorem grade_bounds {g : Grade} (h : gradeOk g = true) : 0 ≤ g.lc ∧ g.lc ≤ g.hc ∧ g.hc ≤ 999 ∧ 0 ≤ g.lm ∧ g.lm ≤ g.hm ∧ g.hm ≤ 999 ∧ 0 ≤ g.ls ∧ g.ls ≤ g.hs ∧ g.hs ≤ 999 := by
  simp only [gradeOk, rangeOk, Bool.and_eq_true, inB_iff] at h
  omega
theorem w64_mul {a t : Int} (h1 : 0 ≤ a) (h2 : a ≤ 999) (h3 : 0 ≤ t) (h4 : t ≤ 36) : w64 (a * t) = a * t := by
  have := mul_bounds h1 h2 h3 h4
  exact w64_in (by omega) (by omega)
theorem meets_iff {l : List Stuff} {x : List Int} {g : Grade} : mixMeets l x g = true ↔ mixOk l x = true ∧ gradeOk g = true ∧ 1 ≤ tonsOf x ∧ (g.lc * tonsOf x ≤ sumC (l.zip x) ∧ sumC (l.zip x) ≤ g.hc * tonsOf x) ∧ (g.lm * tonsOf x ≤ sumM (l.zip x) ∧ sumM (l.zip x) ≤ g.hm * tonsOf x) ∧ (g.ls * tonsOf x ≤ sumS (l.zip x) ∧ sumS (l.zip x) ≤ g.hs * tonsOf x) := by
  simp only [mixMeets, Bool.and_eq_true, posB, decide_eq_true_eq, ofC, ofM, ofS, inB_iff]
  constructor
  · rintro ⟨⟨⟨⟨⟨h1, h2⟩, h3⟩, h4⟩, h5⟩, h6⟩
    have ht := tons_bounds h1
    have hg := grade_bounds h2
    rw [w64_mul (by omega) (by omega) (by omega) (by omega), w64_mul (by omega) (by omega) (by omega) (by omega)] at h4 h5 h6
    exact ⟨h1, h2, h3, h4, h5, h6⟩
  · rintro ⟨h1, h2, h3, h4, h5, h6⟩
    have ht := tons_bounds h1
    have hg := grade_bounds h2
    rw [w64_mul (by omega) (by omega) (by omega) (by omega), w64_mul (by omega) (by omega) (by omega) (by omega), w64_mul (by omega) (by omega) (by omega) (by omega), w64_mul (by omega) (by omega) (by omega) (by omega), w64_mul (by omega) (by omega) (by omega) (by omega), w64_mul (by omega) (by omega) (by omega) (by omega)]
    exact ⟨⟨⟨⟨⟨h1, h2⟩, h3⟩, h4⟩, h5⟩, h6⟩
theorem max_mul {a b t s : Int} (ht : 0 ≤ t) : maxI a b * t ≤ s ↔ a * t ≤ s ∧ b * t ≤ s := by
  have h1 : a * t ≤ maxI a b * t := Int.mul_le_mul_of_nonneg_right (by rw [maxI_eq]; omega) ht
  have h2 : b * t ≤ maxI a b * t := Int.mul_le_mul_of_nonneg_right (by rw [maxI_eq]; omega) ht
  have h3 : maxI a b = a ∨ maxI a b = b := by rw [maxI_eq]; omega
  constructor
  · intro h; omega
  · rintro ⟨g1, g2⟩; rcases h3 with e | e <;> rw [e] <;> assumption
theorem min_mul {a b t s : Int} (ht : 0 ≤ t) : s ≤ minI a b * t ↔ s ≤ a * t ∧ s ≤ b * t := by
  have h1 : minI a b * t ≤ a * t := Int.mul_le_mul_of_nonneg_right (by rw [minI_eq]; omega) ht
  have h2 : minI a b * t ≤ b * t := Int.mul_le_mul_of_nonneg_right (by rw [minI_eq]; omega) ht
  have h3 : minI a b = a ∨ minI a b = b := by rw [minI_eq]; omega
  constructor
  · intro h; omega
  · rintro ⟨g1, g2⟩; rcases h3 with e | e <;> rw [e] <;> assumption
theorem meets_meet {l : List Stuff} {x : List Int} {g o : Grade} (h : meetOk g o = true) : mixMeets l x (meetG g o) = (mixMeets l x g && mixMeets l x o) := by
  have hm : meetG g o = meetG0 g o := by simp [meetG, h]
  simp only [meetOk, Bool.and_eq_true] at h
  rw [hm, Bool.eq_iff_iff, Bool.and_eq_true, meets_iff, meets_iff, meets_iff]
  constructor
  · rintro ⟨h1, h2, h3, ⟨a1, a2⟩, ⟨b1, b2⟩, c1, c2⟩
    simp only [meetG0] at a1 a2 b1 b2 c1 c2
    rw [max_mul (by omega)] at a1 b1 c1
    rw [min_mul (by omega)] at a2 b2 c2
    exact ⟨⟨h1, h.1.1, h3, ⟨a1.1, a2.1⟩, ⟨b1.1, b2.1⟩, c1.1, c2.1⟩, h1, h.1.2, h3, ⟨a1.2, a2.2⟩, ⟨b1.2, b2.2⟩, c1.2, c2.2⟩
  · rintro ⟨⟨h1, h2, h3, ⟨a1, a2⟩, ⟨b1, b2⟩, c1, c2⟩, _, _, _, ⟨d1, d2⟩, ⟨e1, e2⟩, f1, f2⟩
    simp only [meetG0]
    rw [max_mul (by omega), max_mul (by omega), max_mul (by omega), min_mul (by omega), min_mul (by omega), min_mul (by omega)]
    exact ⟨h1, h.2, h3, ⟨⟨a1, d1⟩, a2, d2⟩, ⟨⟨b1, e1⟩, b2, e2⟩, ⟨c1, f1⟩, c2, f2⟩
theorem meets_wide {l : List Stuff} {x : List Int} {g : Grade} (h : mixMeets l x g = true) : mixMeets l x ⟨0, g.hc, g.lm, 999, g.ls, g.hs⟩ = true := by
  rw [meets_iff] at h ⊢
  obtain ⟨h1, h2, h3, ⟨a1, a2⟩, ⟨b1, b2⟩, c1, c2⟩ := h
  have hs := sums_bounds h1
  have hg := grade_bounds h2
  refine ⟨h1, ?_, h3, ⟨by simp only [Int.zero_mul]; omega, a2⟩, ⟨b1, by simp only; omega⟩, c1, c2⟩
  simp only [gradeOk, rangeOk, Bool.and_eq_true, inB_iff]
  omega
/-- Each stuff with the greatest stock; each number doubled. -/
def muchS (l : List Stuff) : List Stuff := l.map fun s => ⟨s.c, s.m, s.s, s.p, 9⟩
def doubleI (x : List Int) : List Int := x.map fun a => 2 * a
theorem zip_double (l : List Stuff) (x : List Int) : (muchS l).zip (doubleI x) = (l.zip x).map fun p => (⟨p.1.c, p.1.m, p.1.s, p.1.p, 9⟩, 2 * p.2) := by
  induction l generalizing x with
  | nil => rfl
  | cons a l ih =>
    cases x with
    | nil => rfl
    | cons y x =>
      have := ih x
      simp only [muchS, doubleI, List.map_cons, List.zip_cons_cons] at this ⊢
      rw [this]
theorem meets_double {l : List Stuff} {x : List Int} {g : Grade} (h : mixMeets l x g = true) (hd : mixOk (muchS l) (doubleI x) = true) : mixMeets (muchS l) (doubleI x) g = true := by
  rw [meets_iff] at h ⊢
  obtain ⟨h1, h2, h3, ⟨a1, a2⟩, ⟨b1, b2⟩, c1, c2⟩ := h
  have e : ∀ f : Stuff × Int → Int, (∀ p ∈ l.zip x, f (⟨p.1.c, p.1.m, p.1.s, p.1.p, 9⟩, 2 * p.2) = 2 * f p) → sumF f ((muchS l).zip (doubleI x)) = 2 * sumF f (l.zip x) := by
    intro f hf
    rw [zip_double, sumF_map, sumF_congr hf, sumF_mul]
  have et : tonsOf (doubleI x) = 2 * tonsOf x := by rw [tons_sum hd, tons_sum h1]; exact e _ fun p hp => rfl
  have eC : sumC ((muchS l).zip (doubleI x)) = 2 * sumC (l.zip x) := by rw [sumC_sum hd, sumC_sum h1]; exact e _ fun p hp => by simp only [Int.mul_assoc]
  have eM : sumM ((muchS l).zip (doubleI x)) = 2 * sumM (l.zip x) := by rw [sumM_sum hd, sumM_sum h1]; exact e _ fun p hp => by simp only [Int.mul_assoc]
  have eS : sumS ((muchS l).zip (doubleI x)) = 2 * sumS (l.zip x) := by rw [sumS_sum hd, sumS_sum h1]; exact e _ fun p hp => by simp only [Int.mul_assoc]
  rw [et, eC, eM, eS]
  have tw : ∀ a t : Int, a * (2 * t) = 2 * (a * t) := fun a t => by rw [← Int.mul_assoc, Int.mul_comm a 2, Int.mul_assoc]
  simp only [tw]
  refine ⟨hd, h2, by omega, ⟨by omega, by omega⟩, ⟨by omega, by omega⟩, by omega, by omega⟩
/-! ### what is taken -/
theorem taken_stuffs {l : List Stuff} {x : List Int} (h : mixOk l x = true) : stuffsOk (takenS l x) = true := by
  obtain ⟨h1, h2, h3⟩ := mixOk_parts h
  have hl := stuffs_len h1
  simp only [takenS, h, if_true, stuffsOk, Bool.and_eq_true, decide_eq_true_eq]
  refine ⟨by simp; omega, List.all_eq_true.2 fun s hs => ?_⟩
  obtain ⟨p, hp, rfl⟩ := List.mem_map.1 hs
  have g := mix_pair h hp
  simp only [takeS, stuffOk, Bool.and_eq_true, inB_iff]
  rw [w64_in (by omega) (by omega)]
  omega
def stockSum (l : List Stuff) : Int := sumF (fun s => s.k) l
theorem taken_tons {l : List Stuff} {x : List Int} (h : mixOk l x = true) : stockSum l - stockSum (takenS l x) = tonsOf x := by
  obtain ⟨h1, h2, h3⟩ := mixOk_parts h
  have e1 : takenS l x = (l.zip x).map takeS := by simp [takenS, h]
  have e2 : stockSum (takenS l x) = sumF (fun p => p.1.k - p.2) (l.zip x) := by
    rw [e1]
    unfold stockSum
    rw [sumF_map]
    refine sumF_congr fun p hp => ?_
    have g := mix_pair h hp
    simp only [takeS]
    exact w64_in (by omega) (by omega)
  have e3 : stockSum l = sumF (fun p => p.1.k) (l.zip x) := by
    have e4 : (l.zip x).map (fun p => p.1) = l := by rw [List.map_fst_zip]; omega
    unfold stockSum
    conv => lhs; rw [← e4]
    rw [sumF_map]
  rw [e2, e3, tons_sum h]
  generalize l.zip x = q
  induction q with
  | nil => rfl
  | cons p q ih => simp only [sumF]; omega
end Go.Proofs.YtlhjncefckidjaaDoor
