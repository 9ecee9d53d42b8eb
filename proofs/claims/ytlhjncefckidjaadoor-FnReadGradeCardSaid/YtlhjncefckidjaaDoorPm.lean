/-
  Plain laws of stuffs, grades and mixtures: sums without wrapping, what the statements on mixtures come to. No program in sight.
-/
import Derived.Test.YtlhjncefckidjaaDoorPlain
namespace Go.Proofs.YtlhjncefckidjaaDoor
set_option linter.unusedVariables false

/-! ### sums -/
def sumF {α : Type} (f : α → Int) : List α → Int
  | [] => 0
  | a :: l => f a + sumF f l
theorem sumF_append {α : Type} (f : α → Int) (a b : List α) : sumF f (a ++ b) = sumF f a + sumF f b := by
  induction a with
  | nil => simp [sumF]
  | cons x a ih => simp only [List.cons_append, sumF, ih]; omega
theorem sumF_congr {α : Type} {f g : α → Int} {l : List α} (h : ∀ a ∈ l, f a = g a) : sumF f l = sumF g l := by
  induction l with
  | nil => rfl
  | cons a l ih => simp only [sumF]; rw [h a (List.mem_cons_self ..), ih fun b hb => h b (List.mem_cons_of_mem _ hb)]
theorem sumF_bounds {α : Type} {f : α → Int} {M : Int} (hM : 0 ≤ M) {l : List α} (h : ∀ a ∈ l, 0 ≤ f a ∧ f a ≤ M) : 0 ≤ sumF f l ∧ sumF f l ≤ M * l.length := by
  induction l with
  | nil => simp [sumF]
  | cons a l ih =>
    have h1 := h a (List.mem_cons_self ..)
    have h2 := ih fun b hb => h b (List.mem_cons_of_mem _ hb)
    have h3 : M * ((l.length + 1 : Nat) : Int) = M * (l.length : Int) + M := by rw [Int.natCast_add, Int.mul_add]; simp
    simp only [sumF, List.length_cons]
    rw [h3]
    omega
theorem sumF_le {α : Type} {f g : α → Int} {l : List α} (h : ∀ a ∈ l, f a ≤ g a) : sumF f l ≤ sumF g l := by
  induction l with
  | nil => simp [sumF]
  | cons a l ih =>
    have h1 := h a (List.mem_cons_self ..)
    have h2 := ih fun b hb => h b (List.mem_cons_of_mem _ hb)
    simp only [sumF]
    omega
theorem sumF_mul {α : Type} (f : α → Int) (k : Int) (l : List α) : sumF (fun a => k * f a) l = k * sumF f l := by
  induction l with
  | nil => simp [sumF]
  | cons a l ih => simp only [sumF, ih, Int.mul_add]
theorem foldl_w64 {α : Type} (f : α → Int) (M : Int) (hM : 0 ≤ M) (hM' : M ≤ 1000000) (l : List α) (hl : l.length ≤ 1048576) (h : ∀ a ∈ l, -M ≤ f a ∧ f a ≤ M) :
    ∀ z : Int, -1000000000000000 ≤ z - M * l.length → z + M * l.length ≤ 1000000000000000 → l.foldl (fun a q => w64 (a + f q)) z = z + sumF f l := by
  induction l with
  | nil => intro z _ _; simp [sumF]
  | cons a l ih =>
    intro z hz hz'
    have h1 := h a (List.mem_cons_self ..)
    have h3 : M * ((l.length + 1 : Nat) : Int) = M * (l.length : Int) + M := by rw [Int.natCast_add, Int.mul_add]; simp
    have h4 : 0 ≤ M * (l.length : Int) := Int.mul_nonneg hM (by omega)
    simp only [List.length_cons] at hz hz' hl
    rw [h3] at hz hz'
    simp only [List.foldl_cons, sumF]
    rw [w64_in (by omega) (by omega), ih (by omega) (fun b hb => h b (List.mem_cons_of_mem _ hb)) _ (by omega) (by omega)]
    omega
theorem tonsOf_sum (x : List Int) (M : Int) (hM : 0 ≤ M) (hM' : M ≤ 1000000) (hl : x.length ≤ 1000) (h : ∀ a ∈ x, -M ≤ a ∧ a ≤ M) : tonsOf x = sumF id x := by
  have hb : M * (x.length : Int) ≤ 1000000 * 1000 := Int.mul_le_mul hM' (by omega) (by omega) (by omega)
  have := foldl_w64 id M hM hM' x (by omega) h 0 (by omega) (by omega)
  unfold tonsOf
  simpa using this

/-! ### valid mixtures -/
theorem stuff_bounds {l : List Stuff} {s : Stuff} (h : stuffsOk l = true) (hs : s ∈ l) : 0 ≤ s.c ∧ s.c ≤ 999 ∧ 0 ≤ s.m ∧ s.m ≤ 999 ∧ 0 ≤ s.s ∧ s.s ≤ 999 ∧ 0 ≤ s.p ∧ s.p ≤ 99 ∧ 0 ≤ s.k ∧ s.k ≤ 9 := by
  simp only [stuffsOk, Bool.and_eq_true] at h
  have := List.all_eq_true.1 h.2 s hs
  simp only [stuffOk, Bool.and_eq_true, inB_iff] at this
  omega
theorem stuffs_len {l : List Stuff} (h : stuffsOk l = true) : l.length ≤ 4 := by
  simp only [stuffsOk, Bool.and_eq_true, decide_eq_true_eq] at h
  exact h.1
theorem mixOk_parts {l : List Stuff} {x : List Int} (h : mixOk l x = true) : stuffsOk l = true ∧ x.length = l.length ∧ ∀ p ∈ l.zip x, 0 ≤ p.2 ∧ p.2 ≤ p.1.k := by
  simp only [mixOk, Bool.and_eq_true, sameLen, decide_eq_true_eq] at h
  refine ⟨h.1.1, h.1.2, fun p hp => ?_⟩
  have := List.all_eq_true.1 h.2 p hp
  simpa [pairOk, inB_iff] using this
theorem mixOk_of {l : List Stuff} {x : List Int} (h1 : stuffsOk l = true) (h2 : x.length = l.length) (h3 : ∀ p ∈ l.zip x, 0 ≤ p.2 ∧ p.2 ≤ p.1.k) : mixOk l x = true := by
  simp only [mixOk, Bool.and_eq_true, sameLen, decide_eq_true_eq]
  refine ⟨⟨h1, h2⟩, List.all_eq_true.2 fun p hp => ?_⟩
  simpa [pairOk, inB_iff] using h3 p hp
theorem mix_pair {l : List Stuff} {x : List Int} (h : mixOk l x = true) {p : Stuff × Int} (hp : p ∈ l.zip x) : 0 ≤ p.1.c ∧ p.1.c ≤ 999 ∧ 0 ≤ p.1.m ∧ p.1.m ≤ 999 ∧ 0 ≤ p.1.s ∧ p.1.s ≤ 999 ∧ 0 ≤ p.1.p ∧ p.1.p ≤ 99 ∧ 0 ≤ p.2 ∧ p.2 ≤ p.1.k ∧ p.1.k ≤ 9 := by
  obtain ⟨h1, h2, h3⟩ := mixOk_parts h
  have g1 := stuff_bounds h1 (List.of_mem_zip (a := p.1) (b := p.2) hp).1
  have g2 := h3 p hp
  omega
theorem zip_len {l : List Stuff} {x : List Int} (h : mixOk l x = true) : (l.zip x).length ≤ 4 := by
  obtain ⟨h1, h2, h3⟩ := mixOk_parts h
  have := stuffs_len h1
  simp; omega
theorem foldl_sum {l : List Stuff} {x : List Int} (f : Stuff × Int → Int) (h : ∀ p ∈ l.zip x, 0 ≤ f p ∧ f p ≤ 999 * 9) (hl : (l.zip x).length ≤ 4) (F : Int → Stuff × Int → Int) (hF : ∀ a p, p ∈ l.zip x → F a p = w64 (a + f p)) : (l.zip x).foldl F 0 = sumF f (l.zip x) := by
  have e : ∀ (q : List (Stuff × Int)) (z : Int), (∀ p ∈ q, p ∈ l.zip x) → q.foldl F z = q.foldl (fun a p => w64 (a + f p)) z := by
    intro q
    induction q with
    | nil => intro z _; rfl
    | cons p q ih => intro z hq; simp only [List.foldl_cons]; rw [hF z p (hq p (List.mem_cons_self ..)), ih _ fun r hr => hq r (List.mem_cons_of_mem _ hr)]
  rw [e _ _ fun p hp => hp, foldl_w64 f 8991 (by omega) (by omega) _ (by omega) (fun p hp => by have := h p hp; omega) 0 (by omega) (by omega)]
  omega
theorem mul_bounds {a b A B : Int} (h1 : 0 ≤ a) (h2 : a ≤ A) (h3 : 0 ≤ b) (h4 : b ≤ B) : 0 ≤ a * b ∧ a * b ≤ A * B := ⟨Int.mul_nonneg h1 h3, Int.mul_le_mul h2 h4 h3 (by omega)⟩
theorem costOf_sum {l : List Stuff} {x : List Int} (h : mixOk l x = true) : costOf (l.zip x) = sumF (fun p => p.2 * p.1.p) (l.zip x) := by
  unfold costOf
  refine foldl_sum (fun p => p.2 * p.1.p) (fun p hp => ?_) (zip_len h) _ (fun a p hp => ?_)
  · have g := mix_pair h hp
    have := mul_bounds (a := p.2) (b := p.1.p) (A := 9) (B := 99) (by omega) (by omega) (by omega) (by omega)
    omega
  · have g := mix_pair h hp
    have := mul_bounds (a := p.2) (b := p.1.p) (A := 9) (B := 99) (by omega) (by omega) (by omega) (by omega)
    simp only [w64_in (n := p.2 * p.1.p) (by omega) (by omega)]
theorem sumC_sum {l : List Stuff} {x : List Int} (h : mixOk l x = true) : sumC (l.zip x) = sumF (fun p => p.2 * p.1.c) (l.zip x) := by
  unfold sumC
  refine foldl_sum (fun p => p.2 * p.1.c) (fun p hp => ?_) (zip_len h) _ (fun a p hp => ?_)
  · have g := mix_pair h hp
    have := mul_bounds (a := p.2) (b := p.1.c) (A := 9) (B := 999) (by omega) (by omega) (by omega) (by omega)
    omega
  · have g := mix_pair h hp
    have := mul_bounds (a := p.2) (b := p.1.c) (A := 9) (B := 999) (by omega) (by omega) (by omega) (by omega)
    simp only [w64_in (n := p.2 * p.1.c) (by omega) (by omega)]
theorem sumM_sum {l : List Stuff} {x : List Int} (h : mixOk l x = true) : sumM (l.zip x) = sumF (fun p => p.2 * p.1.m) (l.zip x) := by
  unfold sumM
  refine foldl_sum (fun p => p.2 * p.1.m) (fun p hp => ?_) (zip_len h) _ (fun a p hp => ?_)
  · have g := mix_pair h hp
    have := mul_bounds (a := p.2) (b := p.1.m) (A := 9) (B := 999) (by omega) (by omega) (by omega) (by omega)
    omega
  · have g := mix_pair h hp
    have := mul_bounds (a := p.2) (b := p.1.m) (A := 9) (B := 999) (by omega) (by omega) (by omega) (by omega)
    simp only [w64_in (n := p.2 * p.1.m) (by omega) (by omega)]
theorem sumS_sum {l : List Stuff} {x : List Int} (h : mixOk l x = true) : sumS (l.zip x) = sumF (fun p => p.2 * p.1.s) (l.zip x) := by
  unfold sumS
  refine foldl_sum (fun p => p.2 * p.1.s) (fun p hp => ?_) (zip_len h) _ (fun a p hp => ?_)
  · have g := mix_pair h hp
    have := mul_bounds (a := p.2) (b := p.1.s) (A := 9) (B := 999) (by omega) (by omega) (by omega) (by omega)
    omega
  · have g := mix_pair h hp
    have := mul_bounds (a := p.2) (b := p.1.s) (A := 9) (B := 999) (by omega) (by omega) (by omega) (by omega)
    simp only [w64_in (n := p.2 * p.1.s) (by omega) (by omega)]
theorem zip_snd {l : List Stuff} {x : List Int} (h : x.length = l.length) : (l.zip x).map (fun p => p.2) = x := by
  rw [List.map_snd_zip]; omega
theorem mem_of_zip {l : List Stuff} {x : List Int} (h : x.length = l.length) {a : Int} (ha : a ∈ x) : ∃ s, (s, a) ∈ l.zip x := by
  rw [← zip_snd h] at ha
  obtain ⟨p, hp, rfl⟩ := List.mem_map.1 ha
  exact ⟨p.1, hp⟩
theorem sumF_map {α β : Type} (f : β → Int) (g : α → β) (l : List α) : sumF f (l.map g) = sumF (fun a => f (g a)) l := by
  induction l with
  | nil => rfl
  | cons a l ih => simp only [List.map_cons, sumF, ih]
theorem tons_sum {l : List Stuff} {x : List Int} (h : mixOk l x = true) : tonsOf x = sumF (fun p => p.2) (l.zip x) := by
  obtain ⟨h1, h2, h3⟩ := mixOk_parts h
  have hl := stuffs_len h1
  rw [tonsOf_sum x 9 (by omega) (by omega) (by omega) (fun a ha => by
    obtain ⟨s, hs⟩ := mem_of_zip h2 ha
    have := mix_pair h hs
    simp only at this
    omega)]
  conv => lhs; rw [← zip_snd h2]
  rw [sumF_map]
  rfl
theorem tons_bounds {l : List Stuff} {x : List Int} (h : mixOk l x = true) : 0 ≤ tonsOf x ∧ tonsOf x ≤ 36 := by
  rw [tons_sum h]
  have := sumF_bounds (f := fun p : Stuff × Int => p.2) (M := 9) (by omega) (l := l.zip x) (fun p hp => by have := mix_pair h hp; omega)
  have := zip_len h
  omega
end Go.Proofs.YtlhjncefckidjaaDoor
