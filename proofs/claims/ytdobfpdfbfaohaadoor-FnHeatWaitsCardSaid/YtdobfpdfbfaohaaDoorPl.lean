/-
  Plain laws of casting: late times, ends, waiting, ladles. No program in sight.
-/
import Derived.Test.YtdobfpdfbfaohaaDoorPk
namespace Go.Proofs.YtdobfpdfbfaohaaDoor
set_option linter.unusedVariables false

/-! ### late times -/
theorem late_cons (f e : Int) (n : Nat) : ∃ t, lateFrom f e n = (e - (n : Int) * f) :: t := by
  cases n with
  | zero => exact ⟨[], by simp [lateFrom]⟩
  | succ n => exact ⟨_, rfl⟩
theorem times_last_ge (c : Caster) (hf : 1 ≤ c.f) (h : List Heat) : ∀ (nx d : Int), needF c.s nx 0 h + (h.length : Int) * c.f ≤ (timesFrom c nx h).getLastD d := by
  induction h with
  | nil => intro nx d; simp [needF, timesFrom]
  | cons a h ih =>
    intro nx d
    rw [show timesFrom c nx (a :: h) = needF c.s nx 0 (a :: h) :: timesFrom c (needF c.s nx 0 (a :: h) + c.f) h from rfl, List.getLastD_cons]
    have := ih (needF c.s nx 0 (a :: h) + c.f) (needF c.s nx 0 (a :: h))
    have g := needF_ge c.s h (needF c.s nx 0 (a :: h) + c.f) 0
    have e : ((h.length + 1 : Nat) : Int) * c.f = (h.length : Int) * c.f + c.f := by rw [Int.natCast_add, Int.add_mul]; simp
    simp only [List.length_cons]
    rw [e]
    omega
theorem late_trip (c : Caster) (hf : 1 ≤ c.f) (hfs : c.f ≤ c.s) (h : List Heat) : ∀ (nx d : Int), (trip h (lateFrom c.f ((timesFrom c nx h).getLastD d) h.length)).all (castB c) = true := by
  induction h with
  | nil => intro nx d; rfl
  | cons a h ih =>
    intro nx d
    have hi := ih (needF c.s nx 0 (a :: h) + c.f) (needF c.s nx 0 (a :: h))
    have hl := times_last_ge c hf (a :: h) nx d
    have hn := needF_first c.s a h nx 0
    rw [show timesFrom c nx (a :: h) = needF c.s nx 0 (a :: h) :: timesFrom c (needF c.s nx 0 (a :: h) + c.f) h from rfl, List.getLastD_cons] at hl ⊢
    generalize (timesFrom c (needF c.s nx 0 (a :: h) + c.f) h).getLastD (needF c.s nx 0 (a :: h)) = e at hi hl ⊢
    obtain ⟨t, ht⟩ := late_cons c.f e h.length
    simp only [List.length_cons]
    rw [show lateFrom c.f e (h.length + 1) = (e - ((h.length : Int) + 1) * c.f) :: lateFrom c.f e h.length from rfl]
    rw [ht] at hi ⊢
    rw [trip_cons, List.all_cons, hi, Bool.and_true, castB_iff]
    have e1 : ((h.length : Int) + 1) * c.f = (h.length : Int) * c.f + c.f := by rw [Int.add_mul, Int.one_mul]
    have e2 : (((a :: h).length : Nat) : Int) * c.f = (h.length : Int) * c.f + c.f := by simp only [List.length_cons]; rw [Int.natCast_add, Int.add_mul]; simp
    rw [e2] at hl
    rw [e1]
    omega
theorem late_bounds (f e : Int) (hf : 0 ≤ f) (n : Nat) : ∀ x ∈ lateFrom f e n, e - (n : Int) * f ≤ x ∧ x ≤ e := by
  induction n with
  | zero => intro x hx; simp [lateFrom] at hx; subst hx; simp
  | succ n ih =>
    intro x hx
    have e1 : ((n + 1 : Nat) : Int) * f = (n : Int) * f + f := by rw [Int.natCast_add, Int.add_mul]; simp
    have e2 : ((n : Int) + 1) * f = (n : Int) * f + f := by rw [Int.add_mul, Int.one_mul]
    have h0 : 0 ≤ (n : Int) * f := Int.mul_nonneg (by omega) hf
    simp only [lateFrom, List.mem_cons] at hx
    rw [e1]
    rcases hx with rfl | hx
    · rw [e2]; omega
    · have := ih x hx
      omega
theorem castLate_ok {h : List Heat} {c : Caster} (h1 : heatsOk h = true) (h2 : casterOk c = true) : castOk h c (castLate h c) = true := by
  have hb := caster_bounds h2
  have he := castEnd_bounds h1 h2
  have ht := late_trip c (by omega) (by omega) h 0 (-1)
  have hl := times_last_ge c (by omega) h 0 (-1)
  have hn := needF_ge c.s h 0 0
  have ee : castEnd h c = (timesFrom c 0 h).getLastD (-1) := by simp [castEnd, castTimes, h1, h2]
  simp only [castOk, castLate, h1, h2, Bool.and_self, if_true, Bool.true_and, Bool.and_eq_true, sameLen, decide_eq_true_eq, lateFrom_length, true_and]
  rw [ee] at he ⊢
  refine ⟨List.all_eq_true.2 fun x hx => ?_, ht⟩
  have := late_bounds _ _ (by omega) _ x hx
  simp only [minuteB, inB_iff]
  omega

/-! ### ends -/
theorem last_mono (s f f' : Int) (hff : f ≤ f') (h : List Heat) : ∀ (nx nx' d d' : Int), nx ≤ nx' → (timesFrom ⟨f, s⟩ nx h).getLastD d ≤ (timesFrom ⟨f', s⟩ nx' h).getLastD d' := by
  induction h with
  | nil => intro nx nx' d d' hn; simpa [timesFrom] using hn
  | cons a h ih =>
    intro nx nx' d d' hn
    have g := needF_mono s (a :: h) nx nx' 0 hn
    simp only [timesFrom, List.getLastD_cons]
    exact ih _ _ _ _ (by omega)
theorem needF_prefix (s : Int) (l : List Heat) : ∀ (j : Nat) (z z' k : Int), z ≤ z' → needF s z k (l.take j) ≤ needF s z' k l := by
  induction l with
  | nil => intro j z z' k h; simpa [needF] using h
  | cons a l ih =>
    intro j z z' k h
    cases j with
    | zero =>
      simp only [List.take_zero, needF]
      have := needF_ge s l (maxI z' (a.r - k * s)) (k + 1)
      rw [maxI_eq] at this
      rw [maxI_eq]
      omega
    | succ j =>
      simp only [List.take_succ_cons, needF]
      refine ih _ _ _ _ ?_
      simp only [maxI_eq]; omega
theorem last_prefix (c : Caster) (hf : 1 ≤ c.f) (h : List Heat) : ∀ (j : Nat) (nx nx' d d' : Int), nx ≤ nx' → (timesFrom c nx (h.take j)).getLastD d ≤ (timesFrom c nx' h).getLastD d' := by
  induction h with
  | nil => intro j nx nx' d d' hn; simpa [timesFrom] using hn
  | cons a h ih =>
    intro j nx nx' d d' hn
    cases j with
    | zero =>
      have g := times_last_ge c hf (a :: h) nx' d'
      have g2 := needF_ge c.s (a :: h) nx' 0
      have g3 : 0 ≤ ((a :: h).length : Int) * c.f := Int.mul_nonneg (by omega) (by omega)
      simp only [List.take_zero, timesFrom, List.getLastD_cons, List.getLastD_nil] at g ⊢
      omega
    | succ j =>
      have g := needF_prefix c.s (a :: h) (j + 1) nx nx' 0 hn
      simp only [List.take_succ_cons] at g ⊢
      simp only [timesFrom, List.getLastD_cons]
      exact ih j _ _ _ _ (by omega)
theorem castEnd_slow {h : List Heat} {f f' s : Int} (hff : f ≤ f') (h1 : heatsOk h = true) (h2 : casterOk ⟨f, s⟩ = true) (h3 : casterOk ⟨f', s⟩ = true) : castEnd h ⟨f, s⟩ ≤ castEnd h ⟨f', s⟩ := by
  simp only [castEnd, castTimes, h1, h2, h3, Bool.and_self, if_true]
  exact last_mono s f f' hff h 0 0 _ _ (Int.le_refl _)
theorem heatsOk_take {h : List Heat} (j : Nat) (h1 : heatsOk h = true) : heatsOk (h.take j) = true := by
  simp only [heatsOk, Bool.and_eq_true, decide_eq_true_eq] at h1 ⊢
  exact ⟨by simp; omega, List.all_eq_true.2 fun a ha => List.all_eq_true.1 h1.2 a (List.mem_of_mem_take ha)⟩
theorem castEnd_take {h : List Heat} {c : Caster} (j : Nat) (h1 : heatsOk h = true) (h2 : casterOk c = true) : castEnd (h.take j) c ≤ castEnd h c := by
  have hb := caster_bounds h2
  simp only [castEnd, castTimes, h1, h2, heatsOk_take j h1, Bool.and_self, if_true]
  exact last_prefix c (by omega) h j 0 0 _ _ (Int.le_refl _)
theorem castEnd_ge {h : List Heat} {c : Caster} (h1 : heatsOk h = true) (h2 : casterOk c = true) : c.f * (h.length : Int) ≤ castEnd h c := by
  have hb := caster_bounds h2
  have := times_last_ge c (by omega) h 0 (-1)
  have g := needF_ge c.s h 0 0
  simp only [castEnd, castTimes, h1, h2, Bool.and_self, if_true]
  rw [Int.mul_comm]
  omega

/-! ### waiting -/
def sumW (p : List (Heat × Int)) : Int := match p with
  | [] => 0
  | q :: p => waitB q + sumW p
theorem waits_foldl (p : List (Heat × Int)) : ∀ z : Int, p.foldl (fun a q => a + waitB q) z = z + sumW p := by
  induction p with
  | nil => intro z; simp [sumW]
  | cons q p ih => intro z; simp only [List.foldl_cons, sumW]; rw [ih]; omega
theorem waits_sum (p : List (Heat × Int)) : waitsOf p = sumW p := by unfold waitsOf; rw [waits_foldl]; omega
theorem waits_le (h : List Heat) : ∀ (t t' : List Int), h.length ≤ t.length → h.length ≤ t'.length → (∀ (k : Nat) (v u : Int), t[k]? = some v → t'[k]? = some u → v ≤ u) → waitsOf (h.zip t) ≤ waitsOf (h.zip t') := by
  intro t t' hl hl' hk
  rw [waits_sum, waits_sum]
  induction h generalizing t t' with
  | nil => simp [sumW]
  | cons a h ih =>
    cases t with
    | nil => simp at hl
    | cons x t =>
      cases t' with
      | nil => simp at hl'
      | cons y t' =>
        have h0 := hk 0 x y rfl rfl
        have := ih t t' (by simpa using hl) (by simpa using hl') fun k v u hv hu => hk (k + 1) v u (by simpa using hv) (by simpa using hu)
        simp only [List.zip_cons_cons, sumW, waitB]
        omega
theorem waits_later (h : List Heat) : ∀ t : List Int, h.length ≤ t.length → waitsOf (h.zip (laterOf t)) = waitsOf (h.zip t) + (h.length : Int) := by
  intro t hl
  rw [waits_sum, waits_sum]
  induction h generalizing t with
  | nil => simp [sumW]
  | cons a h ih =>
    cases t with
    | nil => simp at hl
    | cons x t =>
      have := ih t (by simpa using hl)
      simp only [laterOf, List.map_cons, List.zip_cons_cons, sumW, waitB, List.length_cons] at this ⊢
      omega
theorem waits_nonneg (c : Caster) (h : List Heat) : ∀ t : List Int, (trip h t).all (castB c) = true → t.length = h.length + 1 → 0 ≤ waitsOf (h.zip t) := by
  intro t hall hl
  rw [waits_sum]
  induction h generalizing t with
  | nil => simp [sumW]
  | cons a h ih =>
    match t, hl with
    | x :: y :: t, hl =>
      rw [trip_cons, List.all_cons, Bool.and_eq_true, castB_iff] at hall
      have := ih (y :: t) hall.2 (by simpa using hl)
      simp only [List.zip_cons_cons, sumW, waitB] at this ⊢
      omega

/-! ### ladles -/
theorem full_pos {h : List Heat} {c : Caster} {t : List Int} (hk : castOk h c t = true) {k : Nat} {a : Heat} (ha : h[k]? = some a) : 1 ≤ ladlesAt h c t a.t := by
  obtain ⟨p1, p2, p3, p4, p5⟩ := castOk_parts hk
  have hkl : k < h.length := (List.getElem?_eq_some_iff.1 ha).1
  have hx := List.getElem?_eq_getElem (l := t) (i := k) (by omega)
  have hy := List.getElem?_eq_getElem (l := t) (i := k + 1) (by omega)
  have q := castB_iff.1 (all_at p5 (trip_at ha hx hy))
  have hb := caster_bounds p2
  have hab := heat_bounds p1 ha
  have hz : (h.zip t.tail)[k]? = some (a, t[k + 1]) := zip_at ha (by rw [List.getElem?_tail]; exact hy)
  have : 0 < fullOf a.t (h.zip t.tail) := by
    unfold fullOf
    rw [List.countP_pos_iff]
    refine ⟨_, List.mem_of_getElem? hz, ?_⟩
    simp only [fullB, Bool.and_eq_true, decide_eq_true_eq]
    omega
  simp only [ladlesAt, hk, if_true]
  omega
theorem tail_mem {h : List Heat} {t : List Int} {p : Heat × Int} (hp : p ∈ h.zip t.tail) : p.2 ∈ t := List.mem_of_mem_tail (List.of_mem_zip (a := p.1) (b := p.2) hp).2
theorem full_end {h : List Heat} {c : Caster} {t : List Int} (hk : castOk h c t = true) : ladlesAt h c t (t.getLastD (-1)) = 0 := by
  obtain ⟨p1, p2, p3, p4, p5⟩ := castOk_parts hk
  have hb := caster_bounds p2
  obtain ⟨x, t', rfl, hlen, hx⟩ := cast_cons hk
  have hs := cast_sorted c (by omega) h x t' (-1) p5 hlen
  simp only [ladlesAt, hk, if_true]
  have : fullOf ((x :: t').getLastD (-1)) (h.zip (x :: t').tail) = 0 := by
    unfold fullOf
    rw [List.countP_eq_zero]
    intro p hp
    have := hs p.2 (tail_mem hp)
    simp only [fullB, Bool.and_eq_true, decide_eq_true_eq, not_and]
    omega
  rw [this]
  rfl
theorem fold_max_ge {α : Type} (f : α → Int) (l : List α) : ∀ z : Int, z ≤ l.foldl (fun a x => maxI a (f x)) z ∧ ∀ x ∈ l, f x ≤ l.foldl (fun a x => maxI a (f x)) z := by
  induction l with
  | nil => intro z; exact ⟨Int.le_refl _, fun x hx => by cases hx⟩
  | cons a l ih =>
    intro z
    simp only [List.foldl_cons]
    obtain ⟨g1, g2⟩ := ih (maxI z (f a))
    rw [maxI_eq] at g1
    refine ⟨by rw [maxI_eq]; omega, fun x hx => ?_⟩
    rcases List.mem_cons.1 hx with rfl | hx
    · rw [maxI_eq]; omega
    · exact g2 x hx
theorem fold_max_at {α : Type} (f : α → Int) (l : List α) : ∀ z : Int, l.foldl (fun a x => maxI a (f x)) z = z ∨ ∃ x ∈ l, l.foldl (fun a x => maxI a (f x)) z = f x := by
  induction l with
  | nil => intro z; exact .inl rfl
  | cons a l ih =>
    intro z
    simp only [List.foldl_cons]
    rcases ih (maxI z (f a)) with h | ⟨x, hx, h⟩
    · by_cases hz : f a ≤ z
      · left; rw [h, maxI_eq]; omega
      · right; exact ⟨a, List.mem_cons_self .., by rw [h, maxI_eq]; omega⟩
    · exact .inr ⟨x, List.mem_cons_of_mem _ hx, h⟩
theorem exists_max {α : Type} (f : α → Int) (l : List α) (hl : l ≠ []) : ∃ a ∈ l, ∀ b ∈ l, f b ≤ f a := by
  induction l with
  | nil => exact absurd rfl hl
  | cons a l ih =>
    by_cases h0 : l = []
    · subst h0; exact ⟨a, List.mem_cons_self .., fun b hb => by simp at hb; subst hb; exact Int.le_refl _⟩
    · obtain ⟨m, hm, hb⟩ := ih h0
      by_cases hc : f a ≤ f m
      · refine ⟨m, List.mem_cons_of_mem _ hm, fun b hb' => ?_⟩
        rcases List.mem_cons.1 hb' with rfl | hb'
        · exact hc
        · exact hb b hb'
      · refine ⟨a, List.mem_cons_self .., fun b hb' => ?_⟩
        rcases List.mem_cons.1 hb' with rfl | hb'
        · exact Int.le_refl _
        · have := hb b hb'; omega
/-- At no minute more ladles are full. -/
theorem most_ge {h : List Heat} {c : Caster} {t : List Int} (hk : castOk h c t = true) (m : Int) : ladlesAt h c t m ≤ ladlesMost h c t := by
  simp only [ladlesMost, hk, if_true]
  obtain ⟨g1, g2⟩ := fold_max_ge (fun x : Heat => ladlesAt h c t x.t) h 0
  by_cases he : (h.zip t.tail).filter (fullB m) = []
  · have : fullOf m (h.zip t.tail) = 0 := by unfold fullOf; rw [List.countP_eq_length_filter, he]; rfl
    have e : ladlesAt h c t m = 0 := by simp [ladlesAt, hk, this]
    rw [e]
    exact g1
  · obtain ⟨p, hp, hmax⟩ := exists_max (fun p : Heat × Int => p.1.t) _ he
    rw [List.mem_filter] at hp
    have hph : p.1 ∈ h := (List.of_mem_zip (a := p.1) (b := p.2) hp.1).1
    have h2 := g2 p.1 hph
    refine Int.le_trans ?_ h2
    simp only [ladlesAt, hk, if_true]
    have hle : fullOf m (h.zip t.tail) ≤ fullOf p.1.t (h.zip t.tail) := by
      unfold fullOf
      refine List.countP_mono_left fun q hq hfull => ?_
      have h3 := hmax q (List.mem_filter.2 ⟨hq, hfull⟩)
      have h4 := hp.2
      simp only [fullB, Bool.and_eq_true, decide_eq_true_eq] at hfull h4 ⊢
      omega
    omega
theorem most_at {h : List Heat} {c : Caster} {t : List Int} (hk : castOk h c t = true) : ladlesMost h c t = 0 ∨ ∃ a ∈ h, ladlesMost h c t = ladlesAt h c t a.t := by
  simp only [ladlesMost, hk, if_true]
  exact fold_max_at (fun x : Heat => ladlesAt h c t x.t) h 0
theorem most_le {h : List Heat} {c : Caster} {t : List Int} (hk : castOk h c t = true) : 0 ≤ ladlesMost h c t ∧ ladlesMost h c t ≤ h.length := by
  have hn := (fold_max_ge (fun x : Heat => ladlesAt h c t x.t) h 0).1
  refine ⟨by simp only [ladlesMost, hk, if_true]; exact hn, ?_⟩
  rcases most_at hk with e | ⟨a, _, e⟩
  · omega
  · have := (ladlesAt_bounds h c t a.t).2
    omega
theorem most_zero {h : List Heat} {c : Caster} {t : List Int} (hk : castOk h c t = true) : ladlesMost h c t = 0 ↔ h.length = 0 := by
  constructor
  · intro e
    cases h with
    | nil => rfl
    | cons a h =>
      have h1 := full_pos hk (k := 0) (a := a) rfl
      have h2 := most_ge hk a.t
      omega
  · intro e
    have := most_le hk
    omega
end Go.Proofs.YtdobfpdfbfaohaaDoor
