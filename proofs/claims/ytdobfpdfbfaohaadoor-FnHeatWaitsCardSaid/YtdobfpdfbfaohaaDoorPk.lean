/-
  Plain laws of casting: the earliest times are without a break, none are earlier, late ones have the same end. No program in sight.
-/
import Derived.Test.YtdobfpdfbfaohaaDoorPc
namespace Go.Proofs.YtdobfpdfbfaohaaDoor
set_option linter.unusedVariables false

theorem trip_cons (a : Heat) (h : List Heat) (x y : Int) (t : List Int) : trip (a :: h) (x :: y :: t) = (a, x, y) :: trip h (y :: t) := rfl
theorem castB_iff {c : Caster} {a : Heat} {x y : Int} : castB c (a, x, y) = true ↔ a.r ≤ x ∧ x + c.f ≤ y ∧ y ≤ x + c.s := by
  simp [castB, inB_iff]
theorem castB_false {c : Caster} {a : Heat} {x y : Int} (h : ¬ (a.r ≤ x ∧ x + c.f ≤ y ∧ y ≤ x + c.s)) : castB c (a, x, y) = false := by
  cases hb : castB c (a, x, y) with
  | false => rfl
  | true => exact absurd (castB_iff.1 hb) h
theorem times_cons (c : Caster) (nx : Int) (h : List Heat) : ∃ t, timesFrom c nx h = needF c.s nx 0 h :: t := by
  cases h with
  | nil => exact ⟨[], rfl⟩
  | cons a h => exact ⟨_, rfl⟩
theorem needF_mono (s : Int) (l : List Heat) : ∀ (z z' k : Int), z ≤ z' → needF s z k l ≤ needF s z' k l := by
  induction l with
  | nil => intro z z' k h; exact h
  | cons a l ih => intro z z' k h; simp only [needF]; refine ih _ _ _ ?_; simp only [maxI_eq]; omega
theorem needF_first (s : Int) (a : Heat) (l : List Heat) (z k : Int) : a.r - k * s ≤ needF s z k (a :: l) := by
  simp only [needF]
  have := needF_ge s l (maxI z (a.r - k * s)) (k + 1)
  rw [maxI_eq] at this ⊢
  omega
theorem needF_shift (s : Int) (hs : 0 ≤ s) (l : List Heat) : ∀ (z z' k : Int), z ≤ z' + s → needF s z k l ≤ needF s z' (k + 1) l + s := by
  induction l with
  | nil => intro z z' k h; exact h
  | cons a l ih =>
    intro z z' k h
    simp only [needF]
    refine ih _ _ _ ?_
    have : (k + 1) * s = k * s + s := by rw [Int.add_mul, Int.one_mul]
    simp only [maxI_eq]
    omega
theorem needF_attain (s : Int) (l : List Heat) : ∀ (z z0 k : Int), z < needF s z (k + 1) l → needF s z (k + 1) l + s ≤ needF s z0 k l := by
  induction l with
  | nil => intro z z0 k h; simp only [needF] at h; omega
  | cons a l ih =>
    intro z z0 k h
    simp only [needF] at h ⊢
    have e : (k + 1) * s = k * s + s := by rw [Int.add_mul, Int.one_mul]
    by_cases h1 : maxI z (a.r - (k + 1) * s) < needF s (maxI z (a.r - (k + 1) * s)) (k + 1 + 1) l
    · exact ih _ _ _ h1
    · have h2 := needF_ge s l (maxI z (a.r - (k + 1) * s)) (k + 1 + 1)
      have h3 := needF_ge s l (maxI z0 (a.r - k * s)) (k + 1)
      simp only [maxI_eq] at h h1 h2 h3 ⊢
      omega
/-- The earliest times are without a break. -/
theorem times_trip (c : Caster) (hf : 1 ≤ c.f) (hfs : c.f ≤ c.s) (h : List Heat) : ∀ nx, (trip h (timesFrom c nx h)).all (castB c) = true := by
  induction h with
  | nil => intro nx; rfl
  | cons a h ih =>
    intro nx
    have hi := ih (needF c.s nx 0 (a :: h) + c.f)
    obtain ⟨t, ht⟩ := times_cons c (needF c.s nx 0 (a :: h) + c.f) h
    rw [show timesFrom c nx (a :: h) = needF c.s nx 0 (a :: h) :: timesFrom c (needF c.s nx 0 (a :: h) + c.f) h from rfl]
    rw [ht] at hi ⊢
    rw [trip_cons, List.all_cons, hi, Bool.and_true, castB_iff]
    have g1 := needF_first c.s a h nx 0
    have g2 := needF_ge c.s h (needF c.s nx 0 (a :: h) + c.f) 0
    have g3 := needF_shift c.s (by omega) h (maxI nx (a.r - 0 * c.s)) (maxI nx (a.r - 0 * c.s)) 0 (by omega)
    have g4 := needF_mono c.s h (needF c.s nx 0 (a :: h) + c.f) (maxI (needF c.s nx 0 (a :: h) + c.f) (maxI nx (a.r - 0 * c.s))) 0 (by rw [maxI_eq]; omega)
    rw [needF_max, maxI_eq] at g4
    have e : needF c.s nx 0 (a :: h) = needF c.s (maxI nx (a.r - 0 * c.s)) (0 + 1) h := rfl
    rw [← e] at g3
    omega
theorem times_bounds (c : Caster) (hf : 1 ≤ c.f) (hf' : c.f ≤ 99) (hs : 0 ≤ c.s) (h : List Heat) (hl : ∀ a ∈ h, a.r ≤ 999) : ∀ (nx M : Int), nx ≤ M → 999 ≤ M → ∀ x ∈ timesFrom c nx h, nx ≤ x ∧ x ≤ M + 99 * h.length := by
  induction h with
  | nil => intro nx M h1 h2 x hx; simp only [timesFrom, List.mem_singleton] at hx; subst hx; simp; omega
  | cons a h ih =>
    intro nx M h1 h2 x hx
    have g1 := needF_ge c.s (a :: h) nx 0
    have g2 := needF_le c.s hs (a :: h) hl nx 0 M (by omega) h1 h2
    simp only [timesFrom, List.mem_cons] at hx
    rcases hx with rfl | hx
    · simp only [List.length_cons]; omega
    · have := ih (fun b hb => hl b (List.mem_cons_of_mem _ hb)) (needF c.s nx 0 (a :: h) + c.f) (M + 99) (by omega) (by omega) x hx
      simp only [List.length_cons]; omega
theorem heats_mem' {h : List Heat} (hk : heatsOk h = true) : ∀ a ∈ h, a.r ≤ 999 := by
  intro a ha
  obtain ⟨k, hk'⟩ := List.getElem?_of_mem ha
  have := heat_bounds hk hk'
  omega
theorem castTimes_ok {h : List Heat} {c : Caster} (h1 : heatsOk h = true) (h2 : casterOk c = true) : castOk h c (castTimes h c) = true := by
  have hb := caster_bounds h2
  have hl := heats_len h1
  simp only [castOk, castTimes, h1, h2, Bool.and_self, if_true, Bool.true_and, Bool.and_eq_true, sameLen, decide_eq_true_eq, timesFrom_length, true_and]
  refine ⟨List.all_eq_true.2 fun x hx => ?_, times_trip c (by omega) (by omega) h 0⟩
  have := times_bounds c (by omega) (by omega) (by omega) h (heats_mem' h1) 0 999 (by omega) (by omega) x hx
  simp only [minuteB, inB_iff]
  omega
/-- No heat could begin a minute earlier with all others as they are. -/
theorem times_least (c : Caster) (hf : 1 ≤ c.f) (hfs : c.f ≤ c.s) (h : List Heat) : ∀ (nx : Int) (k : Nat) (v : Int), (timesFrom c nx h)[k]? = some v → (k = 0 ∧ v = nx) ∨ (trip h ((timesFrom c nx h).set k (v - 1))).all (castB c) = false := by
  induction h with
  | nil =>
    intro nx k v hv
    cases k with
    | zero => left; simp [timesFrom] at hv; exact ⟨rfl, hv.symm⟩
    | succ k => simp [timesFrom] at hv
  | cons a h ih =>
    intro nx k v hv
    obtain ⟨t, ht⟩ := times_cons c (needF c.s nx 0 (a :: h) + c.f) h
    rw [show timesFrom c nx (a :: h) = needF c.s nx 0 (a :: h) :: timesFrom c (needF c.s nx 0 (a :: h) + c.f) h from rfl] at hv ⊢
    cases k with
    | zero =>
      simp only [List.getElem?_cons_zero, Option.some.injEq] at hv
      subst hv
      by_cases e : needF c.s nx 0 (a :: h) = nx
      · left; exact ⟨rfl, e⟩
      · right
        rw [List.set_cons_zero, ht, trip_cons, List.all_cons, castB_false, Bool.false_and]
        rintro ⟨g1, g2, g3⟩
        have g4 := needF_ge c.s (a :: h) nx 0
        have e2 : needF c.s nx 0 (a :: h) = needF c.s (maxI nx (a.r - 0 * c.s)) (0 + 1) h := rfl
        by_cases g5 : maxI nx (a.r - 0 * c.s) < needF c.s (maxI nx (a.r - 0 * c.s)) (0 + 1) h
        · have g6 := needF_attain c.s h _ (needF c.s nx 0 (a :: h) + c.f) 0 g5
          rw [← e2] at g6
          omega
        · have g7 := needF_ge c.s h (maxI nx (a.r - 0 * c.s)) (0 + 1)
          rw [← e2] at g5 g7
          simp only [maxI_eq] at g5 g7
          omega
    | succ j =>
      right
      simp only [List.getElem?_cons_succ] at hv
      rw [List.set_cons_succ]
      rcases ih _ j v hv with ⟨rfl, rfl⟩ | hf2
      · rw [ht, List.set_cons_zero, trip_cons, List.all_cons, castB_false, Bool.false_and]
        rintro ⟨g1, g2, g3⟩
        omega
      · obtain ⟨y, t', ht'⟩ : ∃ y t', (timesFrom c (needF c.s nx 0 (a :: h) + c.f) h).set j (v - 1) = y :: t' := by
          rw [ht]
          cases j with
          | zero => exact ⟨_, _, rfl⟩
          | succ j => exact ⟨_, _, rfl⟩
        rw [ht'] at hf2 ⊢
        rw [trip_cons, List.all_cons, hf2, Bool.and_false]
theorem castTimes_least {h : List Heat} {c : Caster} (h1 : heatsOk h = true) (h2 : casterOk c = true) (k : Nat) (v : Int) (hv : (castTimes h c)[k]? = some v) : castOk h c ((castTimes h c).set k (v - 1)) = false := by
  have hb := caster_bounds h2
  have e : castTimes h c = timesFrom c 0 h := by simp [castTimes, h1, h2]
  rw [e] at hv ⊢
  rcases times_least c (by omega) (by omega) h 0 k v hv with ⟨rfl, rfl⟩ | hf
  · have : ((timesFrom c 0 h).set 0 (0 - 1)).all minuteB = false := by
      obtain ⟨t, ht⟩ := times_cons c 0 h
      rw [ht, List.set_cons_zero, List.all_cons]
      simp [minuteB, inB]
    simp only [castOk, this, Bool.and_false, Bool.false_and]
  · simp only [castOk, hf, Bool.and_false]
/-- Whatever is cast without a break is at least as late. -/
theorem need_le (c : Caster) (hs : 0 ≤ c.s) (h : List Heat) : ∀ (x : Int) (t : List Int) (z k : Int), (trip h (x :: t)).all (castB c) = true → t.length = h.length → needF c.s z k h ≤ maxI z (x - k * c.s) := by
  induction h with
  | nil => intro x t z k _ _; simp only [needF, maxI_eq]; omega
  | cons a h ih =>
    intro x t z k hall hl
    cases t with
    | nil => simp at hl
    | cons y t =>
      rw [trip_cons, List.all_cons, Bool.and_eq_true, castB_iff] at hall
      have := ih y t (maxI z (a.r - k * c.s)) (k + 1) hall.2 (by simpa using hl)
      have e : (k + 1) * c.s = k * c.s + c.s := by rw [Int.add_mul, Int.one_mul]
      simp only [needF]
      simp only [maxI_eq] at this ⊢
      omega
theorem times_early (c : Caster) (hf : 1 ≤ c.f) (hs : 0 ≤ c.s) (h : List Heat) : ∀ (nx x : Int) (t : List Int), (trip h (x :: t)).all (castB c) = true → t.length = h.length → nx ≤ x → ∀ (k : Nat) (v u : Int), (timesFrom c nx h)[k]? = some v → (x :: t)[k]? = some u → v ≤ u := by
  induction h with
  | nil =>
    intro nx x t _ hl hx k v u hv hu
    have ht := List.eq_nil_of_length_eq_zero hl
    subst ht
    cases k with
    | zero => simp [timesFrom] at hv hu; omega
    | succ k => simp [timesFrom] at hv
  | cons a h ih =>
    intro nx x t hall hl hx k v u hv hu
    have g := need_le c hs (a :: h) x t nx 0 hall hl
    rw [Int.zero_mul, maxI_eq] at g
    cases t with
    | nil => simp at hl
    | cons y t =>
      rw [show timesFrom c nx (a :: h) = needF c.s nx 0 (a :: h) :: timesFrom c (needF c.s nx 0 (a :: h) + c.f) h from rfl] at hv
      cases k with
      | zero =>
        simp only [List.getElem?_cons_zero, Option.some.injEq] at hv hu
        omega
      | succ k =>
        simp only [List.getElem?_cons_succ] at hv hu
        rw [trip_cons, List.all_cons, Bool.and_eq_true, castB_iff] at hall
        exact ih _ y t hall.2 (by simpa using hl) (by omega) k v u hv hu
theorem cast_cons {h : List Heat} {c : Caster} {t : List Int} (hk : castOk h c t = true) : ∃ x t', t = x :: t' ∧ t'.length = h.length ∧ 0 ≤ x := by
  obtain ⟨_, _, p3, p4, _⟩ := castOk_parts hk
  cases t with
  | nil => simp at p3
  | cons x t =>
    have := minute_bounds p4 (k := 0) (x := x) rfl
    exact ⟨x, t, rfl, by simpa using p3, by omega⟩
theorem cast_early {h : List Heat} {c : Caster} {t : List Int} (hk : castOk h c t = true) (k : Nat) (v u : Int) (hv : (castTimes h c)[k]? = some v) (hu : t[k]? = some u) : v ≤ u := by
  obtain ⟨p1, p2, p3, p4, p5⟩ := castOk_parts hk
  have hb := caster_bounds p2
  obtain ⟨x, t', rfl, hl, hx⟩ := cast_cons hk
  have e : castTimes h c = timesFrom c 0 h := by simp [castTimes, p1, p2]
  rw [e] at hv
  exact times_early c (by omega) (by omega) h 0 x t' p5 hl hx k v u hv hu
/-- All a minute later. -/
def laterOf (t : List Int) : List Int := t.map fun x => x + 1
theorem trip_later (h : List Heat) (t : List Int) : trip h (laterOf t) = (trip h t).map fun p => (p.1, p.2.1 + 1, p.2.2 + 1) := by
  induction h generalizing t with
  | nil => rfl
  | cons a h ih =>
    match t with
    | [] => rfl
    | [x] => rfl
    | x :: y :: t =>
      rw [show laterOf (x :: y :: t) = (x + 1) :: (y + 1) :: laterOf t from rfl, trip_cons, trip_cons, List.map_cons, ← ih (y :: t)]
      rfl
theorem cast_sorted (c : Caster) (hf : 1 ≤ c.f) (h : List Heat) : ∀ (x : Int) (t : List Int) (d : Int), (trip h (x :: t)).all (castB c) = true → t.length = h.length → ∀ y ∈ x :: t, x ≤ y ∧ y ≤ (x :: t).getLastD d := by
  induction h with
  | nil =>
    intro x t d _ hl y hy
    have ht := List.eq_nil_of_length_eq_zero hl
    subst ht
    simp at hy
    subst hy
    simp
  | cons a h ih =>
    intro x t d hall hl y hy
    cases t with
    | nil => simp at hl
    | cons z t =>
      rw [trip_cons, List.all_cons, Bool.and_eq_true, castB_iff] at hall
      have hh := ih z t d hall.2 (by simpa using hl)
      have hz := hh z (List.mem_cons_self ..)
      rw [List.getLastD_cons] at hz ⊢
      rw [List.getLastD_cons]
      rcases List.mem_cons.1 hy with rfl | hy
      · omega
      · have := hh y hy
        rw [List.getLastD_cons] at this
        omega
theorem castOk_later {h : List Heat} {c : Caster} {t : List Int} (hk : castOk h c t = true) (hl : t.getLastD (-1) ≠ 9999) : castOk h c (laterOf t) = true := by
  obtain ⟨p1, p2, p3, p4, p5⟩ := castOk_parts hk
  have hb := caster_bounds p2
  obtain ⟨x, t', rfl, hlen, hx⟩ := cast_cons hk
  have hs := cast_sorted c (by omega) h x t' (-1) p5 hlen
  simp only [castOk, p1, p2, Bool.true_and, Bool.and_eq_true, sameLen, decide_eq_true_eq]
  refine ⟨⟨by simp [laterOf, hlen], List.all_eq_true.2 fun y hy => ?_⟩, ?_⟩
  · obtain ⟨z, hz, rfl⟩ := List.mem_map.1 hy
    have h1 := hs z hz
    have h2 : ∀ w ∈ x :: t', 0 ≤ w ∧ w ≤ 9999 := fun w hw => by
      have := List.all_eq_true.1 p4 w hw
      simpa [minuteB, inB_iff] using this
    have h3 := h2 z hz
    have h4 : (x :: t').getLastD (-1) ∈ x :: t' := by
      rw [List.getLastD_eq_getLast?, List.getLast?_eq_some_getLast (by simp)]
      exact List.getLast_mem _
    have h5 := h2 _ h4
    simp only [minuteB, inB_iff]
    omega
  · rw [trip_later, List.all_map]
    refine List.all_eq_true.2 fun p hp => ?_
    obtain ⟨a, y, z⟩ := p
    have := castB_iff.1 (List.all_eq_true.1 p5 _ hp)
    simp only [Function.comp]
    rw [castB_iff]
    omega
end Go.Proofs.YtdobfpdfbfaohaaDoor
