/-
  The plain functions of casting: what the program's and the reference's functions compute, on Lean's own lists and integers. No program in sight.
-/
import Derived.Test.YtblfbllhkmcbbaaPlain
namespace Go.Proofs.Ytblfbllhkmcbbaa

/-! ### cast without a break -/
def castB (c : Caster) (p : Heat × Int × Int) : Bool := decide (p.1.r ≤ p.2.1) && inB p.2.2 (p.2.1 + c.f) (p.2.1 + c.s)
def trip (h : List Heat) (t : List Int) : List (Heat × Int × Int) := h.zip (t.zip t.tail)
def minuteB (x : Int) : Bool := inB x 0 9999
def castOk (h : List Heat) (c : Caster) (t : List Int) : Bool := heatsOk h && casterOk c && sameLen t.length (h.length + 1) && t.all minuteB && (trip h t).all (castB c)
theorem trip_at {h : List Heat} {t : List Int} {k : Nat} {a : Heat} {x y : Int} (h1 : h[k]? = some a) (h2 : t[k]? = some x) (h3 : t[k + 1]? = some y) : (trip h t)[k]? = some (a, x, y) :=
  zip_at h1 (zip_at h2 (by rw [List.getElem?_tail]; exact h3))
theorem trip_length (h : List Heat) (t : List Int) (hl : t.length = h.length + 1) : (trip h t).length = h.length := by simp [trip, hl]
theorem castOk_len {h : List Heat} {c : Caster} {t : List Int} (hk : castOk h c t = true) : t.length = h.length + 1 := by
  simp [castOk, sameLen] at hk; exact hk.1.1.2
theorem castOk_parts {h : List Heat} {c : Caster} {t : List Int} (hk : castOk h c t = true) : heatsOk h = true ∧ casterOk c = true ∧ t.length = h.length + 1 ∧ t.all minuteB = true ∧ (trip h t).all (castB c) = true := by
  unfold castOk at hk
  simp only [Bool.and_eq_true, sameLen, decide_eq_true_eq] at hk
  exact ⟨hk.1.1.1.1, hk.1.1.1.2, hk.1.1.2, hk.1.2, hk.2⟩
theorem all_at {α : Type} {f : α → Bool} {l : List α} {k : Nat} {a : α} (h : l.all f = true) (ha : l[k]? = some a) : f a = true := List.all_eq_true.1 h a (List.mem_of_getElem? ha)
theorem heat_bounds {h : List Heat} {k : Nat} {a : Heat} (hk : heatsOk h = true) (ha : h[k]? = some a) : 0 ≤ a.k ∧ a.k ≤ 3 ∧ 0 ≤ a.t ∧ a.t ≤ 999 ∧ a.t ≤ a.r ∧ a.r ≤ 999 := by
  simp only [heatsOk, Bool.and_eq_true] at hk
  have := all_at hk.2 ha
  simp only [heatOk, Bool.and_eq_true, inB_iff] at this
  omega
theorem heats_len {h : List Heat} (hk : heatsOk h = true) : h.length ≤ 6 := by
  simp only [heatsOk, Bool.and_eq_true, decide_eq_true_eq] at hk
  exact hk.1
theorem caster_bounds {c : Caster} (hc : casterOk c = true) : 1 ≤ c.f ∧ c.f ≤ c.s ∧ c.s ≤ 99 := by
  simp only [casterOk, Bool.and_eq_true, inB_iff] at hc
  omega
theorem minute_bounds {t : List Int} {k : Nat} {x : Int} (ht : t.all minuteB = true) (hx : t[k]? = some x) : 0 ≤ x ∧ x ≤ 9999 := by
  have := all_at ht hx
  simpa [minuteB, inB_iff] using this

/-! ### tables of losses -/
def lossB (x : Int) : Bool := inB x 0 99
def rowOk (l : List Int) : Bool := sameLen l.length 4 && l.all lossB
def lostOk (L : List (List Int)) : Bool := sameLen L.length 4 && L.all rowOk
/-- How many numbers a table holds, its rows counted too. -/
def bulkOf (L : List (List Int)) : Nat := L.foldl (fun a l => a + l.length) 0
theorem foldl_add_len (L : List (List Int)) : ∀ a, L.foldl (fun a l => a + l.length) a = a + bulkOf L := by
  induction L with
  | nil => intro a; simp [bulkOf]
  | cons l L ih => intro a; unfold bulkOf; simp only [List.foldl_cons]; rw [ih, ih (0 + l.length)]; omega
theorem bulk_take_succ (L : List (List Int)) (k : Nat) (l : List Int) (h : L[k]? = some l) : bulkOf (L.take (k + 1)) = bulkOf (L.take k) + l.length := by
  unfold bulkOf
  rw [foldl_take_succ _ _ _ _ _ h]
theorem bulk_take_le (L : List (List Int)) (k : Nat) : bulkOf (L.take k) ≤ bulkOf L := by
  have h : bulkOf L = bulkOf (L.take k) + bulkOf (L.drop k) := by
    conv => lhs; rw [← List.take_append_drop k L]
    unfold bulkOf
    rw [List.foldl_append, foldl_add_len]
    rfl
  omega
theorem bulk_mem (L : List (List Int)) (l : List Int) (h : l ∈ L) : l.length ≤ bulkOf L := by
  obtain ⟨k, hk⟩ := List.getElem?_of_mem h
  have h1 := bulk_take_succ L k l hk
  have h2 := bulk_take_le L (k + 1)
  omega

/-! ### orders -/
def hasB (l : List Int) (x : Int) : Bool := decide (x ∈ l)
theorem hasB_snoc (l : List Int) (y x : Int) : hasB (l ++ [y]) x = (hasB l x || decide (x = y)) := by simp [hasB]
/-- Each number of the rest is an index below n and not among those seen. -/
def ordB (n : Int) : List Int → List Int → Bool
  | _, [] => true
  | seen, x :: xs => inB x 0 (n - 1) && !hasB seen x && ordB n (seen ++ [x]) xs
def orderOk (o : List Int) (n : Nat) : Bool := sameLen o.length n && ordB n [] o
theorem ordB_step (n : Int) (o : List Int) (k : Nat) (x : Int) (h : o[k]? = some x) : ordB n (o.take k) (o.drop k) = (inB x 0 (n - 1) && !hasB (o.take k) x && ordB n (o.take (k + 1)) (o.drop (k + 1))) := by
  obtain ⟨hk, rfl⟩ := List.getElem?_eq_some_iff.1 h
  rw [List.drop_eq_getElem_cons hk, List.take_succ_eq_append_getElem hk]
  rfl
theorem ordB_all (n : Int) (o : List Int) : ∀ seen, ordB n seen o = true → ∀ x ∈ o, 0 ≤ x ∧ x ≤ n - 1 := by
  induction o with
  | nil => intro seen _ x hx; cases hx
  | cons y o ih =>
    intro seen h x hx
    simp only [ordB, Bool.and_eq_true, inB_iff] at h
    rcases List.mem_cons.1 hx with rfl | hx
    · exact h.1.1
    · exact ih _ h.2 x hx
def kindAt (h : List Heat) (i : Int) : Int := ((h[i.toNat]?).map fun a => a.k).getD 0
def cellAt (L : List (List Int)) (r c : Int) : Int := ((L[r.toNat]?).bind fun l => l[c.toNat]?).getD 0
def stepLoss (h : List Heat) (L : List (List Int)) (p : Int × Int) : Int := cellAt L (kindAt h p.1) (kindAt h p.2)
def orderSum (h : List Heat) (L : List (List Int)) (p : List (Int × Int)) : Int := p.foldl (fun a q => a + stepLoss h L q) 0
def orderLost (h : List Heat) (L : List (List Int)) (o : List Int) : Int := if heatsOk h && lostOk L && orderOk o h.length then orderSum h L (o.zip o.tail) else -1
theorem kindAt_nat {h : List Heat} {i : Nat} {a : Heat} (ha : h[i]? = some a) : kindAt h (i : Int) = a.k := by simp [kindAt, ha]
theorem cellAt_nat {L : List (List Int)} {r c : Nat} {l : List Int} {x : Int} (hl : L[r]? = some l) (hx : l[c]? = some x) : cellAt L (r : Int) (c : Int) = x := by simp [cellAt, hl, hx]
theorem lost_len {L : List (List Int)} (h : lostOk L = true) : L.length = 4 := by simp [lostOk, sameLen] at h; exact h.1
theorem lost_row {L : List (List Int)} {k : Nat} {l : List Int} (h : lostOk L = true) (hl : L[k]? = some l) : l.length = 4 ∧ l.all lossB = true := by
  simp only [lostOk, Bool.and_eq_true] at h
  have := all_at h.2 hl
  simpa [rowOk, sameLen] using this
theorem lost_cell {L : List (List Int)} {k j : Nat} {l : List Int} {x : Int} (h : lostOk L = true) (hl : L[k]? = some l) (hx : l[j]? = some x) : 0 ≤ x ∧ x ≤ 99 := by
  have := all_at (lost_row h hl).2 hx
  simpa [lossB, inB_iff] using this

/-! ### the earliest times -/
/-- The least time for the first of heats, at least b, where the first stands k places behind. -/
def needF (s : Int) : Int → Int → List Heat → Int
  | b, _, [] => b
  | b, k, h :: t => needF s (maxI b (h.r - k * s)) (k + 1) t
theorem needF_snoc (s : Int) (l : List Heat) (a : Heat) : ∀ (b k : Int), needF s b k (l ++ [a]) = maxI (needF s b k l) (a.r - (k + l.length) * s) := by
  induction l with
  | nil => intro b k; simp [needF]
  | cons h l ih =>
    intro b k
    simp only [List.cons_append, needF, ih, List.length_cons]
    rw [show k + 1 + (l.length : Int) = k + ((l.length + 1 : Nat) : Int) from by omega]
theorem needF_take (s b : Int) (l : List Heat) (k : Nat) (a : Heat) (h : l[k]? = some a) : needF s b 0 (l.take (k + 1)) = maxI (needF s b 0 (l.take k)) (a.r - (k : Int) * s) := by
  obtain ⟨hk, rfl⟩ := List.getElem?_eq_some_iff.1 h
  rw [List.take_succ_eq_append_getElem hk, needF_snoc, List.length_take, Nat.min_eq_left (by omega), Int.zero_add]
theorem maxI_assoc (a b c : Int) : maxI (maxI a b) c = maxI a (maxI b c) := by
  simp only [maxI_eq]; omega
theorem needF_max (s a : Int) (l : List Heat) : ∀ (b k : Int), needF s (maxI a b) k l = maxI a (needF s b k l) := by
  induction l with
  | nil => intro b k; rfl
  | cons h l ih => intro b k; simp only [needF]; rw [maxI_assoc, ih]
theorem needF_zero (s a : Int) (l : List Heat) (h : 0 ≤ a) : maxI a (needF s 0 0 l) = needF s a 0 l := by
  rw [← needF_max]
  congr 1
  rw [maxI_eq]; omega
theorem needF_ge (s : Int) (l : List Heat) : ∀ (b k : Int), b ≤ needF s b k l := by
  induction l with
  | nil => intro b k; exact Int.le_refl _
  | cons h l ih => intro b k; simp only [needF]; have := ih (maxI b (h.r - k * s)) (k + 1); rw [maxI_eq] at this ⊢; omega
theorem needF_le (s : Int) (hs : 0 ≤ s) (l : List Heat) (hl : ∀ a ∈ l, a.r ≤ 999) : ∀ (b k M : Int), 0 ≤ k → b ≤ M → 999 ≤ M → needF s b k l ≤ M := by
  induction l with
  | nil => intro b k M _ h _; exact h
  | cons h l ih =>
    intro b k M hk hb hM
    simp only [needF]
    refine ih (fun a ha => hl a (List.mem_cons_of_mem _ ha)) _ _ _ (by omega) ?_ hM
    have := hl h (List.mem_cons_self ..)
    have : 0 ≤ k * s := Int.mul_nonneg hk hs
    rw [maxI_eq]; omega
def timesFrom (c : Caster) : Int → List Heat → List Int
  | nx, [] => [nx]
  | nx, h :: t => needF c.s nx 0 (h :: t) :: timesFrom c (needF c.s nx 0 (h :: t) + c.f) t
theorem timesFrom_length (c : Caster) (h : List Heat) : ∀ nx, (timesFrom c nx h).length = h.length + 1 := by
  induction h with
  | nil => intro nx; rfl
  | cons a h ih => intro nx; simp [timesFrom, ih]
theorem timesFrom_drop (c : Caster) (h : List Heat) (k : Nat) (nx : Int) (hk : k < h.length) : timesFrom c nx (h.drop k) = needF c.s nx 0 (h.drop k) :: timesFrom c (needF c.s nx 0 (h.drop k) + c.f) (h.drop (k + 1)) := by
  rw [List.drop_eq_getElem_cons hk]
  rfl
def castTimes (h : List Heat) (c : Caster) : List Int := if heatsOk h && casterOk c then timesFrom c 0 h else []
def castEnd (h : List Heat) (c : Caster) : Int := (castTimes h c).getLastD (-1)
/-- The list whose last number is e, with steps of f. -/
def lateFrom (f e : Int) : Nat → List Int
  | 0 => [e]
  | n + 1 => (e - ((n : Int) + 1) * f) :: lateFrom f e n
def castLate (h : List Heat) (c : Caster) : List Int := if heatsOk h && casterOk c then lateFrom c.f (castEnd h c) h.length else []
theorem lateFrom_length (f e : Int) (n : Nat) : (lateFrom f e n).length = n + 1 := by
  induction n with
  | zero => rfl
  | succ n ih => simp [lateFrom, ih]
theorem lateFrom_at (f e : Int) (n k : Nat) (hk : k ≤ n) : (lateFrom f e n)[k]? = some (e - ((n : Int) - k) * f) := by
  induction n generalizing k with
  | zero =>
    obtain rfl : k = 0 := by omega
    simp [lateFrom]
  | succ n ih =>
    cases k with
    | zero => simp [lateFrom]
    | succ k => simp only [lateFrom, List.getElem?_cons_succ]; rw [ih k (by omega)]; congr 3; omega

theorem timesFrom_last (c : Caster) (hf : 1 ≤ c.f) (hf' : c.f ≤ 99) (hs : 0 ≤ c.s) (h : List Heat) (hl : ∀ a ∈ h, a.r ≤ 999) : ∀ (nx d M : Int), nx ≤ M → 999 ≤ M → nx ≤ (timesFrom c nx h).getLastD d ∧ (timesFrom c nx h).getLastD d ≤ M + 99 * h.length := by
  induction h with
  | nil => intro nx d M h1 h2; simp [timesFrom]; omega
  | cons a h ih =>
    intro nx d M h1 h2
    have g1 := needF_ge c.s (a :: h) nx 0
    have g2 := needF_le c.s hs (a :: h) hl nx 0 M (by omega) h1 h2
    have := ih (fun b hb => hl b (List.mem_cons_of_mem _ hb)) (needF c.s nx 0 (a :: h) + c.f) (needF c.s nx 0 (a :: h)) (M + 99) (by omega) (by omega)
    simp only [timesFrom, List.getLastD_cons, List.length_cons]
    omega
theorem castEnd_bounds {h : List Heat} {c : Caster} (h1 : heatsOk h = true) (h2 : casterOk c = true) : 0 ≤ castEnd h c ∧ castEnd h c ≤ 1593 := by
  have hb := caster_bounds h2
  have hl := heats_len h1
  have hm : ∀ a ∈ h, a.r ≤ 999 := by
    intro a ha
    obtain ⟨k, hk'⟩ := List.getElem?_of_mem ha
    have := heat_bounds h1 hk'
    omega
  have := timesFrom_last c (by omega) (by omega) (by omega) h hm 0 (-1) 999 (by omega) (by omega)
  simp only [castEnd, castTimes, h1, h2, Bool.and_self, if_true]
  omega
theorem castEnd_bad {h : List Heat} {c : Caster} (h1 : (heatsOk h && casterOk c) = false) : castEnd h c = -1 := by
  simp [castEnd, castTimes, h1]
theorem getLastD_at (l : List Int) (m : Nat) (d x : Int) (h : l.length = m + 1) (hx : l[m]? = some x) : l.getLastD d = x := by
  rw [List.getLastD_eq_getLast?, List.getLast?_eq_getElem?, h]
  simp [hx]

/-! ### waiting; ladles -/
def waitB (p : Heat × Int) : Int := p.2 - p.1.r
def waitsOf (p : List (Heat × Int)) : Int := p.foldl (fun a q => a + waitB q) 0
def heatWaits (h : List Heat) (c : Caster) (t : List Int) : Int := if castOk h c t then waitsOf (h.zip t) else -1
def fullB (m : Int) (p : Heat × Int) : Bool := decide (p.1.t ≤ m) && decide (m < p.2)
def fullOf (m : Int) (p : List (Heat × Int)) : Nat := p.countP (fullB m)
def ladlesAt (h : List Heat) (c : Caster) (t : List Int) (m : Int) : Int := if castOk h c t then (fullOf m (h.zip t.tail) : Nat) else 0
def mostOf (h : List Heat) (c : Caster) (t : List Int) (l : List Heat) : Int := l.foldl (fun a x => maxI a (ladlesAt h c t x.t)) 0
def ladlesMost (h : List Heat) (c : Caster) (t : List Int) : Int := if castOk h c t then mostOf h c t h else -1
theorem countP_take_succ {α : Type} (f : α → Bool) (l : List α) (k : Nat) (a : α) (h : l[k]? = some a) : (l.take (k + 1)).countP f = (l.take k).countP f + if f a then 1 else 0 := by
  obtain ⟨hk, rfl⟩ := List.getElem?_eq_some_iff.1 h
  rw [List.take_succ_eq_append_getElem hk, List.countP_append]
  simp [List.countP_cons]
theorem ladlesAt_bounds (h : List Heat) (c : Caster) (t : List Int) (m : Int) : 0 ≤ ladlesAt h c t m ∧ ladlesAt h c t m ≤ h.length := by
  unfold ladlesAt
  split
  · have := List.countP_le_length (p := fullB m) (l := h.zip t.tail)
    have h2 : (h.zip t.tail).length ≤ h.length := by simp; omega
    unfold fullOf
    omega
  · omega
end Go.Proofs.Ytblfbllhkmcbbaa
