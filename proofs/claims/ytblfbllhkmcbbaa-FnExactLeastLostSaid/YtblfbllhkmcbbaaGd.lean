/-
  A table whose rows are made from behind: rows s .. N - 1 lie in blocks of their own, the rows before them are nil.
-/
import Derived.Test.YtblfbllhkmcbbaaTg
import Derived.Test.YtblfbllhkmcbbaaPr
namespace Go.Proofs.Ytblfbllhkmcbbaa
open Go.RowKit
set_option linter.unusedVariables false
def Grid (w : World) (lo g N n s : Nat) (bs : Nat → Nat) (D : Nat → List Int) : Prop :=
  lo ≤ g ∧ (∃ cs : Array Value, Blk w g 32 cs ∧ cs.size = N ∧ (∀ i, s ≤ i → i < N → cs[i]? = some (.slice (some ⟨bs i, 0, none⟩) n n)) ∧ (∀ i, i < s → i < N → cs[i]? = some (.slice none 0 0))) ∧
    ∀ i, s ≤ i → i < N → lo ≤ bs i ∧ bs i ≠ g ∧ (D i).length = n ∧ Blk w (bs i) 3 (ints (D i)).toArray ∧ (∀ j, s ≤ j → j < N → bs i = bs j → i = j)
theorem madeAt (v : Value) (n j : Nat) (h : j < n) : (madeCells #[v] n)[j]? = some v := by
  simp [madeCells]
  exact ⟨j, by simp [h], by simp [Nat.mod_one]⟩
section
variable {w w' : World} {lo g N n s : Nat} {bs : Nat → Nat} {D : Nat → List Int}
theorem Grid.made (w : World) (lo N n : Nat) (bs : Nat → Nat) (D : Nat → List Int) (hlo : lo ≤ w.heap.size) : Grid (w.alloc (.cells (madeCells #[.slice none 0 0] N) 32)) lo w.heap.size N n N bs D := by
  refine ⟨hlo, ⟨_, Blk.made _ _ _, (size_madeCells _ _).trans (by simp), fun i h1 h2 => by omega, fun i h1 h2 => madeAt _ _ _ h2⟩, fun i h1 h2 => by omega⟩
theorem Grid.keep (h : Grid w lo g N n s bs D) (hk : ∀ i, lo ≤ i → i < w.heap.size → w'.heap[i]? = w.heap[i]?) : Grid w' lo g N n s bs D := by
  obtain ⟨h1, ⟨cs, h2, h3, h4, h5⟩, h6⟩ := h
  refine ⟨h1, ⟨cs, (hk g h1 h2.lt).trans h2, h3, h4, h5⟩, fun i k1 k2 => ?_⟩
  obtain ⟨a, b, c, d, e⟩ := h6 i k1 k2
  exact ⟨a, b, c, (hk _ a d.lt).trans d, e⟩
theorem Grid.alloc (h : Grid w lo g N n s bs D) (o : Obj) : Grid (w.alloc o) lo g N n s bs D :=
  h.keep fun i _ hi => ((Below.refl _ _).alloc (Nat.le_refl _) o).block i hi
theorem Grid.drew (h : Grid w lo g N n s bs D) : Grid w.drew lo g N n s bs D := h
theorem Grid.lt (h : Grid w lo g N n s bs D) : g < w.heap.size := by
  obtain ⟨h1, ⟨cs, h2, h3, h4, h5⟩, h6⟩ := h
  exact h2.lt
/-- A place of the outer row. -/
theorem Grid.outer (h : Grid w lo g N n s bs D) {i : Nat} (hi : i < N) : ∃ v, w.cell? ⟨g, i, none⟩ = some v ∧ w.frozen? ⟨g, i, none⟩ = false := by
  obtain ⟨_, ⟨cs, hb, h3, h4, h5⟩, h6⟩ := h
  exact ⟨cs[i]'(by omega), by rw [hb.cell]; exact Array.getElem?_eq_getElem _, hb.frozen i⟩
/-- What is read of a made row. -/
theorem Grid.row (h : Grid w lo g N n s bs D) {i : Nat} (h1 : s ≤ i) (h2 : i < N) : w.cell? ⟨g, i, none⟩ = some (.slice (some ⟨bs i, 0, none⟩) n n) ∧ w.frozen? ⟨g, i, none⟩ = false := by
  obtain ⟨_, ⟨cs, hb, h3, h4, h5⟩, h6⟩ := h
  exact ⟨(hb.cell i).trans (h4 i h1 h2), hb.frozen i⟩
theorem Grid.num (h : Grid w lo g N n s bs D) {i j : Nat} {x : Int} (h1 : s ≤ i) (h2 : i < N) (hx : (D i)[j]? = some x) : w.cell? ⟨bs i, j, none⟩ = some (.int .i64 x) ∧ w.frozen? ⟨bs i, j, none⟩ = false := by
  obtain ⟨a, b, c, d, e⟩ := h.2.2 i h1 h2
  refine ⟨?_, d.frozen j⟩
  rw [d.cell, List.getElem?_toArray]
  exact ints_get hx
/-- One row more, from behind. -/
theorem Grid.more (h : Grid w lo g N n (s + 1) bs D) (hs : s < N) :
    Grid ((w.alloc (.cells (madeCells #[.int .i64 0] n) 3)).setCell ⟨g, s, none⟩ (.slice (some ⟨w.heap.size, 0, none⟩) n n)) lo g N n s (fun i => if i = s then w.heap.size else bs i) (fun i => if i = s then List.replicate n 0 else D i) := by
  have hg := h.lt
  have hA := h.alloc (.cells (madeCells #[.int .i64 0] n) 3)
  have hN := Blk.made w 3 (madeCells #[.int .i64 0] n)
  have hsz : ∀ i, s + 1 ≤ i → i < N → bs i < w.heap.size := fun i k1 k2 => (h.2.2 i k1 k2).2.2.2.1.lt
  generalize w.alloc _ = W at hA hN ⊢
  obtain ⟨h1, ⟨cs, h2, h3, h4, h5⟩, h6⟩ := hA
  refine ⟨h1, ⟨_, h2.put s _, by simpa using h3, fun i k1 k2 => ?_, fun i k1 k2 => ?_⟩, fun i k1 k2 => ?_⟩
  · by_cases hi : i = s
    · subst hi
      simp [h3, hs]
    · rw [Array.getElem?_setIfInBounds_ne (by omega)]
      show cs[i]? = some (.slice (some ⟨if i = s then _ else bs i, 0, none⟩) n n)
      rw [if_neg hi]
      exact h4 i (by omega) k2
  · rw [Array.getElem?_setIfInBounds_ne (by omega)]
    exact h5 i (by omega) k2
  · by_cases hi : i = s
    · subst hi
      simp only [if_true]
      refine ⟨by omega, by omega, by simp, ?_, fun j j1 j2 he => ?_⟩
      · have hz : (ints (List.replicate n 0)).toArray = madeCells #[.int .i64 0] n := by
          apply Array.toList_inj.1
          simp only [ints, List.map_replicate]
          symm
          rw [List.eq_replicate_iff]
          refine ⟨by simp [madeCells], fun b hb => ?_⟩
          simp [madeCells, Nat.mod_one] at hb
          exact hb.2.symm
        rw [hz]
        exact hN.other (p := ⟨g, i, none⟩) (by show w.heap.size ≠ g; omega) _
      · by_cases hj : j = i
        · exact hj.symm
        · rw [if_neg hj] at he
          have := hsz j (by omega) j2
          omega
    · simp only [if_neg hi]
      obtain ⟨a, b, c, d, e⟩ := h6 i (by omega) k2
      refine ⟨a, b, c, d.other (p := ⟨g, s, none⟩) (by show bs i ≠ g; omega) _, fun j j1 j2 he => ?_⟩
      by_cases hj : j = s
      · rw [if_pos hj] at he
        have := hsz i (by omega) k2
        omega
      · rw [if_neg hj] at he
        exact e j (by omega) j2 he
/-- A number of a made row is stored anew. -/
theorem Grid.put (h : Grid w lo g N n s bs D) {i j : Nat} (h1 : s ≤ i) (h2 : i < N) (v : Int) :
    Grid (w.setCell ⟨bs i, j, none⟩ (.int .i64 v)) lo g N n s bs (fun k => if k = i then (D i).set j v else D k) := by
  obtain ⟨hl, ⟨cs, hb, h3, h4, h5⟩, h6⟩ := h
  obtain ⟨a, b, c, d, e⟩ := h6 i h1 h2
  refine ⟨hl, ⟨cs, hb.other (p := ⟨bs i, j, none⟩) (by show g ≠ bs i; omega) _, h3, h4, h5⟩, fun k k1 k2 => ?_⟩
  obtain ⟨a', b', c', d', e'⟩ := h6 k k1 k2
  by_cases hk : k = i
  · subst hk
    simp only [if_true]
    refine ⟨a, b, by simpa using c, ?_, e⟩
    have := d.put j (.int .i64 v)
    simpa [ints, List.map_set] using this
  · simp only [if_neg hk]
    refine ⟨a', b', c', d'.other (p := ⟨bs i, j, none⟩) (by show bs k ≠ bs i; exact fun he => hk (e' i h1 h2 he)) _, e'⟩
theorem Grid.same {D' : Nat → List Int} (h : Grid w lo g N n s bs D) (hD : ∀ i, s ≤ i → i < N → D i = D' i) : Grid w lo g N n s bs D' := by
  obtain ⟨hl, hb, h6⟩ := h
  refine ⟨hl, hb, fun i k1 k2 => ?_⟩
  rw [← hD i k1 k2]
  exact h6 i k1 k2
/-- The table as its reader sees it; row 0 may be nil. -/
theorem Grid.tab (h : Grid w lo g N n s bs D) (hs : s ≤ 1) (hN : 1 ≤ N) (h0 : s = 1 → D 0 = []) : Tab w w.heap.size (some ⟨g, 0, none⟩) ((List.range N).map D) := by
  have hg := h.lt
  obtain ⟨hl, ⟨cs, hb, h3, h4, h5⟩, h6⟩ := h
  refine ⟨(List.range N).map fun i => if s ≤ i then (some ⟨bs i, 0, none⟩, n) else (none, 0), by simp, .inr ⟨g, 0, rfl, hg, fun j u hu => ?_⟩, fun i a c l ha hx => ?_⟩
  · have hj : j < N := by
      have := (List.getElem?_eq_some_iff.1 hu).1
      simp [heads] at this
      omega
    have e1 : ((List.range N).map fun i => if s ≤ i then ((some ⟨bs i, 0, none⟩ : Option Addr), n) else (none, 0))[j]? = some (if s ≤ j then (some ⟨bs j, 0, none⟩, n) else (none, 0)) := by simp [hj]
    have e2 : ((List.range N).map D)[j]? = some (D j) := by simp [hj]
    rw [Nat.zero_add, hb.cell]
    by_cases hsj : s ≤ j
    · rw [if_pos hsj] at e1
      have e3 := heads_at e1 e2
      rw [e3] at hu
      injection hu with hu
      rw [← hu, h4 j hsj hj, (h6 j hsj hj).2.2.1]
    · rw [if_neg hsj] at e1
      have e3 := heads_at e1 e2
      rw [e3] at hu
      injection hu with hu
      obtain rfl : j = 0 := by omega
      rw [← hu, h5 0 (by omega) hj, h0 (by omega)]
      rfl
  · have hi : i < N := by
      have := (List.getElem?_eq_some_iff.1 hx).1
      simp at this
      omega
    simp only [List.getElem?_map, List.getElem?_range hi, Option.map_some, Option.some.injEq] at ha hx
    subst hx
    by_cases hsi : s ≤ i
    · rw [if_pos hsi] at ha
      injection ha with ha1 ha2
      subst ha1; subst ha2
      obtain ⟨a1, b1, c1, d1, e1⟩ := h6 i hsi hi
      refine ⟨.inr ⟨bs i, 0, rfl, d1.lt, fun j u hu => ?_⟩, by omega⟩
      rw [Nat.zero_add, d1.cell, List.getElem?_toArray]
      exact hu
    · rw [if_neg hsi] at ha
      injection ha with ha1 ha2
      subst ha1; subst ha2
      obtain rfl : i = 0 := by omega
      rw [h0 (by omega)]
      exact ⟨.inl rfl, by simp⟩
end
end Go.Proofs.Ytblfbllhkmcbbaa
