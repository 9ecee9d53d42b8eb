/-
  A table that was grown row by row, all rows of one length: its rows and numbers are read and stored; what the reference fills in.
-/
import Derived.Test.YtblfbllhkmcbbaaGe
namespace Go.Proofs.Ytblfbllhkmcbbaa
open Go.RowKit
set_option linter.unusedVariables false
def Rows (w : World) (lo g N n c : Nat) (hd : List (Option Addr × Nat)) (D : Nat → List Int) : Prop :=
  TGrow w lo g 32 3 N c hd ((List.range N).map D) ∧ Dist hd ∧ ∀ i, i < N → (D i).length = n
theorem map_same_l {α : Type} {n : Nat} {f g : Nat → α} (hf : ∀ l, l < n → f l = g l) : (List.range n).map f = (List.range n).map g := List.map_congr_left fun l hl => hf l (List.mem_range.1 hl)
theorem own_zeros (w : World) (n : Nat) (hn : n ≤ 1000) : Own (w.alloc (.cells (madeCells #[.int .i64 0] n) 3)) w.heap.size (w.heap.size + 1) 3 1 (some ⟨w.heap.size, 0, none⟩) n n (ints (List.replicate n 0)) := by
  refine Own.mk_ (Nat.le_refl _) (by omega) (Nat.le_refl _) (by unfold maxLen; omega) (Blk.made _ _ _) ((size_madeCells _ _).trans (by simp)) ?_
  have hz : (madeCells #[.int .i64 0] n).toList = ints (List.replicate n 0) := by
    simp only [ints, List.map_replicate]
    rw [List.eq_replicate_iff]
    refine ⟨by simp [madeCells], fun b hb => ?_⟩
    simp [madeCells, Nat.mod_one] at hb
    exact hb.2.symm
  rw [hz, Nat.mul_one, List.take_of_length_le (by simp [ints])]
section
variable {w w' : World} {lo g N n c : Nat} {hd : List (Option Addr × Nat)} {D : Nat → List Int}
theorem Rows.same {D' : Nat → List Int} (h : Rows w lo g N n c hd D) (hD : ∀ i, i < N → D i = D' i) : Rows w lo g N n c hd D' := by
  obtain ⟨h1, h2, h3⟩ := h
  refine ⟨?_, h2, fun i hi => by rw [← hD i hi]; exact h3 i hi⟩
  rw [← map_same_l hD]
  exact h1
theorem Rows.tab (h : Rows w lo g N n c hd D) : Tab w w.heap.size (some ⟨g, 0, none⟩) ((List.range N).map D) := h.1.tab
theorem map_set_at {i : Nat} (l : List Int) (D : Nat → List Int) (N : Nat) : ((List.range N).map D).set i l = (List.range N).map fun k => if k = i then l else D k := by
  apply List.ext_getElem?
  intro j
  rw [List.getElem?_set]
  by_cases hj : j < N
  · by_cases hk : i = j
    · subst hk; simp [hj]
    · rw [if_neg hk]
      have : ¬ j = i := fun e => hk e.symm
      simp [hj, this]
  · by_cases hk : i = j
    · subst hk; simp [hj]
    · rw [if_neg hk, List.getElem?_eq_none (by simp; omega), List.getElem?_eq_none (by simp; omega)]
theorem Rows.row {i : Nat} (h : Rows w lo g N n c hd D) (hi : i < N) : ∃ q cr, w.cell? ⟨g, i, none⟩ = some (.slice (some ⟨q, 0, none⟩) n cr) ∧ w.frozen? ⟨g, i, none⟩ = false ∧ lo ≤ q ∧ q < w.heap.size ∧
    ∀ j x, (D i)[j]? = some x → w.cell? ⟨q, j, none⟩ = some (.int .i64 x) ∧ w.frozen? ⟨q, j, none⟩ = false ∧ ∀ v, Rows (w.setCell ⟨q, j, none⟩ (.int .i64 v)) lo g N n c hd (fun k => if k = i then (D i).set j v else D k) := by
  obtain ⟨h1, h2, h3⟩ := h
  have hL : ((List.range N).map D)[i]? = some (D i) := by simp [hi]
  obtain ⟨q, cr, k1, k2, k3, k4, k5, k6, k7⟩ := h1.row hL
  rw [h3 i hi] at k1
  refine ⟨q, cr, k1, k2, k4, k6, fun j x hx => ?_⟩
  obtain ⟨m1, m2, m3⟩ := num_own k7 hx
  refine ⟨m1, m2, fun v => ⟨?_, h2, fun k hk => ?_⟩⟩
  · have := h1.num h2 hL k3 hx v
    rwa [map_set_at] at this
  · show (if k = i then (D i).set j v else D k).length = n
    by_cases hki : k = i
    · rw [if_pos hki, List.length_set]; exact h3 i hi
    · rw [if_neg hki]; exact h3 k hk
end
/-- Row i when rows s and behind it are filled. -/
def rowU (h : List Heat) (L : List (List Int)) (s i : Nat) : List Int := (List.range h.length).map fun l => if s ≤ i then rest (lossN h L) h.length i l else 0
/-- Row i while row s is filled up to place k. -/
def rowV (h : List Heat) (L : List (List Int)) (s k i : Nat) : List Int := (List.range h.length).map fun l => if s < i ∨ (i = s ∧ l < k) then rest (lossN h L) h.length i l else 0
section
variable {h : List Heat} {L : List (List Int)} {s k i : Nat}
theorem rowU_first {N : Nat} (hn : h.length < 7) (hN : N = 2 ^ h.length) (hi : i < N) : rowU h L (N - 1) i = List.replicate h.length 0 := by
  refine zeros_of fun l _ => ?_
  by_cases hs : N - 1 ≤ i
  · rw [if_pos hs]
    obtain rfl : i = 2 ^ h.length - 1 := by omega
    exact rest_full hn l
  · rw [if_neg hs]
theorem rowV_zero : rowU h L (s + 1) i = rowV h L s 0 i := by
  refine map_same fun l _ => ?_
  have : s + 1 ≤ i ↔ s < i := by omega
  simp [this]
theorem rowV_end : rowV h L s h.length i = rowU h L s i := by
  refine map_same fun l hl => ?_
  have : (s < i ∨ (i = s ∧ l < h.length)) ↔ s ≤ i := by omega
  simp [this]
theorem rowV_at : k < h.length → (rowV h L s k s)[k]? = some 0 := by
  intro hk
  simp [rowV, hk]
theorem rowV_more {l : Nat} (hs : s < i) (hl : l < h.length) : (rowV h L s k i)[l]? = some (rest (lossN h L) h.length i l) := by
  simp [rowV, hl, hs]
theorem rowV_put {v : Int} (hv : v = rest (lossN h L) h.length s k) : (if i = s then (rowV h L s k s).set k v else rowV h L s k i) = rowV h L s (k + 1) i := by
  by_cases hi : i = s
  · subst hi
    rw [if_pos rfl]
    apply List.ext_getElem?
    intro j
    unfold rowV
    by_cases hj : j < h.length
    · rw [List.getElem?_set]
      by_cases hk : k = j
      · subst hk; simp [hj, hv]
      · rw [if_neg hk]
        have : j < k + 1 ↔ j < k := by omega
        simp [hj, this]
    · rw [List.getElem?_eq_none (by simp; omega), List.getElem?_eq_none (by simp; omega)]
  · rw [if_neg hi]
    refine map_same fun l _ => ?_
    simp [hi]
theorem rowU_at {l : Nat} (hs : s ≤ i) (hl : l < h.length) : (rowU h L s i)[l]? = some (rest (lossN h L) h.length i l) := by simp [rowU, hl, hs]
theorem rowU_len : (rowU h L s i).length = h.length := by simp [rowU]
theorem rowV_len : (rowV h L s k i).length = h.length := by simp [rowV]
end
/-- Where what is lost behind a set is read: block g holds rows, all of it lies in blocks from lo on and below hi. -/
def Behind (w : World) (lo hi g n : Nat) (R : Nat → Nat → Int) : Prop :=
  ∀ s i, 0 < s → s < 2 ^ n → i < n → s.testBit i = true → ∃ q cr, lo ≤ g ∧ g < hi ∧ lo ≤ q ∧ q < hi ∧ w.cell? ⟨g, s, none⟩ = some (.slice (some ⟨q, 0, none⟩) n cr) ∧ w.cell? ⟨q, i, none⟩ = some (.int .i64 (R s i))
theorem Behind.only {w w' : World} {lo hi g n lo' hi' : Nat} {R : Nat → Nat → Int} (h : Behind w lo hi g n R) (hi0 : hi ≤ w.heap.size) (hb : Only lo' hi' w w') (hd : hi ≤ lo' ∨ hi' ≤ lo) : Behind w' lo hi g n R := by
  intro s i h1 h2 h3 h4
  obtain ⟨q, cr, k1, k2, k3, k4, k5, k6⟩ := h s i h1 h2 h3 h4
  exact ⟨q, cr, k1, k2, k3, k4, (only_cell' hb (by omega) (by omega)).trans k5, (only_cell' hb (by omega) (by omega)).trans k6⟩
theorem Behind.below {w w' : World} {lo hi g n : Nat} {R : Nat → Nat → Int} (h : Behind w lo hi g n R) (hi0 : hi ≤ w.heap.size) (hb : Below w.heap.size w w') : Behind w' lo hi g n R :=
  h.only (lo' := w.heap.size) (hi' := w.heap.size) hi0 (Only.of_below hb _ _) (.inl hi0)
theorem Grid.behind {w : World} {lo g N n s : Nat} {bs : Nat → Nat} {D : Nat → List Int} {R : Nat → Nat → Int} (h : Grid w lo g N n s bs D) (hs : s ≤ 1) (hN : N = 2 ^ n) (hD : ∀ t i, 0 < t → i < n → t.testBit i = true → (D t)[i]? = some (R t i)) : Behind w lo w.heap.size g n R := by
  intro t i h1 h2 h3 h4
  obtain ⟨a, b, c, d, e⟩ := h.2.2 t (by omega) (by omega)
  exact ⟨bs t, n, h.1, h.lt, a, d.lt, (h.row (by omega) (by omega)).1, (h.num (by omega) (by omega) (hD t i h1 h3 h4)).1⟩
theorem Rows.behind {w : World} {lo g N n c : Nat} {hd : List (Option Addr × Nat)} {D : Nat → List Int} {R : Nat → Nat → Int} (h : Rows w lo g N n c hd D) (hN : N = 2 ^ n) (hD : ∀ t i, 0 < t → i < n → t.testBit i = true → (D t)[i]? = some (R t i)) : Behind w lo w.heap.size g n R := by
  intro t i h1 h2 h3 h4
  obtain ⟨q, cr, k1, k2, k3, k4, k5⟩ := h.row (i := t) (by omega)
  exact ⟨q, cr, h.1.2.2.1, h.1.2.1, k3, k4, k1, (k5 i _ (hD t i h1 h3 h4)).1⟩
theorem bit_remF : ∀ (s : Fin 64) (k : Fin 6), (((s.val : Nat) : Int) / 2 ^ k.val).tmod 2 = if s.val.testBit k.val then 1 else 0 := by decide +kernel
theorem bit_rem {s k : Nat} (hs : s < 64) (hk : k < 6) : ((s : Int) / 2 ^ k).tmod 2 = if s.testBit k then 1 else 0 := bit_remF ⟨s, hs⟩ ⟨k, hk⟩
/-- What stands behind the last place: for a set that is not full the least is there. -/
theorem minK_rest {c : Nat → Nat → Int} {n s last : Nat} (hn : n < 7) (hs : s < 2 ^ n - 1) (d : Int) : (minK c (rest c n) s last n).getD d = rest c n s last := by
  obtain ⟨i, hi, hb⟩ := bit_free n hn s hs
  rw [rest_eq hn last (by omega)]
  have := minK_some (c := c) (T := rest c n) (last := last) hb n hi
  cases h : minK c (rest c n) s last n with
  | none => rw [h] at this; cases this
  | some v => rfl
end Go.Proofs.Ytblfbllhkmcbbaa
