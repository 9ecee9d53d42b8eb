/-
  The rows of the table of what is lost behind a set, while the program fills them; bits as the program tests them; what is read of heats and losses.
-/
import Derived.Test.YtblfbllhkmcbbaaGd
import Derived.Test.YtblfbllhkmcbbaaOl
namespace Go.Proofs.Ytblfbllhkmcbbaa
open Go.RowKit
set_option linter.unusedVariables false
/-- What is lost from one heat to the next. -/
def lossN (h : List Heat) (L : List (List Int)) (a b : Nat) : Int := stepLoss h L ((a : Int), (b : Int))
/-- Row i when the table is filled. -/
def rowR (h : List Heat) (L : List (List Int)) (i : Nat) : List Int := (List.range h.length).map fun l => if i.testBit l then rest (lossN h L) h.length i l else 0
/-- Row i while row s is filled up to place k. -/
def rowD (h : List Heat) (L : List (List Int)) (s k i : Nat) : List Int := (List.range h.length).map fun l => if i.testBit l ∧ (i = s → l < k) then rest (lossN h L) h.length i l else 0
/-- Row i while place k of row s is reckoned. -/
def rowE (h : List Heat) (L : List (List Int)) (s k : Nat) (o : Option Int) (i : Nat) : List Int := (List.range h.length).map fun l => if i = s ∧ l = k then o.getD 0 else if i.testBit l ∧ (i = s → l < k) then rest (lossN h L) h.length i l else 0
section
variable {h : List Heat} {L : List (List Int)} {s k i : Nat}
theorem zeros_of {n : Nat} {f : Nat → Int} (hf : ∀ l, l < n → f l = 0) : (List.range n).map f = List.replicate n 0 := by
  rw [List.eq_replicate_iff]
  refine ⟨by simp, fun b hb => ?_⟩
  obtain ⟨l, hl, rfl⟩ := List.mem_map.1 hb
  exact hf l (List.mem_range.1 hl)
theorem map_same {n : Nat} {f g : Nat → Int} (hf : ∀ l, l < n → f l = g l) : (List.range n).map f = (List.range n).map g := List.map_congr_left fun l hl => hf l (List.mem_range.1 hl)
theorem rowR_full (hn : h.length < 7) (hi : i = 2 ^ h.length - 1) : rowR h L i = List.replicate h.length 0 := by
  subst hi
  refine zeros_of fun l _ => ?_
  rw [rest_full hn]
  simp
theorem rowD_zero : rowD h L s 0 s = List.replicate h.length 0 := by
  refine zeros_of fun l _ => ?_
  simp
theorem rowD_else (hi : i ≠ s) : rowD h L s k i = rowR h L i := by
  refine map_same fun l _ => ?_
  simp [hi]
theorem rowD_end : rowD h L s h.length i = rowR h L i := by
  refine map_same fun l hl => ?_
  simp [hl]
theorem rowD_skip (hb : s.testBit k = false) : rowD h L s (k + 1) i = rowD h L s k i := by
  refine map_same fun l _ => ?_
  by_cases hi : i = s
  · subst hi
    by_cases hl : l = k
    · subst hl; simp [hb]
    · have : l < k + 1 ↔ l < k := by omega
      simp [this]
  · simp [hi]
theorem rowE_zero : rowE h L s k none i = rowD h L s k i := by
  refine map_same fun l _ => ?_
  by_cases hi : i = s ∧ l = k
  · obtain ⟨rfl, rfl⟩ := hi
    simp
  · rw [if_neg hi]
theorem rowE_else {o : Option Int} (hi : i ≠ s) : rowE h L s k o i = rowR h L i := by
  refine map_same fun l _ => ?_
  simp [hi]
theorem rowE_put {o : Option Int} (v : Int) : (rowE h L s k o s).set k v = rowE h L s k (some v) s := by
  apply List.ext_getElem?
  intro j
  unfold rowE
  by_cases hj : j < h.length
  · rw [List.getElem?_set]
    by_cases hk : k = j
    · subst hk; simp [hj]
    · rw [if_neg hk]
      have : ¬ j = k := fun e => hk e.symm
      simp [hj, this]
  · rw [List.getElem?_eq_none (by simp; omega), List.getElem?_eq_none (by simp; omega)]
theorem rowE_at {o : Option Int} (hk : k < h.length) : (rowE h L s k o s)[k]? = some (o.getD 0) := by simp [rowE, hk]
theorem rowE_end (hn : h.length < 7) (hs : s < 2 ^ h.length) (hb : s.testBit k = true) : rowE h L s k (minK (lossN h L) (rest (lossN h L) h.length) s k h.length) i = rowD h L s (k + 1) i := by
  refine map_same fun l _ => ?_
  by_cases hi : i = s
  · subst hi
    by_cases hl : l = k
    · subst hl
      simp [hb, rest_eq hn l hs]
    · have : l < k + 1 ↔ l < k := by omega
      simp [hl, this]
  · simp [hi]
theorem rowR_at {l : Nat} (hl : l < h.length) (hb : i.testBit l = true) : (rowR h L i)[l]? = some (rest (lossN h L) h.length i l) := by simp [rowR, hl, hb]
theorem rowR_len : (rowR h L i).length = h.length := by simp [rowR]
theorem lossN_bound (hl : lostOk L = true) (a b : Nat) : 0 ≤ lossN h L a b ∧ lossN h L a b ≤ 99 := by
  unfold lossN stepLoss cellAt
  simp only
  cases h1 : L[(kindAt h (a : Int)).toNat]? with
  | none => simp
  | some l =>
    cases h2 : l[(kindAt h (b : Int)).toNat]? with
    | none => simp [h2]
    | some x =>
      simp [h2]
      exact lost_cell hl h1 h2
end
theorem minK_next {c T : Nat → Nat → Int} {s last j : Nat} {o : Option Int} (ho : minK c T s last j = o) (hb : s.testBit j = false) :
    (o = none → minK c T s last (j + 1) = some (c last j + T (s ||| 1 <<< j) j)) ∧ ∀ b, o = some b → minK c T s last (j + 1) = if c last j + T (s ||| 1 <<< j) j < b then some (c last j + T (s ||| 1 <<< j) j) else some b := by
  rw [minK, ho]
  unfold minStep
  rw [if_neg (by rw [hb]; decide)]
  exact ⟨fun h => by rw [h], fun b h => by rw [h]⟩
/-! ### bits -/
theorem bit_andF : ∀ (s : Fin 64) (k : Fin 6), bits BinOp.and IntKind.i64 (((s.val : Nat) : Int) / 2 ^ k.val) 1 = if s.val.testBit k.val then 1 else 0 := by decide +kernel
theorem bit_orF : ∀ (s : Fin 64) (k : Fin 6), bits BinOp.or IntKind.i64 ((s.val : Nat) : Int) (2 ^ k.val) = ((s.val ||| 1 <<< k.val : Nat) : Int) := by decide +kernel
theorem bit_and {s k : Nat} (hs : s < 64) (hk : k < 6) : bits BinOp.and IntKind.i64 ((s : Int) / 2 ^ k) 1 = if s.testBit k then 1 else 0 := bit_andF ⟨s, hs⟩ ⟨k, hk⟩
theorem bit_or {s k : Nat} (hs : s < 64) (hk : k < 6) : bits BinOp.or IntKind.i64 (s : Int) (2 ^ k) = ((s ||| 1 <<< k : Nat) : Int) := bit_orF ⟨s, hs⟩ ⟨k, hk⟩
/-- What is read of two heats and the table of losses. -/
theorem loss_facts {w : World} {B : Nat} {A A1 : Option Addr} {h : List Heat} {L : List (List Int)} {x y : Nat} (hs : Sees w B A (ints (flatH h))) (ht : Tab w B A1 L) (hh : heatsOk h = true) (hl : lostOk L = true) (hx : x < h.length) (hy : y < h.length) :
    ∃ (b off : Nat) (a f : Nat) (b5 off5 b6 off6 rc : Nat), A = some ⟨b, off, none⟩ ∧ w.cell? ⟨b, off + x * 3, none⟩ = some (.int .i64 a) ∧ w.cell? ⟨b, off + y * 3, none⟩ = some (.int .i64 f) ∧ A1 = some ⟨b5, off5, none⟩ ∧ a < 4 ∧ f < 4 ∧
      w.cell? ⟨b5, off5 + a, none⟩ = some (.slice (some ⟨b6, off6, none⟩) 4 rc) ∧ w.cell? ⟨b6, off6 + f, none⟩ = some (.int .i64 (lossN h L x y)) := by
  obtain ⟨b, off, a1, a2, a3, hA, hbB, hl1, ca, cb, cc⟩ := hs.heat_at hx
  obtain ⟨b', off', f1, f2, f3, hA', hbB', hl2, fa, fb, fc⟩ := hs.heat_at hy
  have he := hA.symm.trans hA'
  injection he with he
  injection he with e1 e2
  subst e1; subst e2
  have hab := heat_bounds hh hl1
  have hfb := heat_bounds hh hl2
  simp only at hab hfb
  obtain ⟨an, rfl⟩ : ∃ an : Nat, a1 = an := ⟨a1.toNat, by omega⟩
  obtain ⟨fn, rfl⟩ : ∃ fn : Nat, f1 = fn := ⟨f1.toNat, by omega⟩
  have hL4 := lost_len hl
  obtain ⟨b5, off5, ra, rc, r, hA5, hbB5, hr, r0, hrow, hcap⟩ := ht.row_at (k := an) (by omega)
  have hr4 := (lost_row hl hr).1
  obtain ⟨b6, off6, z, hA6, hbB6, hz, z0⟩ := hrow.int_at (k := fn) (by omega)
  subst hA6
  rw [hr4] at r0
  refine ⟨b, off, an, fn, b5, off5, b6, off6, rc, hA, ca, fa, hA5, by omega, by omega, r0, ?_⟩
  have e : lossN h L x y = z := by unfold lossN stepLoss; rw [kindAt_nat hl1, kindAt_nat hl2]; exact cellAt_nat hr hz
  rw [e]
  exact z0
end Go.Proofs.Ytblfbllhkmcbbaa
