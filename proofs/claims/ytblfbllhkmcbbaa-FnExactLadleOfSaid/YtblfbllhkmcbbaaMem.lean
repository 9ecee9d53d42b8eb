/-
  Words for memory that the walks of this seat share: a block known whole, what a slice shows, how an argument of integers opens. No statement of the seat is proved here.
-/
import Derived.Test.YtblfbllhkmcbbaaPlain
import Derived.WalkKit
import Derived.WalkSpells
import Derived.WalkLawsBesides
import Derived.Below
import Derived.Lib.Hide
import Derived.Laws.OwnMore
import Derived.Laws.MakeOwn
import Derived.Deep.Slices
import Derived.Deep.Fields
import Derived.ChangeArms
import Derived.ProofKit
import Derived.Outline
import Derived.Deep.RegionHeld3
import Derived.Deep.QuietTactic
import Derived.BigQuiet
import Derived.StillTailTactics
import Derived.Deep.DeepCutAuto
namespace Go.Proofs.Ytblfbllhkmcbbaa
open Go.RowKit Go.ChangeShapes Go.WideShapes Go.Deep

/-! ### a block that is known whole -/
/-- Block g holds the cells cs of element type t; no cell of it is frozen. -/
def Blk (w : World) (g : Nat) (t : TypeId) (cs : Array Value) : Prop := w.heap[g]? = some (.cells cs t (0, 0))
section
variable {w w' : World} {g : Nat} {t : TypeId} {cs : Array Value}
theorem Blk.lt (h : Blk w g t cs) : g < w.heap.size := by
  by_cases hlt : g < w.heap.size
  · exact hlt
  · have h' : w.heap[g]? = some (.cells cs t (0, 0)) := h
    rw [Array.getElem?_eq_none (by omega)] at h'
    cases h'
theorem Blk.cell (h : Blk w g t cs) (i : Nat) : w.cell? ⟨g, i, none⟩ = cs[i]? := by
  have h' : w.heap[g]? = some (.cells cs t (0, 0)) := h
  simp [World.cell?, h']
theorem Blk.frozen (h : Blk w g t cs) (i : Nat) : w.frozen? ⟨g, i, none⟩ = false := by
  have h' : w.heap[g]? = some (.cells cs t (0, 0)) := h
  simp [World.frozen?, h']
theorem Blk.made (w : World) (t : TypeId) (cs : Array Value) : Blk (w.alloc (.cells cs t)) w.heap.size t cs := heap_alloc_new w _
theorem Blk.alloc (h : Blk w g t cs) (o : Obj) : Blk (w.alloc o) g t cs := (Below.heap_alloc w o g h.lt).trans h
theorem Blk.put (h : Blk w g t cs) (i : Nat) (u : Value) : Blk (w.setCell ⟨g, i, none⟩ u) g t (cs.setIfInBounds i u) := by
  have h' : w.heap[g]? = some (.cells cs t (0, 0)) := h
  show (w.setCell ⟨g, i, none⟩ u).heap[g]? = _
  simp [World.setCell, Array.getElem?_modify, h']
theorem Blk.other (h : Blk w g t cs) {p : Addr} (hp : g ≠ p.block) (u : Value) : Blk (w.setCell p u) g t cs := (Below.heap_setCell w p u g hp).trans h
theorem Blk.below {B : Nat} (h : Blk w g t cs) (hb : Below B w w') (hg : g < B) : Blk w' g t cs := (hb.block g hg).trans h
theorem Blk.grown {row : Option Nat} (h : Blk w g t cs) (hb : w.grownBy w' row) (hg : some g ≠ row) : Blk w' g t cs := (hb.block g h.lt hg).trans h
end

/-! ### what a slice shows -/
/-- The slice of address A shows the cells xs; they lie in a block below B. An empty slice may have any address. -/
def Sees (w : World) (B : Nat) (A : Option Addr) (xs : List Value) : Prop :=
  xs = [] ∨ ∃ b off, A = some ⟨b, off, none⟩ ∧ b < B ∧ ∀ j u, xs[j]? = some u → w.cell? ⟨b, off + j, none⟩ = some u
def ints (l : List Int) : List Value := l.map (Value.int .i64)
theorem ints_length (l : List Int) : (ints l).length = l.length := by simp [ints]
theorem ints_append (a b : List Int) : ints (a ++ b) = ints a ++ ints b := by simp [ints]
theorem ints_get {l : List Int} {k : Nat} {x : Int} (h : l[k]? = some x) : (ints l)[k]? = some (.int .i64 x) := by simp [ints, h]
theorem one_ints (l : List Int) : ∀ u ∈ ints l, u.oneCell' = true := by
  intro u hu
  obtain ⟨x, _, rfl⟩ := List.mem_map.1 hu
  rfl
section
variable {w w' : World} {B B' : Nat} {A : Option Addr} {xs : List Value}
theorem Sees.keep (h : Sees w B A xs) (hk : ∀ p : Addr, p.block < B → w'.cell? p = w.cell? p) : Sees w' B A xs := by
  rcases h with h | ⟨b, off, hA, hb, hc⟩
  · exact .inl h
  · exact .inr ⟨b, off, hA, hb, fun j u hu => (hk _ hb).trans (hc j u hu)⟩
theorem Sees.below (h : Sees w B A xs) (hb : Below B w w') : Sees w' B A xs := h.keep fun _ hp => hb.cell hp
theorem Sees.more (h : Sees w B A xs) (hB : B ≤ B') : Sees w B' A xs := by
  rcases h with h | ⟨b, off, hA, hb, hc⟩
  · exact .inl h
  · exact .inr ⟨b, off, hA, by omega, hc⟩
/-- The form that a caller hands on: behind a call, seen below the new heap's size. -/
theorem Sees.next (h : Sees w w.heap.size A xs) (hb : Below w.heap.size w w') : Sees w' w'.heap.size A xs := (h.below hb).more hb.size
theorem Sees.at_ {k : Nat} (h : Sees w B A xs) (hk : k < xs.length) : ∃ b off, A = some ⟨b, off, none⟩ ∧ b < B ∧ ∀ j u, xs[j]? = some u → w.cell? ⟨b, off + j, none⟩ = some u := by
  rcases h with rfl | h
  · simp at hk
  · exact h
theorem Sees.int_at {l : List Int} {k : Nat} (h : Sees w B A (ints l)) (hk : k < l.length) : ∃ b off x, A = some ⟨b, off, none⟩ ∧ b < B ∧ l[k]? = some x ∧ w.cell? ⟨b, off + k, none⟩ = some (.int .i64 x) := by
  obtain ⟨b, off, hA, hb, hc⟩ := h.at_ (k := k) (by rw [ints_length]; exact hk)
  have hx := List.getElem?_eq_getElem hk
  exact ⟨b, off, _, hA, hb, hx, hc k _ (ints_get hx)⟩
theorem Sees.stuff_at {l : List Stuff} {k : Nat} (h : Sees w B A (ints (flatS l))) (hk : k < l.length) : ∃ b off a1 a2 a3 a4 a5, A = some ⟨b, off, none⟩ ∧ b < B ∧ l[k]? = some ⟨a1, a2, a3, a4, a5⟩ ∧
    w.cell? ⟨b, off + k * 5, none⟩ = some (.int .i64 a1) ∧ w.cell? ⟨b, off + k * 5 + 1, none⟩ = some (.int .i64 a2) ∧ w.cell? ⟨b, off + k * 5 + 2, none⟩ = some (.int .i64 a3) ∧ w.cell? ⟨b, off + k * 5 + 3, none⟩ = some (.int .i64 a4) ∧ w.cell? ⟨b, off + k * 5 + 4, none⟩ = some (.int .i64 a5) := by
  obtain ⟨b, off, hA, hb, hc⟩ := h.at_ (k := k) (by rw [ints_length, flatS_length]; omega)
  have hx := List.getElem?_eq_getElem hk
  obtain ⟨h0, h1, h2, h3, h4⟩ := flatS_at hx
  exact ⟨b, off, _, _, _, _, _, hA, hb, hx, hc _ _ (ints_get h0), hc _ _ (ints_get h1), hc _ _ (ints_get h2), hc _ _ (ints_get h3), hc _ _ (ints_get h4)⟩
theorem Sees.heat_at {l : List Heat} {k : Nat} (h : Sees w B A (ints (flatH l))) (hk : k < l.length) : ∃ b off a1 a2 a3, A = some ⟨b, off, none⟩ ∧ b < B ∧ l[k]? = some ⟨a1, a2, a3⟩ ∧
    w.cell? ⟨b, off + k * 3, none⟩ = some (.int .i64 a1) ∧ w.cell? ⟨b, off + k * 3 + 1, none⟩ = some (.int .i64 a2) ∧ w.cell? ⟨b, off + k * 3 + 2, none⟩ = some (.int .i64 a3) := by
  obtain ⟨b, off, hA, hb, hc⟩ := h.at_ (k := k) (by rw [ints_length, flatH_length]; omega)
  have hx := List.getElem?_eq_getElem hk
  obtain ⟨h0, h1, h2⟩ := flatH_at hx
  exact ⟨b, off, _, _, _, hA, hb, hx, hc _ _ (ints_get h0), hc _ _ (ints_get h1), hc _ _ (ints_get h2)⟩
theorem Sees.nil_ : Sees w B A [] := .inl rfl
theorem Sees.of_own {base size n c : Nat} {e : TypeId} (h : w.ownsRow base e size (.slice A n c) n xs) : Sees w w.heap.size A xs := by
  obtain ⟨hl, h⟩ := h
  rcases h with ⟨_, rfl⟩ | ⟨g, cap, cur, hv, hg, hh, hn, hm, hs, hx⟩
  · left; exact List.eq_nil_of_length_eq_zero (by omega)
  · right
    injection hv with hA
    refine ⟨g, 0, hA, Blk.lt (t := e) hh, fun j u hu => ?_⟩
    have hj : j < n * size := by
      have := (List.getElem?_eq_some_iff.1 hu).1
      omega
    rw [Nat.zero_add, Blk.cell (t := e) hh j, ← hu, ← hx]
    simp [hj]
/-- A cut at the front. -/
theorem Sees.drop {b off k : Nat} (h : Sees w B (some ⟨b, off, none⟩) xs) : Sees w B (some ⟨b, off + k, none⟩) (xs.drop k) := by
  rcases h with rfl | ⟨b', off', hA, hb, hc⟩
  · left; simp
  · injection hA with hA
    injection hA with h1 h2
    subst h1; subst h2
    exact .inr ⟨_, _, rfl, hb, fun j u hu => by rw [Nat.add_assoc]; exact hc _ u (by rw [← hu, List.getElem?_drop])⟩
theorem Sees.take {k : Nat} (h : Sees w B A xs) : Sees w B A (xs.take k) := by
  rcases h with rfl | ⟨b, off, hA, hb, hc⟩
  · left; simp
  · refine .inr ⟨b, off, hA, hb, fun j u hu => hc j u ?_⟩
    rw [List.getElem?_take] at hu
    split at hu
    · exact hu
    · cases hu
end

/-! ### an owned row, out of a block known whole -/
theorem own_of_blk {w : World} {g : Nat} {t : TypeId} {cs : Array Value} {base size n : Nat} {xs : List Value} (h : Blk w g t cs) (hb : base ≤ g) (hn : n ≤ 1000000000) (hs : cs.size = n * size) (hx : cs.toList = xs) :
    w.ownsRow base t size (.slice (some ⟨g, 0, none⟩) n n) n xs := by
  refine ⟨by rw [← hx, Array.length_toList, hs], .inr ⟨g, n, cs, rfl, hb, h, Nat.le_refl _, ?_, hs, ?_⟩⟩
  · simp only [maxLen]; omega
  · rw [hx, List.take_of_length_le]
    rw [← hx, Array.length_toList, hs]
    exact Nat.le_refl _
theorem own_kept {w w' : World} {base size n B : Nat} {e : TypeId} {v : Value} {xs : List Value} (h : w.ownsRow base e size v n xs) (hb : Below B w w') (hB : w.heap.size ≤ B) : w'.ownsRow base e size v n xs := by
  obtain ⟨hl, h⟩ := h
  refine ⟨hl, ?_⟩
  rcases h with h | ⟨g, cap, cur, hv, hg, hh, hr⟩
  · exact .inl h
  · exact .inr ⟨g, cap, cur, hv, hg, Blk.below (t := e) hh hb (Nat.lt_of_lt_of_le (Blk.lt (t := e) hh) hB), hr⟩
theorem own_base {w : World} {base base' size n : Nat} {e : TypeId} {v : Value} {xs : List Value} (h : w.ownsRow base e size v n xs) (hB : base' ≤ base) : w.ownsRow base' e size v n xs := by
  obtain ⟨hl, h⟩ := h
  refine ⟨hl, ?_⟩
  rcases h with h | ⟨g, cap, cur, hv, hg, hr⟩
  · exact .inl h
  · exact .inr ⟨g, cap, cur, hv, Nat.le_trans hB hg, hr⟩

theorem cell_is {w : World} {g i : Nat} {t : TypeId} {cs : Array Value} (h : Blk w g t cs) (hi : i < cs.size) : ∃ v, w.cell? ⟨g, i, none⟩ = some v := ⟨cs[i], by rw [h.cell, Array.getElem?_eq_getElem hi]⟩
/-- One more element of one, three, five cells is stored. -/
theorem put1 {cs : Array Value} {L : List Value} {k n : Nat} {v0 : Value} (hs : cs.size = n) (hk : k < n) (h : ∀ j, j < k → cs[j]? = L[j]?) (h0 : L[k]? = some v0) :
    (cs.setIfInBounds k v0).size = n ∧ ∀ j, j < k + 1 → (cs.setIfInBounds k v0)[j]? = L[j]? := by
  refine ⟨by simp [hs], fun j hj => ?_⟩
  simp only [Array.getElem?_setIfInBounds, hs]
  by_cases e0 : k = j
  · subst e0; simp [hk, h0]
  · simp only [e0, if_false]; exact h j (by omega)
theorem put3 {cs : Array Value} {L : List Value} {k n : Nat} {v0 v1 v2 : Value} (hs : cs.size = n * 3) (hk : k < n) (h : ∀ j, j < k * 3 → cs[j]? = L[j]?)
    (h0 : L[k * 3]? = some v0) (h1 : L[k * 3 + 1]? = some v1) (h2 : L[k * 3 + 2]? = some v2) :
    (((cs.setIfInBounds (k * 3) v0).setIfInBounds (k * 3 + 1) v1).setIfInBounds (k * 3 + 2) v2).size = n * 3 ∧
      ∀ j, j < (k + 1) * 3 → (((cs.setIfInBounds (k * 3) v0).setIfInBounds (k * 3 + 1) v1).setIfInBounds (k * 3 + 2) v2)[j]? = L[j]? := by
  refine ⟨by simp [hs], fun j hj => ?_⟩
  simp only [Array.getElem?_setIfInBounds, Array.size_setIfInBounds, hs]
  by_cases e2 : k * 3 + 2 = j
  · subst e2; rw [if_pos rfl, if_pos (by omega), h2]
  rw [if_neg e2]
  by_cases e1 : k * 3 + 1 = j
  · subst e1; rw [if_pos rfl, if_pos (by omega), h1]
  rw [if_neg e1]
  by_cases e0 : k * 3 = j
  · subst e0; rw [if_pos rfl, if_pos (by omega), h0]
  rw [if_neg e0]
  exact h j (by omega)
theorem put5 {cs : Array Value} {L : List Value} {k n : Nat} {v0 v1 v2 v3 v4 : Value} (hs : cs.size = n * 5) (hk : k < n) (h : ∀ j, j < k * 5 → cs[j]? = L[j]?)
    (h0 : L[k * 5]? = some v0) (h1 : L[k * 5 + 1]? = some v1) (h2 : L[k * 5 + 2]? = some v2) (h3 : L[k * 5 + 3]? = some v3) (h4 : L[k * 5 + 4]? = some v4) :
    (((((cs.setIfInBounds (k * 5) v0).setIfInBounds (k * 5 + 1) v1).setIfInBounds (k * 5 + 2) v2).setIfInBounds (k * 5 + 3) v3).setIfInBounds (k * 5 + 4) v4).size = n * 5 ∧
      ∀ j, j < (k + 1) * 5 → (((((cs.setIfInBounds (k * 5) v0).setIfInBounds (k * 5 + 1) v1).setIfInBounds (k * 5 + 2) v2).setIfInBounds (k * 5 + 3) v3).setIfInBounds (k * 5 + 4) v4)[j]? = L[j]? := by
  refine ⟨by simp [hs], fun j hj => ?_⟩
  simp only [Array.getElem?_setIfInBounds, Array.size_setIfInBounds, hs]
  by_cases e4 : k * 5 + 4 = j
  · subst e4; rw [if_pos rfl, if_pos (by omega), h4]
  rw [if_neg e4]
  by_cases e3 : k * 5 + 3 = j
  · subst e3; rw [if_pos rfl, if_pos (by omega), h3]
  rw [if_neg e3]
  by_cases e2 : k * 5 + 2 = j
  · subst e2; rw [if_pos rfl, if_pos (by omega), h2]
  rw [if_neg e2]
  by_cases e1 : k * 5 + 1 = j
  · subst e1; rw [if_pos rfl, if_pos (by omega), h1]
  rw [if_neg e1]
  by_cases e0 : k * 5 = j
  · subst e0; rw [if_pos rfl, if_pos (by omega), h0]
  rw [if_neg e0]
  exact h j (by omega)
theorem list_of_all {cs : Array Value} {L : List Value} {n : Nat} (hs : cs.size = n) (hl : L.length = n) (h : ∀ j, j < n → cs[j]? = L[j]?) : cs.toList = L := by
  apply List.ext_getElem?
  intro j
  by_cases hj : j < n
  · rw [Array.getElem?_toList]; exact h j hj
  · rw [List.getElem?_eq_none (by simp; omega), List.getElem?_eq_none (by omega)]

/-- What a call hands back: a slice of n elements in memory of its own, which shows xs; nothing that was there has turned. -/
def RetOwn (w : World) (t : TypeId) (size n : Nat) (xs : List Value) (e : Ending) (w' : World) : Prop :=
  ∃ A c, e = .returned (.slice A n c) ∧ w'.ownsRow w.heap.size t size (.slice A n c) n xs ∧ Below w.heap.size w w'

/-! ### small ends -/
theorem wrap_w64 (n : Int) : wrap64 n = w64 n := by
  unfold wrap64 w64
  rfl
theorem int_w64 {n : Int} : Value.int .i64 (wrap64 n) = .int .i64 (w64 n) := by rw [wrap_w64]
theorem ret_int {k : IntKind} {a b : Int} (h : a = b) : Ending.returned (.int k a) = .returned (.int k b) := by rw [h]
theorem ret_bool {a b : Bool} (h : a = b) : Ending.returned (.bool a) = .returned (.bool b) := by rw [h]
theorem below_drewN {B : Nat} {a w : World} (h : Below B a w) (n : Nat) : Below B a (w.drewN n) := ⟨h.os, h.tape, h.output, h.size, h.block⟩
/-- One call behind another. -/
theorem below_next {w w1 w2 : World} (h : Below w.heap.size w w1) (k : Below w1.heap.size w1 w2) : Below w.heap.size w w2 := h.trans (k.mono h.size)
theorem below_cells {W w1 : World} (hb : Below W.heap.size W w1) : (∀ b o, b < W.heap.size → w1.cell? ⟨b, o, none⟩ = W.cell? ⟨b, o, none⟩) ∧ (∀ b o, b < W.heap.size → w1.frozen? ⟨b, o, none⟩ = W.frozen? ⟨b, o, none⟩) :=
  ⟨fun b o h => hb.cell (p := ⟨b, o, none⟩) h, fun b o h => hb.frozen (p := ⟨b, o, none⟩) h⟩

/-- Behind a call: old cells and marks read as before, old blocks are there. -/
theorem below_all {W w1 : World} (hb : Below W.heap.size W w1) : (∀ b o, b < W.heap.size → w1.cell? ⟨b, o, none⟩ = W.cell? ⟨b, o, none⟩) ∧ (∀ b o, b < W.heap.size → w1.frozen? ⟨b, o, none⟩ = W.frozen? ⟨b, o, none⟩) ∧ (∀ b, b < W.heap.size → b < w1.heap.size) :=
  ⟨(below_cells hb).1, (below_cells hb).2, fun _ h => Nat.lt_of_lt_of_le h hb.size⟩
/-- What a region that draws its order holds on to: all that was there is as it was. -/
theorem held_of {W w : World} (h : Below W.heap.size W w) : Below W.heap.size W w ∧ (∀ b o, b < W.heap.size → w.cell? ⟨b, o, none⟩ = W.cell? ⟨b, o, none⟩) := ⟨h, (below_cells h).1⟩

theorem held_call {W w w' : World} {R : Prop} (h : Below W.heap.size W w ∧ R) (k : Below w.heap.size w w') : Below W.heap.size W w' ∧ (∀ b o, b < W.heap.size → w'.cell? ⟨b, o, none⟩ = W.cell? ⟨b, o, none⟩) := held_of (below_next h.1 k)
theorem held_alloc {W w : World} {R : Prop} (h : Below W.heap.size W w ∧ R) (x : Obj) : Below W.heap.size W (w.alloc x) ∧ (∀ b o, b < W.heap.size → (w.alloc x).cell? ⟨b, o, none⟩ = W.cell? ⟨b, o, none⟩) := held_of (h.1.alloc h.1.size _)
theorem held_put {W w : World} {R : Prop} {p : Addr} (h : Below W.heap.size W w ∧ R) (hp : W.heap.size ≤ p.block) (v : Value) : Below W.heap.size W (w.setCell p v) ∧ (∀ b o, b < W.heap.size → (w.setCell p v).cell? ⟨b, o, none⟩ = W.cell? ⟨b, o, none⟩) := held_of (h.1.setCell hp _)
/-- The block that was laid last is laid otherwise. -/
theorem held_again {W w : World} {x : Obj} {R : Prop} (h : Below W.heap.size W (w.alloc x) ∧ R) (hz : W.heap.size ≤ w.heap.size) (y : Obj) : Below W.heap.size W (w.alloc y) ∧ (∀ b o, b < W.heap.size → (w.alloc y).cell? ⟨b, o, none⟩ = W.cell? ⟨b, o, none⟩) := by
  have hb : Below W.heap.size W w := ⟨h.1.os, h.1.tape, h.1.output, hz, fun g hg => by rw [← h.1.block g hg]; exact (Below.heap_alloc w x g (by omega)).symm⟩
  exact held_alloc ⟨hb, trivial⟩ y
theorem held_size {W w w' : World} {R : Prop} (h : Below W.heap.size W w ∧ R) (k : Below w.heap.size w w') : W.heap.size ≤ w'.heap.size := Nat.le_trans h.1.size k.size
/-- One struct laid in a box of its own; two. -/
theorem boxed1 (w : World) (x : Array Value) (t : TypeId) : Below w.heap.size w (w.alloc (.cells x t)) ∧ w.heap.size < (w.alloc (.cells x t)).heap.size ∧ (∀ i, (w.alloc (.cells x t)).cell? ⟨w.heap.size, i, none⟩ = x[i]?) :=
  ⟨(Below.refl _ _).alloc (Nat.le_refl _) _, by simp, fun i => (Blk.made w t x).cell i⟩
theorem boxed2 (w : World) (x y : Array Value) (t u : TypeId) : Below w.heap.size w ((w.alloc (.cells x t)).alloc (.cells y u)) ∧ w.heap.size < ((w.alloc (.cells x t)).alloc (.cells y u)).heap.size ∧ w.heap.size + 1 < ((w.alloc (.cells x t)).alloc (.cells y u)).heap.size ∧
    (∀ i, ((w.alloc (.cells x t)).alloc (.cells y u)).cell? ⟨w.heap.size, i, none⟩ = x[i]?) ∧ (∀ i, ((w.alloc (.cells x t)).alloc (.cells y u)).cell? ⟨w.heap.size + 1, i, none⟩ = y[i]?) :=
  ⟨((Below.refl _ _).alloc (Nat.le_refl _) _).alloc (by simp) _, by simp; omega, by simp, fun i => ((Blk.made w t x).alloc _).cell i, fun i => by simp⟩

/-! ### Go's max and min, under one name each -/
theorem run_maxI {P : Program} {w : World} (ts : Array TypeId) (t : TypeId) (k k' : IntKind) (x y : Int) : (Builtin.max_ ts t #[.int k x, .int k' y]).run P w = .ok (.int k (maxI x y)) w := run_max_int2 ..
theorem run_minI {P : Program} {w : World} (ts : Array TypeId) (t : TypeId) (k k' : IntKind) (x y : Int) : (Builtin.min_ ts t #[.int k x, .int k' y]).run P w = .ok (.int k (minI x y)) w := run_min_int2 ..

/-! ### how arguments open -/
def fits (n : Int) : Prop := -9223372036854775808 ≤ n ∧ n ≤ 9223372036854775807
theorem fits_of_wf {n : Int} (h : (Lit.int .i64 n).wf = true) : fits n := by
  simpa [fits, Lit.wf, IntKind.min, IntKind.max, IntKind.signed, IntKind.bits] using h
/-- All fields are integers of type q. -/
def intFields (q : TypeId) (fs : Array Field) : Bool := fs.toList.all fun f => f.type == q
section
variable {H : Type} {enc : TypeId × Value → H} {P : Program} {w : World} {base : Nat} {spare : Nat → Bool} {held : Bool}
theorem open_cells {t q : TypeId} {fs : Array Field} {fuel : Nat} {cs : List Value} {x : DataW H × List MemPlace} (ht : P.underlying t = some (.struct fs)) (hq : P.underlying q = some (.int .i64))
    (hone : oneCellFields P fs = true) (hint : intFields q fs = true) (hC : P.cellsOf t = fs.size) (h : DataW.trod enc P w base spare held fuel t cs = some x) :
    ∃ zs : List Int, cs = ints zs ∧ zs.length = fs.size ∧ ∀ z ∈ zs, fits z := by
  obtain ⟨xs, n, _, _, hl, hxl, hf⟩ := DataW.trod_struct ht h
  rw [hC] at hl
  have each : ∀ (j : Nat), j < fs.size → ∃ z, cs[j]? = some (.int .i64 z) ∧ fits z := by
    intro j hj
    have hfj : fs[j]? = some fs[j] := Array.getElem?_eq_getElem hj
    obtain ⟨ho, hk⟩ := hone_of hone j _ hfj
    have h1 := hf j _ hfj
    have hty : fs[j].type = q := by
      have := List.all_eq_true.1 hint fs[j] (Array.getElem_mem_toList hj)
      simpa using this
    rw [ho, hk, hty] at h1
    have hx1 : xs[j]? = some xs[j] := List.getElem?_eq_getElem (by omega)
    rw [hx1] at h1
    obtain ⟨z, hz, _, hw⟩ := DataW.trod_int hq h1
    refine ⟨z, ?_, fits_of_wf hw⟩
    have : ((cs.drop j).take 1)[0]? = some (.int .i64 z) := by rw [hz]; rfl
    simpa [List.getElem?_take, List.getElem?_drop] using this
  have all : ∀ (cs : List Value) , (∀ j, j < cs.length → ∃ z, cs[j]? = some (.int .i64 z) ∧ fits z) → ∃ zs : List Int, cs = ints zs ∧ ∀ z ∈ zs, fits z := by
    intro cs
    induction cs with
    | nil => exact fun _ => ⟨[], rfl, by simp⟩
    | cons c cs ih =>
      intro h
      obtain ⟨z, hz, hw⟩ := h 0 (by simp)
      obtain ⟨zs, hzs, hws⟩ := ih fun j hj => by simpa using h (j + 1) (by simpa using hj)
      refine ⟨z :: zs, ?_, ?_⟩
      · simp at hz
        rw [hz, hzs]; rfl
      · intro y hy
        rcases List.mem_cons.1 hy with rfl | hy
        · exact hw
        · exact hws y hy
  obtain ⟨zs, hzs, hws⟩ := all cs (fun j hj => each j (by omega))
  exact ⟨zs, hzs, by rw [← hl, hzs, ints_length], hws⟩
/-- A struct of integers by value. -/
theorem open_struct {r : Reach} {b0 : Nat} {t q : TypeId} {fs : Array Field} {v : Value} {d : DataW H} {p : List MemPlace} (ht : P.underlying t = some (.struct fs)) (hq : P.underlying q = some (.int .i64))
    (hone : oneCellFields P fs = true) (hint : intFields q fs = true) (hC : P.cellsOf t = fs.size) (hv : Value.okWide P w r b0 t v) (h : DataW.Trod enc P w base spare held t v d p) :
    ∃ zs : List Int, v = .agg (ints zs).toArray ∧ zs.length = fs.size ∧ ∀ z ∈ zs, fits z := by
  obtain ⟨cs, rfl, hsz⟩ := okWide_struct ht hv
  obtain ⟨fuel, hf⟩ := h
  obtain ⟨zs, hzs, hl, hw⟩ := open_cells ht hq hone hint hC hf
  refine ⟨zs, ?_, hl, hw⟩
  rw [← hzs]
  simp [Value.cells]
theorem seen_of_cells {a : Addr} {xs : List Value} (h : ∀ j u, xs[j]? = some u → w.cell? (a.add j) = some u) (hlt : ∀ u, w.cell? a = some u → a.block < w.heap.size) : Sees w w.heap.size (some a) xs := by
  rcases xs with _ | ⟨x0, xs⟩
  · exact .inl rfl
  · right
    obtain ⟨b, off, spot⟩ := a
    have h0 := h 0 x0 rfl
    have hspot : spot = none := by simpa [Addr.add] using World.cell?_spot h0
    subst hspot
    refine ⟨b, off, rfl, hlt x0 (by simpa [Addr.add] using h0), fun j u hu => ?_⟩
    have := h j u hu
    by_cases hj : j = 0
    · subst hj; simpa [Addr.add] using this
    · simpa [Addr.add, hj] using this
theorem cell_lt {a : Addr} {u : Value} (h : w.cell? a = some u) : a.block < w.heap.size := by
  by_cases hlt : a.block < w.heap.size
  · exact hlt
  · have hn : w.heap[a.block]? = none := Array.getElem?_eq_none (by omega)
    simp [World.cell?, hn] at h
/-- A slice of structs of integers. -/
theorem open_structs {t e q : TypeId} {fs : Array Field} {A : Option Addr} {n c : Nat} {d : DataW H} {p : List MemPlace} (hs : P.underlying t = some (.slice e)) (ht : P.underlying e = some (.struct fs)) (hq : P.underlying q = some (.int .i64))
    (hone : oneCellFields P fs = true) (hint : intFields q fs = true) (hC : P.cellsOf e = fs.size) (h : DataW.Trod enc P w base (fun _ => true) held t (.slice A n c) d p) :
    ∃ zs : List Int, Sees w w.heap.size A (ints zs) ∧ zs.length = n * fs.size ∧ (∀ z ∈ zs, fits z) ∧ n ≤ c ∧ c ≤ maxLen := by
  obtain ⟨fuel, hf⟩ := h
  rcases open_slice hs hf with ⟨hcs, _⟩ | ⟨a, len, cap, m, n', D, Pl, hcs, hb, hl, hm, hmm, hx, hi⟩
  · simp [Value.cells] at hcs
    obtain ⟨rfl, rfl, rfl⟩ := hcs
    exact ⟨[], .inl rfl, by simp, by simp, Nat.le_refl _, Nat.zero_le _⟩
  · simp [Value.cells] at hcs
    obtain ⟨rfl, rfl, rfl⟩ := hcs
    simp only [if_true] at hmm
    subst hmm
    have rows : ∀ k, k ≤ n → ∃ zs : List Int, zs.length = k * fs.size ∧ (∀ z ∈ zs, fits z) ∧ ∀ j u, (ints zs)[j]? = some u → w.cell? (a.add j) = some u := by
      intro k
      induction k with
      | zero => exact fun _ => ⟨[], by simp, by simp, by simp [ints]⟩
      | succ k ih =>
        intro hk
        obtain ⟨zs, hzl, hzf, hzc⟩ := ih (by omega)
        obtain ⟨cs', hc, ht'⟩ := hi k (by omega)
        obtain ⟨ys, hys, hyl, hyf⟩ := open_cells ht hq hone hint hC ht'
        obtain ⟨_, hcl, hat⟩ := World.cells?_some hc
        refine ⟨zs ++ ys, by rw [List.length_append, hzl, hyl, Nat.succ_mul], ?_, ?_⟩
        · intro z hz
          rcases List.mem_append.1 hz with hz | hz
          · exact hzf z hz
          · exact hyf z hz
        · intro j u hu
          rw [ints_append, List.getElem?_append] at hu
          split at hu
          · exact hzc j u hu
          · rename_i hge
            rw [ints_length, hzl] at hge hu
            have hj2 : j - k * fs.size < fs.size := by
              have := (List.getElem?_eq_some_iff.1 hu).1
              rw [ints_length, hyl] at this
              exact this
            have := hat (j - k * fs.size) (by rw [hC]; exact hj2)
            rw [hys, hu, hC] at this
            rw [Go.Deep.add_add] at this
            rw [show k * fs.size + (j - k * fs.size) = j from by omega] at this
            exact this
    obtain ⟨zs, hzl, hzf, hzc⟩ := rows n (Nat.le_refl _)
    exact ⟨zs, seen_of_cells hzc (fun u hu => cell_lt hu), hzl, hzf, hl, hm⟩
/-- A slice of integers. -/
theorem open_introw {t q : TypeId} {A : Option Addr} {n c : Nat} {d : DataW H} {p : List MemPlace} (hs : P.underlying t = some (.slice q)) (hq : P.underlying q = some (.int .i64))
    (hC : P.cellsOf q = 1) (h : DataW.Trod enc P w base (fun _ => true) held t (.slice A n c) d p) :
    ∃ zs : List Int, Sees w w.heap.size A (ints zs) ∧ zs.length = n ∧ (∀ z ∈ zs, fits z) ∧ n ≤ c ∧ c ≤ maxLen := by
  obtain ⟨fuel, hf⟩ := h
  rcases open_ints hs hq hC hf with ⟨hcs, _⟩ | ⟨a, l, c', zs, hcs, _, hl, hm, hz, _, hcell, hwz⟩
  · simp [Value.cells] at hcs
    obtain ⟨rfl, rfl, rfl⟩ := hcs
    exact ⟨[], .inl rfl, by simp, by simp, Nat.le_refl _, Nat.zero_le _⟩
  · simp [Value.cells] at hcs
    obtain ⟨rfl, rfl, rfl⟩ := hcs
    have hz' : zs.length = c := by simpa using hz
    refine ⟨zs.take n, seen_of_cells (fun j u hu => ?_) (fun u hu => cell_lt hu), by simp; omega, fun z h => fits_of_wf (hwz z (List.mem_of_mem_take h)), hl, hm⟩
    have hj : j < n := by
      have := (List.getElem?_eq_some_iff.1 hu).1
      rw [ints_length, List.length_take] at this
      omega
    have hc := hcell j (by omega)
    rw [hc, ← hu]
    have hzj : zs[j]? = some zs[j] := List.getElem?_eq_getElem (by omega)
    simp [ints, hj, hzj]
end
end Go.Proofs.Ytblfbllhkmcbbaa
