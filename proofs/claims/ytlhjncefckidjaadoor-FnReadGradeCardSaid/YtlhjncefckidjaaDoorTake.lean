/-
  Contracts of MixTake in the program and in the reference.
-/
import Derived.Test.YtlhjncefckidjaaDoorMx
import Derived.Test.YtlhjncefckidjaaDoorApp
namespace Go.Proofs.YtlhjncefckidjaaDoor
open Go.RowKit
set_option linter.unusedVariables false
/-- What a call hands back: a slice in memory of its own and a bool. -/
def RetOwn2 (w : World) (t : TypeId) (size n : Nat) (xs : List Value) (b : Bool) (e : Ending) (w' : World) : Prop :=
  ∃ A c, e = .returned (.tuple #[.slice A n c, .bool b]) ∧ Own w' w.heap.size w'.heap.size t size A n c xs ∧ Below w.heap.size w w'
theorem own_nil (w : World) (lo hi : Nat) (t : TypeId) (size : Nat) : Own w lo hi t size none 0 0 [] := ⟨World.ownsRow_nil _ _ _ _, fun g hg => by simp [Value.ownBlock] at hg⟩
theorem own_lo {w : World} {lo lo' hi : Nat} {t : TypeId} {size n c : Nat} {A : Option Addr} {xs : List Value} (h : Own w lo hi t size A n c xs) (hl : lo' ≤ lo) : Own w lo' hi t size A n c xs := ⟨own_base h.1 hl, h.2⟩
theorem own_hi {w : World} {lo hi hi' : Nat} {t : TypeId} {size n c : Nat} {A : Option Addr} {xs : List Value} (h : Own w lo hi t size A n c xs) (hl : hi ≤ hi') : Own w lo hi' t size A n c xs := ⟨h.1, fun g hg => Nat.lt_of_lt_of_le (h.2 g hg) hl⟩
/-- The cells of stuff after stuff. -/
def Row5 (cs : Array Value) (L : List Stuff) : Prop := ∀ (i : Nat) (s : Stuff), L[i]? = some s → cs[i * 5]? = some (.int .i64 s.c) ∧ cs[i * 5 + 1]? = some (.int .i64 s.m) ∧ cs[i * 5 + 2]? = some (.int .i64 s.s) ∧ cs[i * 5 + 3]? = some (.int .i64 s.p) ∧ cs[i * 5 + 4]? = some (.int .i64 s.k)
theorem Row5.of_take {cs : Array Value} {L : List Stuff} (h : cs.toList.take (L.length * 5) = ints (flatS L)) : Row5 cs L := by
  intro i s hs
  have hi : i < L.length := (List.getElem?_eq_some_iff.1 hs).1
  have at_ : ∀ j, j < L.length * 5 → cs[j]? = (ints (flatS L))[j]? := by
    intro j hj
    rw [← h, List.getElem?_take, if_pos hj, Array.getElem?_toList]
  obtain ⟨h0, h1, h2, h3, h4⟩ := flatS_at hs
  refine ⟨?_, ?_, ?_, ?_, ?_⟩
  · rw [at_ _ (by omega)]; exact ints_get h0
  · rw [at_ _ (by omega)]; exact ints_get h1
  · rw [at_ _ (by omega)]; exact ints_get h2
  · rw [at_ _ (by omega)]; exact ints_get h3
  · rw [at_ _ (by omega)]; exact ints_get h4
theorem Row5.take {cs : Array Value} {L : List Stuff} (h : Row5 cs L) (hs : L.length * 5 ≤ cs.size) : cs.toList.take (L.length * 5) = ints (flatS L) := by
  refine take_of_all hs (by rw [ints_length, flatS_length]) fun j hj => ?_
  obtain ⟨q, r, hr, rfl⟩ : ∃ q r, r < 5 ∧ j = q * 5 + r := ⟨j / 5, j % 5, Nat.mod_lt _ (by omega), by omega⟩
  have hq : q < L.length := by omega
  have hL := List.getElem?_eq_getElem hq
  obtain ⟨h0, h1, h2, h3, h4⟩ := h q _ hL
  obtain ⟨g0, g1, g2, g3, g4⟩ := flatS_at hL
  rcases r with _ | _ | _ | _ | _ | r
  · rw [Nat.add_zero, h0, ints_get g0]
  · rw [h1, ints_get g1]
  · rw [h2, ints_get g2]
  · rw [h3, ints_get g3]
  · rw [h4, ints_get g4]
  · omega
theorem Row5.put {cs : Array Value} {L : List Stuff} {k : Nat} {s : Stuff} (v : Int) (h : Row5 cs L) (hs : L.length * 5 ≤ cs.size) (hk : L[k]? = some s) : Row5 (cs.setIfInBounds (k * 5 + 4) (.int .i64 v)) (L.set k ⟨s.c, s.m, s.s, s.p, v⟩) := by
  intro i s' hs'
  have hkl : k < L.length := (List.getElem?_eq_some_iff.1 hk).1
  rw [List.getElem?_set] at hs'
  simp only [Array.getElem?_setIfInBounds]
  by_cases e : k = i
  · subst e
    rw [if_pos rfl, if_pos hkl] at hs'
    injection hs' with hs'
    subst hs'
    obtain ⟨h0, h1, h2, h3, h4⟩ := h k s hk
    rw [if_neg (by omega), if_neg (by omega), if_neg (by omega), if_neg (by omega), if_pos rfl, if_pos (by omega)]
    exact ⟨h0, h1, h2, h3, rfl⟩
  · rw [if_neg e] at hs'
    rw [if_neg (by omega), if_neg (by omega), if_neg (by omega), if_neg (by omega), if_neg (by omega)]
    exact h i s' hs'
theorem own_made (w : World) (t : TypeId) (size : Nat) : Own (w.alloc (.cells #[] t)) w.heap.size (w.heap.size + 1) t size (some ⟨w.heap.size, 0, none⟩) 0 0 [] :=
  Own.mk_ (Nat.le_refl _) (by omega) (Nat.le_refl _) (Nat.zero_le _) (Blk.made _ _ _) (by simp) (by simp)
theorem midS_length (l : List Stuff) (x : List Int) (k : Nat) (h : x.length = l.length) (hk : k ≤ l.length) : (midS l x k).length = l.length := by
  simp [midS, h]; omega
theorem takenS_le (l : List Stuff) (x : List Int) (h : l.length ≤ 1048576) : (takenS l x).length ≤ 1048576 := by
  unfold takenS; split
  · simp; omega
  · simp
end Go.Proofs.YtlhjncefckidjaaDoor
