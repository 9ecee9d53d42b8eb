/-
  Tables: slices of slices of integers. How they open as arguments, the laws' helpers on them, LostValid in the program and in the reference.
-/
import Derived.Test.YtblfbllhkmcbbaaHt
import Derived.Test.YtblfbllhkmcbbaaOwn
import Derived.Test.YtblfbllhkmcbbaaPc
namespace Go.Proofs.Ytblfbllhkmcbbaa
open Go.RowKit Go.ChangeShapes Go.WideShapes Go.Deep
set_option linter.unusedVariables false
/-! ### what a table shows -/
/-- The heads of rows: address, length, capacity. -/
def heads (hd : List (Option Addr × Nat)) (L : List (List Int)) : List Value := (hd.zip L).map fun p => .slice p.1.1 p.2.length p.1.2
theorem heads_at {hd : List (Option Addr × Nat)} {L : List (List Int)} {k : Nat} {a : Option Addr} {c : Nat} {l : List Int} (h1 : hd[k]? = some (a, c)) (h2 : L[k]? = some l) : (heads hd L)[k]? = some (.slice a l.length c) := by
  unfold heads
  rw [List.getElem?_map, zip_at h1 h2]
  rfl
theorem heads_length {hd : List (Option Addr × Nat)} {L : List (List Int)} (h : hd.length = L.length) : (heads hd L).length = L.length := by simp [heads, h]
def Tab (w : World) (B : Nat) (A : Option Addr) (L : List (List Int)) : Prop :=
  ∃ hd : List (Option Addr × Nat), hd.length = L.length ∧ Sees w B A (heads hd L) ∧ ∀ (i : Nat) (a : Option Addr) (c : Nat) (l : List Int), hd[i]? = some (a, c) → L[i]? = some l → Sees w B a (ints l) ∧ l.length ≤ c
section
variable {w w' : World} {B B' : Nat} {A : Option Addr} {L : List (List Int)}
theorem Tab.below (h : Tab w B A L) (hb : Below B w w') : Tab w' B A L := by
  obtain ⟨hd, h1, h2, h3⟩ := h
  exact ⟨hd, h1, h2.below hb, fun i a c l ha hl => ⟨(h3 i a c l ha hl).1.below hb, (h3 i a c l ha hl).2⟩⟩
theorem Tab.more (h : Tab w B A L) (hB : B ≤ B') : Tab w B' A L := by
  obtain ⟨hd, h1, h2, h3⟩ := h
  exact ⟨hd, h1, h2.more hB, fun i a c l ha hl => ⟨(h3 i a c l ha hl).1.more hB, (h3 i a c l ha hl).2⟩⟩
theorem Tab.next (h : Tab w w.heap.size A L) (hb : Below w.heap.size w w') : Tab w' w'.heap.size A L := (h.below hb).more hb.size
theorem Tab.row_at {k : Nat} (h : Tab w B A L) (hk : k < L.length) : ∃ b off a c l, A = some ⟨b, off, none⟩ ∧ b < B ∧ L[k]? = some l ∧ w.cell? ⟨b, off + k, none⟩ = some (.slice a l.length c) ∧ Sees w B a (ints l) ∧ l.length ≤ c := by
  obtain ⟨hd, h1, h2, h3⟩ := h
  obtain ⟨b, off, hA, hb, hc⟩ := h2.at_ (k := k) (by rw [heads_length h1]; exact hk)
  have hl := List.getElem?_eq_getElem hk
  have hh := List.getElem?_eq_getElem (show k < hd.length by omega)
  obtain ⟨g1, g2⟩ := h3 k hd[k].1 hd[k].2 L[k] hh hl
  exact ⟨b, off, hd[k].1, hd[k].2, L[k], hA, hb, hl, hc k _ (heads_at hh hl), g1, g2⟩
end
/-- The slice A n c is a table of the call's own: its block and those of its rows lie from lo on and below hi. -/
def TOwn (w : World) (lo hi : Nat) (t e : TypeId) (A : Option Addr) (n c : Nat) (L : List (List Int)) : Prop :=
  ∃ (g : Nat) (cs : Array Value) (hd : List (Option Addr × Nat)), A = some ⟨g, 0, none⟩ ∧ lo ≤ g ∧ g < hi ∧ Blk w g t cs ∧ n = L.length ∧ n ≤ c ∧ cs.size = c ∧ hd.length = L.length ∧
    (∀ i, i < n → cs[i]? = (heads hd L)[i]?) ∧ ∀ (i : Nat) (a : Option Addr) (c' : Nat) (l : List Int), hd[i]? = some (a, c') → L[i]? = some l → Own w lo hi e 1 a l.length c' (ints l)
section
variable {w w' : World} {lo hi lo' hi' n c : Nat} {t e : TypeId} {A : Option Addr} {L : List (List Int)}
theorem TOwn.tab (h : TOwn w lo hi t e A n c L) : Tab w w.heap.size A L := by
  obtain ⟨g, cs, hd, rfl, h1, h2, hB, rfl, hn, hs, hl, hc, hr⟩ := h
  refine ⟨hd, hl, .inr ⟨g, 0, rfl, hB.lt, fun j u hu => ?_⟩, fun i a c' l ha hl' => ⟨(hr i a c' l ha hl').sees, (hr i a c' l ha hl').cap⟩⟩
  have hj : j < L.length := by
    have := (List.getElem?_eq_some_iff.1 hu).1
    rwa [heads_length hl] at this
  rw [Nat.zero_add, hB.cell, hc j hj, hu]
theorem TOwn.cap (h : TOwn w lo hi t e A n c L) : n ≤ c := by
  obtain ⟨g, cs, hd, rfl, h1, h2, hB, rfl, hn, hs, hl, hc, hr⟩ := h
  exact hn
theorem TOwn.keep (h : TOwn w lo hi t e A n c L) (hk : ∀ i, lo ≤ i → i < hi → i < w.heap.size → w'.heap[i]? = w.heap[i]?) : TOwn w' lo hi t e A n c L := by
  obtain ⟨g, cs, hd, rfl, h1, h2, hB, rfl, hn, hs, hl, hc, hr⟩ := h
  exact ⟨g, cs, hd, rfl, h1, h2, (hk g h1 h2 hB.lt).trans hB, rfl, hn, hs, hl, hc, fun i a c' l ha hl' => (hr i a c' l ha hl').keep hk⟩
theorem TOwn.below (h : TOwn w lo hi t e A n c L) (hb : Below w.heap.size w w') : TOwn w' lo hi t e A n c L := h.keep fun i _ _ h3 => hb.block i h3
theorem TOwn.only (h : TOwn w lo hi t e A n c L) (hb : Only lo' hi' w w') (hd : hi ≤ lo' ∨ hi' ≤ lo) : TOwn w' lo hi t e A n c L := h.keep fun i h1 h2 h3 => hb.block i h3 (by omega)
end
/-! ### how a table opens as an argument -/
section
variable {H : Type} {enc : TypeId × Value → H} {P : Program} {w : World} {base : Nat} {held : Bool}
theorem row_cells {t q : TypeId} {fuel : Nat} {cs : List Value} {x : DataW H × List MemPlace} (hs : P.underlying t = some (.slice q)) (hq : P.underlying q = some (.int .i64)) (hC : P.cellsOf q = 1)
    (h : DataW.trod enc P w base (fun _ => true) held fuel t cs = some x) : ∃ a n c zs, cs = [.slice a n c] ∧ Sees w w.heap.size a (ints zs) ∧ zs.length = n ∧ (∀ z ∈ zs, fits z) ∧ n ≤ c ∧ c ≤ maxLen := by
  rcases open_ints hs hq hC h with ⟨hcs, _⟩ | ⟨a, l, c', zs, hcs, _, hl, hm, hz, _, hcell, hwz⟩
  · exact ⟨none, 0, 0, [], hcs, .inl rfl, by simp, by simp, Nat.le_refl _, Nat.zero_le _⟩
  · have hz' : zs.length = c' := by simpa using hz
    refine ⟨some a, l, c', zs.take l, hcs, seen_of_cells (fun j u hu => ?_) (fun u hu => cell_lt hu), by simp; omega, fun z h => fits_of_wf (hwz z (List.mem_of_mem_take h)), hl, hm⟩
    have hj : j < l := by
      have := (List.getElem?_eq_some_iff.1 hu).1
      rw [ints_length, List.length_take] at this
      omega
    have hc := hcell j (by omega)
    rw [hc, ← hu]
    have hzj : zs[j]? = some zs[j] := List.getElem?_eq_getElem (by omega)
    simp [ints, hj, hzj]
/-- A slice of slices of integers. -/
theorem open_rows {t e q : TypeId} {A : Option Addr} {n c : Nat} {d : DataW H} {p : List MemPlace} (hs : P.underlying t = some (.slice e)) (he : P.underlying e = some (.slice q)) (hq : P.underlying q = some (.int .i64))
    (hC : P.cellsOf e = 1) (hC' : P.cellsOf q = 1) (h : DataW.Trod enc P w base (fun _ => true) held t (.slice A n c) d p) :
    ∃ L : List (List Int), Tab w w.heap.size A L ∧ L.length = n ∧ (∀ l ∈ L, l.length ≤ maxLen) ∧ n ≤ c ∧ c ≤ maxLen := by
  obtain ⟨fuel, hf⟩ := h
  rcases open_slice hs hf with ⟨hcs, _⟩ | ⟨a, len, cap, m, n', D, Pl, hcs, hb, hl, hm, hmm, hx, hi⟩
  · simp [Value.cells] at hcs
    obtain ⟨rfl, rfl, rfl⟩ := hcs
    exact ⟨[], ⟨[], rfl, .inl rfl, by simp⟩, rfl, by simp, Nat.le_refl _, Nat.zero_le _⟩
  · simp [Value.cells] at hcs
    obtain ⟨rfl, rfl, rfl⟩ := hcs
    simp only [if_true] at hmm
    subst hmm
    have rows : ∀ k, k ≤ n → ∃ (hd : List (Option Addr × Nat)) (L : List (List Int)), hd.length = k ∧ L.length = k ∧ (∀ l ∈ L, l.length ≤ maxLen) ∧ (∀ j u, (heads hd L)[j]? = some u → w.cell? (a.add j) = some u) ∧
        ∀ (i : Nat) (a' : Option Addr) (c' : Nat) (l : List Int), hd[i]? = some (a', c') → L[i]? = some l → Sees w w.heap.size a' (ints l) ∧ l.length ≤ c' := by
      intro k
      induction k with
      | zero => exact fun _ => ⟨[], [], rfl, rfl, by simp, by simp [heads], by simp⟩
      | succ k ih =>
        intro hk
        obtain ⟨hd, L, h1, h2, h3, h4, h5⟩ := ih (by omega)
        obtain ⟨cs', hc, ht'⟩ := hi k (by omega)
        obtain ⟨a', n2, c', zs, rfl, g1, g2, g3, g4, g5⟩ := row_cells he hq hC' ht'
        obtain ⟨_, hcl, hat⟩ := World.cells?_some hc
        refine ⟨hd ++ [(a', c')], L ++ [zs], by simp [h1], by simp [h2], ?_, ?_, ?_⟩
        · intro l hl'
          rcases List.mem_append.1 hl' with hl' | hl'
          · exact h3 l hl'
          · simp at hl'; subst hl'; omega
        · intro j u hu
          have hh : heads (hd ++ [(a', c')]) (L ++ [zs]) = heads hd L ++ [.slice a' zs.length c'] := by
            unfold heads
            rw [List.zip_append (by omega)]
            simp
          rw [hh, List.getElem?_append, heads_length (by omega), h2] at hu
          split at hu
          · exact h4 j u hu
          · rename_i hge
            have hj : j = k := by
              have := (List.getElem?_eq_some_iff.1 hu).1
              simp at this
              omega
            subst hj
            simp at hu
            have := hat 0 (by rw [hC]; omega)
            rw [hC] at this
            simp at this
            rw [Go.Deep.add_add, Nat.add_zero] at this
            rw [this, ← hu, g2]
        · intro i a2 c2 l ha hl'
          by_cases hik : i < k
          · rw [List.getElem?_append_left (by omega)] at ha hl'
            exact h5 i a2 c2 l ha hl'
          · have hik' : i = k := by
              have := (List.getElem?_eq_some_iff.1 hl').1
              simp at this
              omega
            subst hik'
            rw [List.getElem?_append_right (by omega)] at ha hl'
            simp [h1] at ha
            simp [h2] at hl'
            obtain ⟨rfl, rfl⟩ := ha
            subst hl'
            exact ⟨g1, by omega⟩
    obtain ⟨hd, L, h1, h2, h3, h4, h5⟩ := rows n (Nat.le_refl n)
    exact ⟨L, ⟨hd, by omega, seen_of_cells h4 (fun u hu => cell_lt hu), h5⟩, h2, h3, hl, hm⟩
end
end Go.Proofs.Ytblfbllhkmcbbaa
