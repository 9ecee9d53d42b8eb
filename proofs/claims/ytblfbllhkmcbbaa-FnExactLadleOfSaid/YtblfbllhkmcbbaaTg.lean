/-
  Tables that a call builds row by row: where the rows lie, what an append, a store of a row and a store of a number make of them.
-/
import Derived.Test.YtblfbllhkmcbbaaApp1
import Derived.Test.YtblfbllhkmcbbaaTab
namespace Go.Proofs.Ytblfbllhkmcbbaa
open Go.RowKit
set_option linter.unusedVariables false
/-- Block g holds the heads of n rows; each row lies in a block of its own, from lo on, beside g. -/
def TGrow (w : World) (lo g : Nat) (t e : TypeId) (n c : Nat) (hd : List (Option Addr × Nat)) (L : List (List Int)) : Prop :=
  Own w g (g + 1) t 1 (some ⟨g, 0, none⟩) n c (heads hd L) ∧ g < w.heap.size ∧ lo ≤ g ∧ hd.length = n ∧ L.length = n ∧
    ∀ (i : Nat) (a : Option Addr) (c' : Nat) (l : List Int), hd[i]? = some (a, c') → L[i]? = some l → ∃ h, a = some ⟨h, 0, none⟩ ∧ lo ≤ h ∧ h ≠ g ∧ h < w.heap.size ∧ Own w h (h + 1) e 1 (some ⟨h, 0, none⟩) l.length c' (ints l)
section
variable {w w' : World} {lo g n c lo' hi' : Nat} {t e : TypeId} {hd : List (Option Addr × Nat)} {L : List (List Int)}
theorem TGrow.only (h : TGrow w lo g t e n c hd L) (hb : Only lo' hi' w w') (hd' : hi' ≤ lo ∨ w.heap.size ≤ lo') : TGrow w' lo g t e n c hd L := by
  obtain ⟨h1, h2, h3, h4, h5, h6⟩ := h
  refine ⟨h1.only hb (by omega), Nat.lt_of_lt_of_le h2 hb.size, h3, h4, h5, fun i a c' l ha hl => ?_⟩
  obtain ⟨q, rfl, q1, q2, q3, q4⟩ := h6 i a c' l ha hl
  exact ⟨q, rfl, q1, q2, Nat.lt_of_lt_of_le q3 hb.size, q4.only hb (by omega)⟩
theorem TGrow.alloc (h : TGrow w lo g t e n c hd L) (o : Obj) : TGrow (w.alloc o) lo g t e n c hd L :=
  h.only (lo' := w.heap.size) (hi' := w.heap.size) ((Only.refl _ _ _).alloc o) (.inr (Nat.le_refl _))
theorem TGrow.made (w : World) (lo : Nat) (t e : TypeId) (hlo : lo ≤ w.heap.size) : TGrow (w.alloc (.cells #[] t)) lo w.heap.size t e 0 0 [] [] := by
  refine ⟨?_, by simp, hlo, rfl, rfl, fun i a c' l ha => by simp at ha⟩
  exact Own.mk_ (Nat.le_refl _) (by omega) (Nat.le_refl _) (by unfold maxLen; omega) (Blk.made _ _ _) rfl (by simp [heads])
theorem heads_snoc' {hd : List (Option Addr × Nat)} {L : List (List Int)} {a : Option Addr} {c' : Nat} {l : List Int} (h : hd.length = L.length) : heads (hd ++ [(a, c')]) (L ++ [l]) = heads hd L ++ [.slice a l.length c'] := by
  unfold heads
  rw [List.zip_append h]
  simp
theorem sees_head (w : World) (t : TypeId) (v : Value) : Sees (w.alloc (.cells #[v] t)) (w.heap.size + 1) (some ⟨w.heap.size, 0, none⟩) [v] := by
  refine .inr ⟨w.heap.size, 0, rfl, by omega, fun j u hu => ?_⟩
  rw [(Blk.made w t #[v]).cell]
  cases j with
  | zero => simpa using hu
  | succ j => simp at hu
/-- One row more: what the append of its head leaves. -/
theorem TGrow.snoc {g' c2 h cr : Nat} {l : List Int} (ht : TGrow w lo g t e n c hd L) (hrow : Own w h (h + 1) e 1 (some ⟨h, 0, none⟩) l.length cr (ints l)) (hh : lo ≤ h) (hhg : h ≠ g) (hhs : h < w.heap.size)
    (hown : Own w' g' (g' + 1) t 1 (some ⟨g', 0, none⟩) (n + 1) c2 (heads hd L ++ [.slice (some ⟨h, 0, none⟩) l.length cr])) (hg' : g' = g ∨ w.heap.size ≤ g') (hlt : g' < w'.heap.size) (hon : Only g (g + 1) w w') :
    TGrow w' lo g' t e (n + 1) c2 (hd ++ [(some ⟨h, 0, none⟩, cr)]) (L ++ [l]) := by
  obtain ⟨h1, h2, h3, h4, h5, h6⟩ := ht
  refine ⟨by rw [heads_snoc' (by omega)]; exact hown, hlt, by omega, by simp [h4], by simp [h5], fun i a c' x ha hx => ?_⟩
  by_cases hi : i < n
  · rw [List.getElem?_append_left (by omega)] at ha hx
    obtain ⟨q, rfl, q1, q2, q3, q4⟩ := h6 i a c' x ha hx
    exact ⟨q, rfl, q1, by omega, Nat.lt_of_lt_of_le q3 hon.size, q4.only hon (by omega)⟩
  · have hin : i = n := by
      have := (List.getElem?_eq_some_iff.1 ha).1
      simp at this
      omega
    subst hin
    rw [List.getElem?_append_right (by omega)] at ha hx
    simp [h4, h5] at ha hx
    obtain ⟨rfl, rfl⟩ := ha
    subst hx
    exact ⟨h, rfl, hh, by omega, Nat.lt_of_lt_of_le hhs hon.size, hrow.only hon (by omega)⟩
theorem TGrow.cap (h : TGrow w lo g t e n c hd L) : n ≤ c := h.1.cap
theorem TGrow.tab (h : TGrow w lo g t e n c hd L) : Tab w w.heap.size (some ⟨g, 0, none⟩) L := by
  obtain ⟨h1, h2, h3, h4, h5, h6⟩ := h
  refine ⟨hd, by omega, h1.sees, fun i a c' l ha hl => ?_⟩
  obtain ⟨q, rfl, q1, q2, q3, q4⟩ := h6 i a c' l ha hl
  exact ⟨q4.sees, q4.cap⟩
/-- The head of row i, and what a store of another row there leaves. -/
theorem TGrow.row (h : TGrow w lo g t e n c hd L) {i : Nat} {l : List Int} (hl : L[i]? = some l) : ∃ q cr, w.cell? ⟨g, i, none⟩ = some (.slice (some ⟨q, 0, none⟩) l.length cr) ∧ w.frozen? ⟨g, i, none⟩ = false ∧ hd[i]? = some (some ⟨q, 0, none⟩, cr) ∧ lo ≤ q ∧ q ≠ g ∧ q < w.heap.size ∧ Own w q (q + 1) e 1 (some ⟨q, 0, none⟩) l.length cr (ints l) := by
  obtain ⟨h1, h2, h3, h4, h5, h6⟩ := h
  have hi := (List.getElem?_eq_some_iff.1 hl).1
  have hh := List.getElem?_eq_getElem (l := hd) (i := i) (by omega)
  obtain ⟨q, hq, q1, q2, q3, q4⟩ := h6 i hd[i].1 hd[i].2 l hh hl
  obtain ⟨g', cs, hA, _, _, _, _, hB, hsz, hx⟩ := h1.block (by omega)
  injection hA with hA
  injection hA with e1
  subst e1
  refine ⟨q, hd[i].2, ?_, hB.frozen i, by rw [hh, ← hq], q1, q2, q3, q4⟩
  have hat := heads_at (a := hd[i].1) (c := hd[i].2) hh hl
  rw [hB.cell, ← Array.getElem?_toList, ← hq, ← hat, ← hx, List.getElem?_take, if_pos (by omega)]
theorem Tab.drop1 {B b off : Nat} (h : Tab w B (some ⟨b, off, none⟩) L) : Tab w B (some ⟨b, off + 1, none⟩) (L.drop 1) := by
  obtain ⟨hd, h1, h2, h3⟩ := h
  refine ⟨hd.drop 1, by simp [h1], ?_, fun i a c' l ha hl => h3 (i + 1) a c' l (by rw [← ha, List.getElem?_drop, Nat.add_comm]) (by rw [← hl, List.getElem?_drop, Nat.add_comm])⟩
  have := h2.drop (k := 1)
  rwa [show (heads hd L).drop 1 = heads (hd.drop 1) (L.drop 1) from by cases hd <;> cases L <;> simp [heads]] at this
theorem zip_set2 {α β : Type} (a : List α) : ∀ (b : List β) (i : Nat) (x : α) (y : β), (a.set i x).zip (b.set i y) = (a.zip b).set i (x, y) := by
  induction a with
  | nil => intro b i x y; simp
  | cons u a ih =>
    intro b i x y
    cases b with
    | nil => simp
    | cons v b =>
      cases i with
      | zero => simp
      | succ i => simpa using ih b i x y
/-- No two rows lie in one block. -/
def Dist (hd : List (Option Addr × Nat)) : Prop := ∀ (i j : Nat) (a b : Option Addr × Nat), hd[i]? = some a → hd[j]? = some b → i ≠ j → a.1 ≠ b.1
theorem TGrow.dist {h cr : Nat} (ht : TGrow w lo g t e n c hd L) (hd' : Dist hd) (hh : w.heap.size ≤ h) : Dist (hd ++ [(some ⟨h, 0, none⟩, cr)]) := by
  obtain ⟨h1, h2, h3, h4, h5, h6⟩ := ht
  have old : ∀ (i : Nat) (a : Option Addr × Nat), hd[i]? = some a → a.1 ≠ some ⟨h, 0, none⟩ := by
    intro i a ha he
    have hi := (List.getElem?_eq_some_iff.1 ha).1
    obtain ⟨q, hq, _, _, q3, _⟩ := h6 i a.1 a.2 (L[i]'(by omega)) ha (List.getElem?_eq_getElem (by omega))
    rw [he] at hq
    injection hq with hq
    injection hq with e1
    omega
  intro i j a b ha hb hij
  by_cases hi : i < hd.length <;> by_cases hj : j < hd.length
  · rw [List.getElem?_append_left hi] at ha
    rw [List.getElem?_append_left hj] at hb
    exact hd' i j a b ha hb hij
  · rw [List.getElem?_append_left hi] at ha
    rw [List.getElem?_append_right (by omega)] at hb
    have hb' : b = (some ⟨h, 0, none⟩, cr) := by
      have := (List.getElem?_eq_some_iff.1 hb).1
      simp at this
      rw [this] at hb
      simpa using hb.symm
    rw [hb']
    exact old i a ha
  · rw [List.getElem?_append_right (by omega)] at ha
    rw [List.getElem?_append_left hj] at hb
    have ha' : a = (some ⟨h, 0, none⟩, cr) := by
      have := (List.getElem?_eq_some_iff.1 ha).1
      simp at this
      rw [this] at ha
      simpa using ha.symm
    rw [ha']
    exact fun hh => old j b hb hh.symm
  · have h7 := (List.getElem?_eq_some_iff.1 ha).1
    have h8 := (List.getElem?_eq_some_iff.1 hb).1
    simp at h7 h8
    omega
theorem Own.setBlk {q size : Nat} {xs : List Value} {p : Addr} {n c : Nat} {t : TypeId} (h : Own w q (q + 1) t size (some ⟨q, 0, none⟩) n c xs) (hp : p.block ≠ q) (u : Value) : Own (w.setCell p u) q (q + 1) t size (some ⟨q, 0, none⟩) n c xs :=
  h.keep fun i h1 h2 _ => Below.heap_setCell w p u i (by omega)
/-- A row is stored anew. -/
theorem TGrow.put {h cr i : Nat} {l l0 : List Int} (ht : TGrow w lo g t e n c hd L) (hi : L[i]? = some l0) (hrow : Own w h (h + 1) e 1 (some ⟨h, 0, none⟩) l.length cr (ints l)) (hh : lo ≤ h) (hhg : h ≠ g) (hhs : h < w.heap.size) :
    TGrow (w.setCell ⟨g, i, none⟩ (.slice (some ⟨h, 0, none⟩) l.length cr)) lo g t e n c (hd.set i (some ⟨h, 0, none⟩, cr)) (L.set i l) := by
  obtain ⟨h1, h2, h3, h4, h5, h6⟩ := ht
  have hil := (List.getElem?_eq_some_iff.1 hi).1
  refine ⟨?_, by simpa using h2, h3, by simp [h4], by simp [h5], fun j a c' x ha hx => ?_⟩
  · obtain ⟨g', cs, hA, k1, k2, kn, km, hB, hsz, hx⟩ := h1.block (by omega)
    injection hA with hA
    injection hA with e1
    subst e1
    refine Own.mk_ k1 k2 kn km (hB.put i _) (by simpa using hsz) ?_
    rw [Array.toList_setIfInBounds, List.take_set, hx]
    unfold heads
    rw [zip_set2, List.map_set]
  · by_cases hij : i = j
    · subst hij
      rw [List.getElem?_set_self (by omega)] at ha hx
      injection ha with ha
      injection ha with ha1 ha2
      injection hx with hx
      subst ha1; subst ha2; subst hx
      exact ⟨h, rfl, hh, hhg, by simpa using hhs, hrow.setBlk (by show g ≠ h; omega) _⟩
    · rw [List.getElem?_set_ne hij] at ha hx
      obtain ⟨q, rfl, q1, q2, q3, q4⟩ := h6 j a c' x ha hx
      exact ⟨q, rfl, q1, q2, by simpa using q3, q4.setBlk (by show g ≠ q; omega) _⟩
theorem heads_same (hd : List (Option Addr × Nat)) : ∀ (L : List (List Int)) (i : Nat) (l l' : List Int), L[i]? = some l → l'.length = l.length → heads hd (L.set i l') = heads hd L := by
  induction hd with
  | nil => intro L i l l' _ _; simp [heads]
  | cons a hd ih =>
    intro L i l l' h1 h2
    cases L with
    | nil => simp at h1
    | cons x L =>
      cases i with
      | zero =>
        simp at h1
        subst h1
        simp [heads, h2]
      | succ i =>
        have := ih L i l l' (by simpa using h1) h2
        simpa [heads] using this
theorem num_own {w : World} {lo hi n c g k : Nat} {t : TypeId} {l : List Int} {x : Int} (h : Own w lo hi t 1 (some ⟨g, 0, none⟩) n c (ints l)) (hx : l[k]? = some x) :
    w.cell? ⟨g, k, none⟩ = some (.int .i64 x) ∧ w.frozen? ⟨g, k, none⟩ = false ∧ ∀ v, Own (w.setCell ⟨g, k, none⟩ (.int .i64 v)) lo hi t 1 (some ⟨g, 0, none⟩) n c (ints (l.set k v)) := by
  have hk := (List.getElem?_eq_some_iff.1 hx).1
  have hln : l.length = n := by
    have := h.1.1
    rw [ints_length] at this
    omega
  obtain ⟨g', cs, hA, h1, h2, hn, hm, hB, hsz, hx'⟩ := h.block (by omega)
  injection hA with hA
  injection hA with e
  subst e
  refine ⟨?_, hB.frozen k, fun v => ?_⟩
  · rw [hB.cell, ← ints_get hx, ← hx', List.getElem?_take, if_pos (by omega), Array.getElem?_toList]
  · refine Own.mk_ h1 h2 hn hm (hB.put k _) (by simpa using hsz) ?_
    rw [Array.toList_setIfInBounds, List.take_set, hx']
    simp [ints, List.map_set]
/-- A number of a row is stored anew. -/
theorem TGrow.num {q cr i j : Nat} {l : List Int} {x : Int} (ht : TGrow w lo g t e n c hd L) (hD : Dist hd) (hl : L[i]? = some l) (hh : hd[i]? = some (some ⟨q, 0, none⟩, cr)) (hx : l[j]? = some x) (v : Int) :
    TGrow (w.setCell ⟨q, j, none⟩ (.int .i64 v)) lo g t e n c hd (L.set i (l.set j v)) := by
  obtain ⟨h1, h2, h3, h4, h5, h6⟩ := ht
  obtain ⟨q', hq', q1, q2, q3, q4⟩ := h6 i _ cr l hh hl
  injection hq' with hq'
  injection hq' with e1
  subst e1
  have hil := (List.getElem?_eq_some_iff.1 hl).1
  refine ⟨by rw [heads_same hd L i l _ hl (by simp)]; exact h1.setBlk (by show q ≠ g; omega) _, by simpa using h2, h3, h4, by simp [h5], fun k a c' y ha hy => ?_⟩
  by_cases hik : i = k
  · subst hik
    rw [List.getElem?_set_self (by omega)] at hy
    injection hy with hy
    subst hy
    rw [hh] at ha
    injection ha with ha
    injection ha with ha1 ha2
    subst ha1; subst ha2
    refine ⟨q, rfl, q1, q2, by simpa using q3, ?_⟩
    rw [List.length_set]
    exact (num_own q4 hx).2.2 v
  · rw [List.getElem?_set_ne hik] at hy
    obtain ⟨p, rfl, p1, p2, p3, p4⟩ := h6 k a c' y ha hy
    have hne := hD i k _ _ hh ha hik
    refine ⟨p, rfl, p1, p2, by simpa using p3, p4.setBlk (fun e => hne (by simp only at e; rw [e])) _⟩
theorem only_cell' {lo hi b i : Nat} (h : Only lo hi w w') (hb : b < w.heap.size) (hd : b < lo ∨ hi ≤ b) : w'.cell? ⟨b, i, none⟩ = w.cell? ⟨b, i, none⟩ := by
  simp [World.cell?, h.block b hb hd]
theorem only_frozen' {lo hi b i : Nat} (h : Only lo hi w w') (hb : b < w.heap.size) (hd : b < lo ∨ hi ≤ b) : w'.frozen? ⟨b, i, none⟩ = w.frozen? ⟨b, i, none⟩ := by
  simp [World.frozen?, h.block b hb hd]
end
end Go.Proofs.Ytblfbllhkmcbbaa
