/-
  Contracts of what is drawn for the laws on the cheapest mixture: stuffs, a grade and tons.
-/
import Derived.Test.YtlhjncefckidjaaDoorDv
namespace Go.Proofs.YtlhjncefckidjaaDoor
open Go.RowKit
set_option linter.unusedVariables false
/-- Stuffs, a grade and tons are drawn out of a code. -/
def DrawnBest (w : World) (e : Ending) (w' : World) : Prop :=
  ∃ (l : List Stuff) (A : Option Addr) (c : Nat) (g : Grade) (t : Int), l.length ≤ 5 ∧ -100 ≤ t ∧ t ≤ 100 ∧ e = .returned (.tuple #[.slice A l.length c, gv g, .int .i64 t]) ∧
    Own w' w.heap.size w'.heap.size 42 5 A l.length c (ints (flatS l)) ∧ Below w.heap.size w w'
theorem own_six {w : World} {lo hi size n c g : Nat} {t : TypeId} {A : Option Addr} {xs : List Value} (h : Own w lo hi t size A n c xs) (hg : g < lo) (v1 v2 v3 v4 v5 v6 : Value) :
    Own ((((((w.setCell ⟨g, 0, none⟩ v1).setCell ⟨g, 1, none⟩ v2).setCell ⟨g, 2, none⟩ v3).setCell ⟨g, 3, none⟩ v4).setCell ⟨g, 4, none⟩ v5).setCell ⟨g, 5, none⟩ v6) lo hi t size A n c xs :=
  (((((h.setCell (p := ⟨g, 0, none⟩) (.inl hg) v1).setCell (p := ⟨g, 1, none⟩) (.inl hg) v2).setCell (p := ⟨g, 2, none⟩) (.inl hg) v3).setCell (p := ⟨g, 3, none⟩) (.inl hg) v4).setCell (p := ⟨g, 4, none⟩) (.inl hg) v5).setCell (p := ⟨g, 5, none⟩) (.inl hg) v6
theorem below_six {w w' : World} {B g : Nat} (h : Below B w w') (hg : B ≤ g) (v1 v2 v3 v4 v5 v6 : Value) :
    Below B w ((((((w'.setCell ⟨g, 0, none⟩ v1).setCell ⟨g, 1, none⟩ v2).setCell ⟨g, 2, none⟩ v3).setCell ⟨g, 3, none⟩ v4).setCell ⟨g, 4, none⟩ v5).setCell ⟨g, 5, none⟩ v6) :=
  (((((h.setCell (p := ⟨g, 0, none⟩) hg v1).setCell (p := ⟨g, 1, none⟩) hg v2).setCell (p := ⟨g, 2, none⟩) hg v3).setCell (p := ⟨g, 3, none⟩) hg v4).setCell (p := ⟨g, 4, none⟩) hg v5).setCell (p := ⟨g, 5, none⟩) hg v6
set_option maxHeartbeats 1000000 in
theorem drawMixBest_any (A : Option Addr) (n c : Nat) (l : List Int) (w : World) (hs : Sees w w.heap.size A (bys l)) (hl : l.length = n) (hby : ∀ z ∈ l, byteB z) (hc : n ≤ c) (hm : c ≤ maxLen) :
    Calls Tryd.prog 10 #[.slice A n c] w (DrawnBest w) := by
  go_enter Tryd.func10, Tryd.ntmps10
  have hB := Blk.made w 25 #[.int .i64 0, .int .i64 0, .int .i64 0, .int .i64 0, .int .i64 0, .int .i64 0]
  have hb : Below w.heap.size w (w.alloc (.cells #[.int .i64 0, .int .i64 0, .int .i64 0, .int .i64 0, .int .i64 0, .int .i64 0] 25)) := (Below.refl _ _).alloc (Nat.le_refl _) _
  go_wp2_with fail
  generalize w.alloc _ = W at hB hb ⊢
  have hlt := hB.lt
  refine (l20Open_any A n c l _ (hs.next hb) hl hby hc hm).mono ?_
  rintro _ w1 ⟨rfl, hR, hb1⟩
  replace hB := hB.below hb1 hB.lt
  have hz1 := hb1.size
  have hRl := hR.lt
  replace hb := below_next hb hb1
  clear hb1
  go_wp2_with fail
  refine (l20Stuffs_any _ _ _ 14 _ hR (by omega) (by omega)).mono ?_
  rintro _ w2 ⟨st, A1, c1, p', hsm, hlen, hp', rfl, hQ, hR2, hO⟩
  replace hB := hB.only hO (by omega)
  replace hb := below_only hb hO (by omega) (Nat.le_refl _)
  have hz2 := hO.size
  clear hR hO
  have Hsm := Lib.hid hsm
  clear hsm
  go_wp2_with fail
  refine (l20Mix_any _ _ _ 0 _ hR2 (by omega) (by omega) A1 c1 _ _ st hQ (by omega) (Nat.le_refl _) Hsm.out hlen).mono ?_
  rintro _ w3 ⟨x, A2, c2, p2, hxl, hxs, hp2, rfl, hX, hR3, hO3⟩
  clear hxs
  replace hB := hB.only hO3 (by omega)
  replace hQ := own_hi (hQ.only hO3 (.inr (by omega))) hO3.size
  replace hb := below_only hb hO3 (by omega) (Nat.le_refl _)
  clear hR2
  go_wp2_with fail
  refine (l20Around_any _ _ _ _ hR3 (by omega) A1 A2 c1 c2 st x hQ.sees hX.sees hlen (by omega)).mono ?_
  rintro _ w4 ⟨g, p4, hp4, rfl, hR4, hO4⟩
  replace hB := hB.only hO4 (by omega)
  replace hQ := own_hi (hQ.only hO4 (.inr (by omega))) hO4.size
  replace hb := below_only hb hO4 (by omega) (Nat.le_refl _)
  clear hO4 hR3 hO3 hX
  obtain ⟨g1, g2, g3, g4, g5, g6⟩ := g
  go_wp2_with fail
  refine (pick_any _ _ _ 8 _ hR4 (by omega) (by omega) (by omega)).mono ?_
  rintro _ w5 ⟨v1, hv1, rfl, hR5, hO5⟩
  replace hB := hB.only hO5 (by omega)
  replace hQ := own_hi (hQ.only hO5 (.inr (by omega))) hO5.size
  replace hb := below_only hb hO5 (by omega) (Nat.le_refl _)
  clear hO5 hR4
  go_wp2_with fail
  refine (pick_any _ _ _ 20 _ hR5 (by omega) (by omega) (by omega)).mono ?_
  rintro _ w6 ⟨v2, hv2, rfl, hR6, hO6⟩
  replace hB := hB.only hO6 (by omega)
  replace hQ := own_hi (hQ.only hO6 (.inr (by omega))) hO6.size
  replace hb := below_only hb hO6 (by omega) (Nat.le_refl _)
  clear hO6 hR5
  go_wp2_with fail
  refine (pick_any _ _ _ 20 _ hR6 (by omega) (by omega) (by omega)).mono ?_
  rintro _ w7 ⟨v3, hv3, rfl, hR7, hO7⟩
  replace hB := hB.only hO7 (by omega)
  replace hQ := own_hi (hQ.only hO7 (.inr (by omega))) hO7.size
  replace hb := below_only hb hO7 (by omega) (Nat.le_refl _)
  clear hO7 hR6
  have c4 := hB.cell
  have f4 := hB.frozen
  go_wp2_with fail
  refine bodyPost_ret (v := .tuple #[.slice A1 st.length c1, gv ⟨g1, g2, g3, g4, g5, g6⟩, .int .i64 (1 + (v1 : Int) + (v2 : Int) / 19 * 9 - (v3 : Int) / 19 * 9)]) (by simp [results, Tryd.results10, go_sem, c4]) rfl ⟨st, A1, c1, ⟨g1, g2, g3, g4, g5, g6⟩, _, hlen, by omega, by omega, rfl, ?_, ?_⟩
  · simpa using own_lo (own_six hQ (by omega) _ _ _ _ _ _) (by omega)
  · exact below_six hb (Nat.le_refl _) _ _ _ _ _ _
theorem drawMixLeast_any (A : Option Addr) (n c : Nat) (l : List Int) (w : World) (hs : Sees w w.heap.size A (bys l)) (hl : l.length = n) (hby : ∀ z ∈ l, byteB z) (hc : n ≤ c) (hm : c ≤ maxLen) :
    Calls Tryd.prog 23 #[.slice A n c] w (DrawnBest w) := by
  go_enter Tryd.func23, Tryd.ntmps23
  have hB := Blk.made w 25 #[.int .i64 0, .int .i64 0, .int .i64 0, .int .i64 0, .int .i64 0, .int .i64 0]
  have hb : Below w.heap.size w (w.alloc (.cells #[.int .i64 0, .int .i64 0, .int .i64 0, .int .i64 0, .int .i64 0, .int .i64 0] 25)) := (Below.refl _ _).alloc (Nat.le_refl _) _
  go_wp2_with fail
  generalize w.alloc _ = W at hB hb ⊢
  have hlt := hB.lt
  refine (drawMixBest_any A n c l _ (hs.next hb) hl hby hc hm).mono ?_
  rintro _ w1 ⟨st, A1, c1, g, t, hlen, ht1, ht2, rfl, hQ, hb1⟩
  replace hB := hB.below hb1 hB.lt
  replace hb := below_next hb hb1
  clear hb1
  obtain ⟨g1, g2, g3, g4, g5, g6⟩ := g
  have c4 := hB.cell
  have f4 := hB.frozen
  go_wp2_with fail
  refine bodyPost_ret (v := .tuple #[.slice A1 st.length c1, gv ⟨g1, g2, g3, g4, g5, g6⟩, .int .i64 t]) (by simp [results, Tryd.results23, go_sem, c4]) rfl ⟨st, A1, c1, ⟨g1, g2, g3, g4, g5, g6⟩, t, hlen, ht1, ht2, rfl, ?_, ?_⟩
  · simpa using own_lo (own_six hQ (by omega) _ _ _ _ _ _) (by omega)
  · exact below_six hb (Nat.le_refl _) _ _ _ _ _ _
/-- Stuffs and a grade are drawn out of a code. -/
def DrawnMost (w : World) (e : Ending) (w' : World) : Prop :=
  ∃ (l : List Stuff) (A : Option Addr) (c : Nat) (g : Grade), l.length ≤ 5 ∧ e = .returned (.tuple #[.slice A l.length c, gv g]) ∧
    Own w' w.heap.size w'.heap.size 42 5 A l.length c (ints (flatS l)) ∧ Below w.heap.size w w'
set_option maxHeartbeats 400000 in
theorem drawMixMost_any (A : Option Addr) (n c : Nat) (l : List Int) (w : World) (hs : Sees w w.heap.size A (bys l)) (hl : l.length = n) (hby : ∀ z ∈ l, byteB z) (hc : n ≤ c) (hm : c ≤ maxLen) :
    Calls Tryd.prog 25 #[.slice A n c] w (DrawnMost w) := by
  go_enter Tryd.func25, Tryd.ntmps25
  have hB := Blk.made w 25 #[.int .i64 0, .int .i64 0, .int .i64 0, .int .i64 0, .int .i64 0, .int .i64 0]
  have hb : Below w.heap.size w (w.alloc (.cells #[.int .i64 0, .int .i64 0, .int .i64 0, .int .i64 0, .int .i64 0, .int .i64 0] 25)) := (Below.refl _ _).alloc (Nat.le_refl _) _
  go_wp2_with fail
  generalize w.alloc _ = W at hB hb ⊢
  have hlt := hB.lt
  refine (drawMixBest_any A n c l _ (hs.next hb) hl hby hc hm).mono ?_
  rintro _ w1 ⟨st, A1, c1, g, t, hlen, ht1, ht2, rfl, hQ, hb1⟩
  replace hB := hB.below hb1 hB.lt
  replace hb := below_next hb hb1
  clear hb1
  obtain ⟨g1, g2, g3, g4, g5, g6⟩ := g
  have hlt1 := hB.lt
  have hT := Blk.made w1 25 #[.int .i64 g1, .int .i64 g2, .int .i64 g3, .int .i64 g4, .int .i64 g5, .int .i64 g6]
  replace hB := hB.alloc (.cells #[.int .i64 g1, .int .i64 g2, .int .i64 g3, .int .i64 g4, .int .i64 g5, .int .i64 g6] 25)
  replace hQ := own_hi (hQ.alloc (.cells #[.int .i64 g1, .int .i64 g2, .int .i64 g3, .int .i64 g4, .int .i64 g5, .int .i64 g6] 25)) (show w1.heap.size ≤ (w1.alloc (.cells #[.int .i64 g1, .int .i64 g2, .int .i64 g3, .int .i64 g4, .int .i64 g5, .int .i64 g6] 25)).heap.size by simp)
  replace hb := hb.alloc hb.size (.cells #[.int .i64 g1, .int .i64 g2, .int .i64 g3, .int .i64 g4, .int .i64 g5, .int .i64 g6] 25)
  go_wp2_with fail
  generalize w1.alloc _ = V at hB hT hQ hb ⊢
  have c4 := hB.cell
  have f4 := hB.frozen
  have c5 := hT.cell
  have hne1 : ¬ (w1.heap.size = w.heap.size) := by omega
  have hne2 : ¬ (w.heap.size = w1.heap.size) := by omega
  go_region_held3 (fun w' => w'.cell? ⟨w1.heap.size, 0, none⟩ = some (.int .i64 g1) ∧ w'.cell? ⟨w1.heap.size, 1, none⟩ = some (.int .i64 g2) ∧ w'.cell? ⟨w1.heap.size, 2, none⟩ = some (.int .i64 g3) ∧ w'.cell? ⟨w1.heap.size, 3, none⟩ = some (.int .i64 g4) ∧ w'.cell? ⟨w1.heap.size, 4, none⟩ = some (.int .i64 g5) ∧ w'.cell? ⟨w1.heap.size, 5, none⟩ = some (.int .i64 g6)) (go_keep) (fail)
  have c6 := (hB.six g1 g2 g3 g4 g5 g6).drew.cell
  go_wp2_with fail
  refine bodyPost_ret (v := .tuple #[.slice A1 st.length c1, gv ⟨g1, g2, g3, g4, g5, g6⟩]) (by simp [results, Tryd.results25, go_sem, c6]) rfl ⟨st, A1, c1, ⟨g1, g2, g3, g4, g5, g6⟩, hlen, rfl, ?_, ?_⟩
  · simpa using own_lo ((own_six hQ (by omega) _ _ _ _ _ _).below ((Below.refl _ _).drew)) (by omega)
  · exact (below_six hb (Nat.le_refl _) _ _ _ _ _ _).drew
end Go.Proofs.YtlhjncefckidjaaDoor
