/-
  The walk of the law FnMixMeets.
-/
import Derived.Test.YtdfbkldppblefaaDoorDw
import Derived.Test.YtdfbkldppblefaaDoorDv
import Derived.Test.YtdfbkldppblefaaDoorPn
import Derived.Test.YtdfbkldppblefaaDoorApp1
import Derived.Test.YtdfbkldppblefaaDoorLat
namespace Go.Proofs.YtdfbkldppblefaaDoor
open Go.RowKit
set_option linter.unusedVariables false
theorem meetsG {l : List Stuff} {x : List Int} {g : Grade} (h : mixMeets l x g = true) : mixOk l x = true ∧ 0 < l.length := by
  have h1 := meets_iff.1 h
  refine ⟨h1.1, ?_⟩
  have hl := mixOk_len h1.1
  rcases Nat.eq_zero_or_pos l.length with h0 | h0
  · have hx : x = [] := List.eq_nil_of_length_eq_zero (by omega)
    have := h1.2.2.1
    rw [hx] at this
    exact absurd this (by decide)
  · exact h0
theorem pair_at' {l : List Stuff} {x : List Int} (h : mixOk l x = true) {k : Nat} {v : Int} (hv : x[k]? = some v) : ∃ s, l[k]? = some s ∧ 0 ≤ v ∧ v ≤ 9 := by
  obtain ⟨p1, p2, p3⟩ := mixOk_parts h
  have hk := (List.getElem?_eq_some_iff.1 hv).1
  have hs := List.getElem?_eq_getElem (l := l) (i := k) (by omega)
  have hb := mix_pair h (List.mem_of_getElem? (zip_get hs hv))
  simp only at hb
  exact ⟨_, hs, by omega, by omega⟩
def midM (l : List Stuff) (k : Nat) : List Stuff := muchS (l.take k) ++ l.drop k
theorem midM_len (l : List Stuff) (k : Nat) : (midM l k).length = l.length := by simp [midM, muchS]; omega
theorem midM_at {l : List Stuff} {k : Nat} {s : Stuff} (h : l[k]? = some s) : (midM l k)[k]? = some s := by
  obtain ⟨hk, rfl⟩ := List.getElem?_eq_some_iff.1 h
  have hl : (muchS (l.take k)).length = k := by simp [muchS]; omega
  rw [midM, List.getElem?_append_right (by omega), hl, Nat.sub_self, List.getElem?_drop, Nat.add_zero, List.getElem?_eq_getElem hk]
theorem midM_succ {l : List Stuff} {k : Nat} {s : Stuff} (h : l[k]? = some s) : (midM l k).set k ⟨s.c, s.m, s.s, s.p, 9⟩ = midM l (k + 1) := by
  obtain ⟨hk, rfl⟩ := List.getElem?_eq_some_iff.1 h
  have hl : (muchS (l.take k)).length = k := by simp [muchS]; omega
  rw [midM, midM, List.set_append_right _ _ (by omega), hl, Nat.sub_self, List.drop_eq_getElem_cons hk, List.set_cons_zero, List.take_succ_eq_append_getElem hk]
  simp only [muchS, List.map_append, List.map_cons, List.map_nil, List.append_assoc, List.cons_append, List.nil_append]
theorem midM_all (l : List Stuff) : midM l l.length = muchS l := by simp [midM]
theorem double_snoc {x : List Int} {k : Nat} {v : Int} (h : x[k]? = some v) : doubleI (x.take (k + 1)) = doubleI (x.take k) ++ [2 * v] := by
  obtain ⟨hk, rfl⟩ := List.getElem?_eq_some_iff.1 h
  rw [List.take_succ_eq_append_getElem hk]
  simp only [doubleI, List.map_append, List.map_cons, List.map_nil]
theorem double_len (x : List Int) : (doubleI x).length = x.length := by simp [doubleI]
theorem much_len (l : List Stuff) : (muchS l).length = l.length := by simp [muchS]
theorem Own.stock_here {w : World} {lo hi n c g k : Nat} {t : TypeId} {L : List Stuff} {s : Stuff} (h : Own w lo hi t 5 (some ⟨g, 0, none⟩) n c (ints (flatS L))) (hL : L.length = n) (hs : L[k]? = some s) :
    w.cell? ⟨g, k * 5 + 4, none⟩ = some (.int .i64 s.k) ∧ w.frozen? ⟨g, k * 5 + 4, none⟩ = false ∧
      ∀ v, Own (w.setCell ⟨g, k * 5 + 4, none⟩ (.int .i64 v)) lo hi t 5 (some ⟨g, 0, none⟩) n c (ints (flatS (L.set k ⟨s.c, s.m, s.s, s.p, v⟩))) := by
  have hk := (List.getElem?_eq_some_iff.1 hs).1
  obtain ⟨g', cs, hA, h1, h2, hn, hm, hB, hsz, hx⟩ := h.block (by omega)
  injection hA with hA
  injection hA with e
  subst e
  subst hL
  have hr := Row5.of_take hx
  refine ⟨?_, hB.frozen _, fun v => ?_⟩
  · rw [hB.cell]; exact (hr k s hs).2.2.2.2
  · refine Own.mk_ h1 h2 hn hm (hB.put _ _) (by simpa using hsz) ?_
    have hp := Row5.put v hr (by rw [hsz]; exact Nat.mul_le_mul_right _ hn) hs
    have := hp.take (by simp only [List.length_set, Array.size_setIfInBounds]; rw [hsz]; exact Nat.mul_le_mul_right _ hn)
    simpa using this
theorem sees_one' (w : World) (t : TypeId) (v : Int) : Sees (w.alloc (.cells #[.int .i64 v] t)) (w.heap.size + 1) (some ⟨w.heap.size, 0, none⟩) (ints [v]) := sees_one w t v
set_option maxRecDepth 100000 in
set_option maxHeartbeats 4000000 in
theorem fnMixMeets_walk (A : Option Addr) (n c : Nat) (l : List Int) (A' : Option Addr) (n' c' : Nat) (l' : List Int) (w : World) (hs : Sees w w.heap.size A (bys l)) (hl : l.length = n) (hby : ∀ z ∈ l, byteB z) (hc : n ≤ c) (hm : c ≤ maxLen) (hs' : Sees w w.heap.size A' (bys l')) (hl' : l'.length = n') (hby' : ∀ z ∈ l', byteB z) (hc' : n' ≤ c') (hm' : c' ≤ maxLen) :
    Calls Tryd.prog 13 #[.slice A n c, .slice A' n' c'] w fun e w' => e = .returned (.bool true) ∧ Below w.heap.size w w' := by
  have hmx := hm
  unfold maxLen at hmx
  have hmy := hm'
  unfold maxLen at hmy
  by_cases hn : n ≤ 1048576
  case neg =>
    go_enter Tryd.func13, Tryd.ntmps13
    go_wp2_with fail
    go_ret
    exact ⟨rfl, Below.refl _ _⟩
  by_cases hn2 : n' ≤ 1048576
  case neg =>
    go_enter Tryd.func13, Tryd.ntmps13
    go_wp2_with fail
    go_ret
    exact ⟨rfl, Below.refl _ _⟩
  obtain ⟨j0, ji, jz0, jz1, jz2⟩ := info_parts infoInt2
  obtain ⟨i0, hi, hz0, hz1, hz2⟩ := info_parts infoStuff2
  have Hby := Lib.hid hby'
  have Hl := Lib.hid hl'
  clear hby' hl'
  go_enter Tryd.func13, Tryd.ntmps13
  go_wp2_with fail
  refine (drawMixMeets_any A n c l _ hs hl hby hc hm).mono ?_
  rintro _ w1 ⟨st, A1, c1, x, A2, c2, ⟨g1, g2, g3, g4, g5, g6⟩, hsm, hlen, hxl, hxs, rfl, hQ, hX, hb⟩
  clear hsm hxs
  have hG := Blk.made w1 30 #[.int .i64 g1, .int .i64 g2, .int .i64 g3, .int .i64 g4, .int .i64 g5, .int .i64 g6]
  replace hQ := own_hi (hQ.alloc (.cells #[.int .i64 g1, .int .i64 g2, .int .i64 g3, .int .i64 g4, .int .i64 g5, .int .i64 g6] 30)) (show w1.heap.size ≤ (w1.alloc (.cells #[.int .i64 g1, .int .i64 g2, .int .i64 g3, .int .i64 g4, .int .i64 g5, .int .i64 g6] 30)).heap.size by simp)
  replace hX := own_hi (hX.alloc (.cells #[.int .i64 g1, .int .i64 g2, .int .i64 g3, .int .i64 g4, .int .i64 g5, .int .i64 g6] 30)) (show w1.heap.size ≤ (w1.alloc (.cells #[.int .i64 g1, .int .i64 g2, .int .i64 g3, .int .i64 g4, .int .i64 g5, .int .i64 g6] 30)).heap.size by simp)
  replace hb := hb.alloc hb.size (.cells #[.int .i64 g1, .int .i64 g2, .int .i64 g3, .int .i64 g4, .int .i64 g5, .int .i64 g6] 30)
  go_wp2_with fail
  generalize w1.alloc _ = W at hG hQ hX hb ⊢
  refine (mixMeets_any _ _ _ _ _ _ _ hQ.sees (by omega) hX.sees (by omega) _ _ _ _ _ _).mono ?_
  rintro _ w2 ⟨rfl, hb1⟩
  replace hQ := own_hi (hQ.below hb1) hb1.size
  replace hX := own_hi (hX.below hb1) hb1.size
  replace hG := hG.below hb1 hG.lt
  replace hb := below_next hb hb1
  clear hb1
  have e_hG := hG.cell
  go_wp2_with fail
  clear e_hG
  refine (sMixMeets_any _ _ _ _ _ _ _ hQ.sees (by omega) hX.sees (by omega) _ _ _ _ _ _).mono ?_
  rintro _ w3 ⟨rfl, hb1⟩
  replace hQ := own_hi (hQ.below hb1) hb1.size
  replace hX := own_hi (hX.below hb1) hb1.size
  replace hG := hG.below hb1 hG.lt
  replace hb := below_next hb hb1
  clear hb1
  cases hM : mixMeets st x ⟨g1, g2, g3, g4, g5, g6⟩ with
  | false =>
    have HM := Lib.hid hM
    clear hM
    go_wp2_with fail
    refine (drawGradeWithin_any A' n' c' l' _ (hs'.next hb) Hl.out Hby.out hc' hm').mono ?_
    rintro _ w4 ⟨⟨p1, p2, p3, p4, p5, p6⟩, ⟨o1, o2, o3, o4, o5, o6⟩, rfl, hb1⟩
    replace hQ := own_hi (hQ.below hb1) hb1.size
    replace hX := own_hi (hX.below hb1) hb1.size
    replace hG := hG.below hb1 hG.lt
    replace hb := below_next hb hb1
    clear hb1
    have hO := Blk.made (w4.alloc (.cells #[.int .i64 p1, .int .i64 p2, .int .i64 p3, .int .i64 p4, .int .i64 p5, .int .i64 p6] 30)) 30 #[.int .i64 o1, .int .i64 o2, .int .i64 o3, .int .i64 o4, .int .i64 o5, .int .i64 o6]
    rw [show (w4.alloc (.cells #[.int .i64 p1, .int .i64 p2, .int .i64 p3, .int .i64 p4, .int .i64 p5, .int .i64 p6] 30)).heap.size = w4.heap.size + 1 by simp] at hO
    replace hQ := own_hi ((hQ.alloc (.cells #[.int .i64 p1, .int .i64 p2, .int .i64 p3, .int .i64 p4, .int .i64 p5, .int .i64 p6] 30)).alloc (.cells #[.int .i64 o1, .int .i64 o2, .int .i64 o3, .int .i64 o4, .int .i64 o5, .int .i64 o6] 30)) (show w4.heap.size ≤ ((w4.alloc (.cells #[.int .i64 p1, .int .i64 p2, .int .i64 p3, .int .i64 p4, .int .i64 p5, .int .i64 p6] 30)).alloc (.cells #[.int .i64 o1, .int .i64 o2, .int .i64 o3, .int .i64 o4, .int .i64 o5, .int .i64 o6] 30)).heap.size by simp; omega)
    replace hX := own_hi ((hX.alloc (.cells #[.int .i64 p1, .int .i64 p2, .int .i64 p3, .int .i64 p4, .int .i64 p5, .int .i64 p6] 30)).alloc (.cells #[.int .i64 o1, .int .i64 o2, .int .i64 o3, .int .i64 o4, .int .i64 o5, .int .i64 o6] 30)) (show w4.heap.size ≤ ((w4.alloc (.cells #[.int .i64 p1, .int .i64 p2, .int .i64 p3, .int .i64 p4, .int .i64 p5, .int .i64 p6] 30)).alloc (.cells #[.int .i64 o1, .int .i64 o2, .int .i64 o3, .int .i64 o4, .int .i64 o5, .int .i64 o6] 30)).heap.size by simp; omega)
    replace hG := (hG.alloc (.cells #[.int .i64 p1, .int .i64 p2, .int .i64 p3, .int .i64 p4, .int .i64 p5, .int .i64 p6] 30)).alloc (.cells #[.int .i64 o1, .int .i64 o2, .int .i64 o3, .int .i64 o4, .int .i64 o5, .int .i64 o6] 30)
    replace hb := (hb.alloc hb.size (.cells #[.int .i64 p1, .int .i64 p2, .int .i64 p3, .int .i64 p4, .int .i64 p5, .int .i64 p6] 30)).alloc (Nat.le_trans hb.size (by simp)) (.cells #[.int .i64 o1, .int .i64 o2, .int .i64 o3, .int .i64 o4, .int .i64 o5, .int .i64 o6] 30)
    have e_hG := hG.cell
    go_wp2_with fail
    clear e_hG
    generalize (w4.alloc _).alloc _ = V at hG hO hQ hX hb ⊢
    refine (gradeMeet_any _ _ _ _ _ _ _ _ _ _ _ _ _).mono ?_
    rintro _ w5 ⟨rfl, hb1⟩
    replace hQ := own_hi (hQ.below hb1) hb1.size
    replace hX := own_hi (hX.below hb1) hb1.size
    replace hG := hG.below hb1 hG.lt
    replace hO := hO.below hb1 hO.lt
    replace hb := below_next hb hb1
    clear hb1
    have hmm := fun (h : meetOk ⟨g1, g2, g3, g4, g5, g6⟩ ⟨o1, o2, o3, o4, o5, o6⟩ = true) => meets_meet (l := st) (x := x) h
    generalize meetG ⟨g1, g2, g3, g4, g5, g6⟩ ⟨o1, o2, o3, o4, o5, o6⟩ = m at hmm ⊢
    obtain ⟨m1, m2, m3, m4, m5, m6⟩ := m
    rw [HM.out] at hmm
    generalize meetOk ⟨g1, g2, g3, g4, g5, g6⟩ ⟨o1, o2, o3, o4, o5, o6⟩ = mo at hmm ⊢
    have Hmm := Lib.hid hmm
    clear hmm
    have hT := Blk.made w5 30 #[.int .i64 m1, .int .i64 m2, .int .i64 m3, .int .i64 m4, .int .i64 m5, .int .i64 m6]
    replace hQ := own_hi (hQ.alloc (.cells #[.int .i64 m1, .int .i64 m2, .int .i64 m3, .int .i64 m4, .int .i64 m5, .int .i64 m6] 30)) (show w5.heap.size ≤ (w5.alloc (.cells #[.int .i64 m1, .int .i64 m2, .int .i64 m3, .int .i64 m4, .int .i64 m5, .int .i64 m6] 30)).heap.size by simp)
    replace hX := own_hi (hX.alloc (.cells #[.int .i64 m1, .int .i64 m2, .int .i64 m3, .int .i64 m4, .int .i64 m5, .int .i64 m6] 30)) (show w5.heap.size ≤ (w5.alloc (.cells #[.int .i64 m1, .int .i64 m2, .int .i64 m3, .int .i64 m4, .int .i64 m5, .int .i64 m6] 30)).heap.size by simp)
    replace hG := hG.alloc (.cells #[.int .i64 m1, .int .i64 m2, .int .i64 m3, .int .i64 m4, .int .i64 m5, .int .i64 m6] 30)
    replace hO := hO.alloc (.cells #[.int .i64 m1, .int .i64 m2, .int .i64 m3, .int .i64 m4, .int .i64 m5, .int .i64 m6] 30)
    replace hb := hb.alloc hb.size (.cells #[.int .i64 m1, .int .i64 m2, .int .i64 m3, .int .i64 m4, .int .i64 m5, .int .i64 m6] 30)
    go_upto_region 9 with (fail)
    generalize w5.alloc _ = V2 at hG hO hT hQ hX hb ⊢
    cases mo with
    | false =>
      go_wp2_with fail
      refine (alive_any _).mono ?_
      rintro _ w9 ⟨rfl, hb1⟩
      go_wp2_with fail
      go_ret
      exact ⟨rfl, below_next hb hb1⟩
    | true =>
      have e_hT := hT.cell
      go_wp2_with fail
      clear e_hT
      refine (mixMeets_any _ _ _ _ _ _ _ hQ.sees (by omega) hX.sees (by omega) _ _ _ _ _ _).mono ?_
      rintro _ w6 ⟨rfl, hb1⟩
      rw [Hmm.out (by trivial), Bool.false_and]
      replace hQ := own_hi (hQ.below hb1) hb1.size
      replace hX := own_hi (hX.below hb1) hb1.size
      replace hG := hG.below hb1 hG.lt
      replace hO := hO.below hb1 hO.lt
      replace hT := hT.below hb1 hT.lt
      replace hb := below_next hb hb1
      clear hb1
      go_wp2_with fail
      refine (alive_any _).mono ?_
      rintro _ w9 ⟨rfl, hb1⟩
      go_wp2_with fail
      go_ret
      exact ⟨rfl, below_next hb hb1⟩
  | true =>
    obtain ⟨hok, hpos⟩ := meetsG hM
    have hwide := meets_wide hM
    have hdbl := fun h => meets_double hM h
    have hxl2 := mixOk_len hok
    simp only at hwide
    have Hok := Lib.hid hok
    have Hwide := Lib.hid hwide
    have Hdbl := Lib.hid hdbl
    have Hxl2 := Lib.hid hxl2
    clear hok hwide hdbl hxl2
    have HM := Lib.hid hM
    clear hM
    go_wp2_with fail
    refine (drawGradeWithin_any A' n' c' l' _ (hs'.next hb) Hl.out Hby.out hc' hm').mono ?_
    rintro _ w4 ⟨⟨p1, p2, p3, p4, p5, p6⟩, ⟨o1, o2, o3, o4, o5, o6⟩, rfl, hb1⟩
    replace hQ := own_hi (hQ.below hb1) hb1.size
    replace hX := own_hi (hX.below hb1) hb1.size
    replace hG := hG.below hb1 hG.lt
    replace hb := below_next hb hb1
    clear hb1
    have hO := Blk.made (w4.alloc (.cells #[.int .i64 p1, .int .i64 p2, .int .i64 p3, .int .i64 p4, .int .i64 p5, .int .i64 p6] 30)) 30 #[.int .i64 o1, .int .i64 o2, .int .i64 o3, .int .i64 o4, .int .i64 o5, .int .i64 o6]
    rw [show (w4.alloc (.cells #[.int .i64 p1, .int .i64 p2, .int .i64 p3, .int .i64 p4, .int .i64 p5, .int .i64 p6] 30)).heap.size = w4.heap.size + 1 by simp] at hO
    replace hQ := own_hi ((hQ.alloc (.cells #[.int .i64 p1, .int .i64 p2, .int .i64 p3, .int .i64 p4, .int .i64 p5, .int .i64 p6] 30)).alloc (.cells #[.int .i64 o1, .int .i64 o2, .int .i64 o3, .int .i64 o4, .int .i64 o5, .int .i64 o6] 30)) (show w4.heap.size ≤ ((w4.alloc (.cells #[.int .i64 p1, .int .i64 p2, .int .i64 p3, .int .i64 p4, .int .i64 p5, .int .i64 p6] 30)).alloc (.cells #[.int .i64 o1, .int .i64 o2, .int .i64 o3, .int .i64 o4, .int .i64 o5, .int .i64 o6] 30)).heap.size by simp; omega)
    replace hX := own_hi ((hX.alloc (.cells #[.int .i64 p1, .int .i64 p2, .int .i64 p3, .int .i64 p4, .int .i64 p5, .int .i64 p6] 30)).alloc (.cells #[.int .i64 o1, .int .i64 o2, .int .i64 o3, .int .i64 o4, .int .i64 o5, .int .i64 o6] 30)) (show w4.heap.size ≤ ((w4.alloc (.cells #[.int .i64 p1, .int .i64 p2, .int .i64 p3, .int .i64 p4, .int .i64 p5, .int .i64 p6] 30)).alloc (.cells #[.int .i64 o1, .int .i64 o2, .int .i64 o3, .int .i64 o4, .int .i64 o5, .int .i64 o6] 30)).heap.size by simp; omega)
    replace hG := (hG.alloc (.cells #[.int .i64 p1, .int .i64 p2, .int .i64 p3, .int .i64 p4, .int .i64 p5, .int .i64 p6] 30)).alloc (.cells #[.int .i64 o1, .int .i64 o2, .int .i64 o3, .int .i64 o4, .int .i64 o5, .int .i64 o6] 30)
    replace hb := (hb.alloc hb.size (.cells #[.int .i64 p1, .int .i64 p2, .int .i64 p3, .int .i64 p4, .int .i64 p5, .int .i64 p6] 30)).alloc (Nat.le_trans hb.size (by simp)) (.cells #[.int .i64 o1, .int .i64 o2, .int .i64 o3, .int .i64 o4, .int .i64 o5, .int .i64 o6] 30)
    have e_hG := hG.cell
    go_wp2_with fail
    clear e_hG
    generalize (w4.alloc _).alloc _ = V at hG hO hQ hX hb ⊢
    refine (gradeMeet_any _ _ _ _ _ _ _ _ _ _ _ _ _).mono ?_
    rintro _ w5 ⟨rfl, hb1⟩
    replace hQ := own_hi (hQ.below hb1) hb1.size
    replace hX := own_hi (hX.below hb1) hb1.size
    replace hG := hG.below hb1 hG.lt
    replace hO := hO.below hb1 hO.lt
    replace hb := below_next hb hb1
    clear hb1
    have hmm := fun (h : meetOk ⟨g1, g2, g3, g4, g5, g6⟩ ⟨o1, o2, o3, o4, o5, o6⟩ = true) => meets_meet (l := st) (x := x) h
    generalize meetG ⟨g1, g2, g3, g4, g5, g6⟩ ⟨o1, o2, o3, o4, o5, o6⟩ = m at hmm ⊢
    obtain ⟨m1, m2, m3, m4, m5, m6⟩ := m
    rw [HM.out] at hmm
    generalize meetOk ⟨g1, g2, g3, g4, g5, g6⟩ ⟨o1, o2, o3, o4, o5, o6⟩ = mo at hmm ⊢
    have Hmm := Lib.hid hmm
    clear hmm
    have hT := Blk.made w5 30 #[.int .i64 m1, .int .i64 m2, .int .i64 m3, .int .i64 m4, .int .i64 m5, .int .i64 m6]
    replace hQ := own_hi (hQ.alloc (.cells #[.int .i64 m1, .int .i64 m2, .int .i64 m3, .int .i64 m4, .int .i64 m5, .int .i64 m6] 30)) (show w5.heap.size ≤ (w5.alloc (.cells #[.int .i64 m1, .int .i64 m2, .int .i64 m3, .int .i64 m4, .int .i64 m5, .int .i64 m6] 30)).heap.size by simp)
    replace hX := own_hi (hX.alloc (.cells #[.int .i64 m1, .int .i64 m2, .int .i64 m3, .int .i64 m4, .int .i64 m5, .int .i64 m6] 30)) (show w5.heap.size ≤ (w5.alloc (.cells #[.int .i64 m1, .int .i64 m2, .int .i64 m3, .int .i64 m4, .int .i64 m5, .int .i64 m6] 30)).heap.size by simp)
    replace hG := hG.alloc (.cells #[.int .i64 m1, .int .i64 m2, .int .i64 m3, .int .i64 m4, .int .i64 m5, .int .i64 m6] 30)
    replace hO := hO.alloc (.cells #[.int .i64 m1, .int .i64 m2, .int .i64 m3, .int .i64 m4, .int .i64 m5, .int .i64 m6] 30)
    replace hb := hb.alloc hb.size (.cells #[.int .i64 m1, .int .i64 m2, .int .i64 m3, .int .i64 m4, .int .i64 m5, .int .i64 m6] 30)
    go_upto_region 9 with (fail)
    generalize w5.alloc _ = V2 at hG hO hT hQ hX hb ⊢
    cases mo with
    | false =>
      have e_hG := hG.cell
      have lG := hG.lt
      have lW := hb.size
      have hK := Blk.made V2 30 #[.int .i64 g1, .int .i64 g2, .int .i64 g3, .int .i64 g4, .int .i64 g5, .int .i64 g6]
      replace hQ := hQ.alloc (.cells #[.int .i64 g1, .int .i64 g2, .int .i64 g3, .int .i64 g4, .int .i64 g5, .int .i64 g6] 30)
      replace hX := hX.alloc (.cells #[.int .i64 g1, .int .i64 g2, .int .i64 g3, .int .i64 g4, .int .i64 g5, .int .i64 g6] 30)
      replace hG := hG.alloc (.cells #[.int .i64 g1, .int .i64 g2, .int .i64 g3, .int .i64 g4, .int .i64 g5, .int .i64 g6] 30)
      replace hb := hb.alloc lW (.cells #[.int .i64 g1, .int .i64 g2, .int .i64 g3, .int .i64 g4, .int .i64 g5, .int .i64 g6] 30)
      go_upto_region 14 with (fail)
      try clear e_hG
      generalize V2.alloc _ = V4 at hK hG hQ hX hb ⊢
      have e_hK := hK.cell
      have f_hK := hK.frozen
      go_upto_region 16 with (fail)
      clear e_hK f_hK
      replace hK : Blk ((V4.setCell ⟨V2.heap.size, 0, none⟩ (.int .i64 0)).setCell ⟨V2.heap.size, 3, none⟩ (.int .i64 999)) V2.heap.size 30 #[.int .i64 0, .int .i64 g2, .int .i64 g3, .int .i64 999, .int .i64 g5, .int .i64 g6] := by simpa using (hK.put 0 (.int .i64 0)).put 3 (.int .i64 999)
      replace hQ := (hQ.setCell (p := ⟨V2.heap.size, 0, none⟩) (.inr (Nat.le_refl _)) (.int .i64 0)).setCell (p := ⟨V2.heap.size, 3, none⟩) (.inr (Nat.le_refl _)) (.int .i64 999)
      replace hX := (hX.setCell (p := ⟨V2.heap.size, 0, none⟩) (.inr (Nat.le_refl _)) (.int .i64 0)).setCell (p := ⟨V2.heap.size, 3, none⟩) (.inr (Nat.le_refl _)) (.int .i64 999)
      replace hG := (hG.other (p := ⟨V2.heap.size, 0, none⟩) (by show w1.heap.size ≠ V2.heap.size; omega) (.int .i64 0)).other (p := ⟨V2.heap.size, 3, none⟩) (by show w1.heap.size ≠ V2.heap.size; omega) (.int .i64 999)
      replace hb := (hb.setCell (p := ⟨V2.heap.size, 0, none⟩) lW (.int .i64 0)).setCell (p := ⟨V2.heap.size, 3, none⟩) lW (.int .i64 999)
      generalize (V4.setCell _ _).setCell _ _ = V5 at hK hG hQ hX hb ⊢
      have lK := hK.lt
      have hS := hQ.sees
      have hY0 : Own ((V5.alloc (.cells #[] 3)).alloc (.cells #[] 24)) (V5.heap.size + 1) (V5.heap.size + 1 + 1) 24 5 (some ⟨V5.heap.size + 1, 0, none⟩) 0 0 [] := by
        have := own_made (V5.alloc (.cells #[] 3)) 24 5
        simpa using this
      go_wp2_with (at_builtin; refine wpList_app1 _ rfl (.tmp 74) (.tmp 75) _ rfl 24 i0 _ 5 40 Tryd.underlying41 hi hz0 hz1 hz2 rfl (by omega) rfl hY0 (by simp) rfl (hS.below (((Below.refl _ _).alloc (Nat.le_refl _) _).alloc (by simp) _)) (by rw [ints_length, flatS_length]) (one_ints _) hpos (by omega) (by omega) ?_; intro gm cm w6 hM hor hlt6 hon; replace hM := own_zero' hM; rw [Nat.zero_add])
      clear hY0
      have hgm : V5.heap.size < gm := by rcases hor with h | h <;> first | omega | (simp at h; omega)
      have hD0 : Own w6 V5.heap.size (V5.heap.size + 1) 3 1 (some ⟨V5.heap.size, 0, none⟩) 0 0 [] := ((own_made V5 3 1).alloc _).only hon (.inl (Nat.le_refl _))
      have hb6 : Below V5.heap.size V5 w6 := below_only (((Below.refl _ _).alloc (Nat.le_refl _) (.cells #[] 3)).alloc (by simp) (.cells #[] 24)) hon (by omega) (Nat.le_refl _)
      have hz6 : V5.heap.size < w6.heap.size := by have := hon.size; simp at this; omega
      go_loopw [14, 16] (fun t14 i wr => ∃ (k gd cd : Nat), k ≤ x.length ∧ i = .int .i64 k ∧ t14 = .slice (some ⟨gd, 0, none⟩) k cd ∧ Own wr gd (gd + 1) 3 1 (some ⟨gd, 0, none⟩) k cd (ints (doubleI (x.take k))) ∧ V5.heap.size ≤ gd ∧ gd ≠ gm ∧ gd < wr.heap.size ∧ Own wr gm (gm + 1) 24 5 (some ⟨gm, 0, none⟩) st.length cm (ints (flatS (midM st k))) ∧ gm < wr.heap.size ∧ Below V5.heap.size V5 wr) (fun _ i _ => x.length - (intOf i).toNat)
      case atStart => exact ⟨0, V5.heap.size, 0, Nat.zero_le _, rfl, rfl, by simpa [doubleI, ints] using hD0, Nat.le_refl _, by omega, hz6, by simpa [midM, muchS] using hM, hlt6, hb6⟩
      case round =>
        clear hD0 hb6 hz6 hM hlt6 hon hor
        obtain ⟨k, gd, cd, hk, rfl, rfl, hD, hd1, hd2, hd3, hM, hm1, hbr⟩ := hrel
        by_cases hlt : k < x.length
        · obtain ⟨b, off, v, rfl, hbB, hx, c0⟩ := (hX.sees.below hbr).int_at hlt
          obtain ⟨s, hs1, hv0, hv9⟩ := pair_at' Hok.out hx
          have hsn := double_snoc hx
          have hma := midM_at hs1
          have hmu := midM_succ hs1
          have Hsn := Lib.hid hsn
          have Hma := Lib.hid hma
          have Hmu := Lib.hid hmu
          have hkl := (List.getElem?_eq_some_iff.1 hs1).1
          clear hx hs1 hsn hma hmu
          have hdm : gm + 1 ≤ gd ∨ gd + 1 ≤ gm := by omega
          go_wp2_with (at_builtin; refine wpList_app1 _ rfl (.tmp 83) (.tmp 89) _ rfl 3 j0 _ 1 8 Tryd.underlying33 ji jz0 jz1 jz2 rfl (by omega) rfl (hD.alloc _) (by simp; omega) rfl (sees_one _ _ _) (by simp [ints]) (one_ints _) (by omega) (by omega) (by omega) ?_; intro gd2 cd2 w7 hD2 hor2 hlt7 hon2; have hM2 := (hM.alloc (.cells #[.int .i64 (2 * v)] 3)).only hon2 hdm; have hh := hM2.stock_here (midM_len _ _) Hma.out; have c6 := hh.1; have f6 := hh.2.1)
          have hgd2 : gd2 ≠ gm ∧ V5.heap.size ≤ gd2 := by
            have := hbr.size
            rcases hor2 with h | h <;> first | omega | (simp at h; omega)
          have hb7 := (below_only (hbr.alloc hbr.size (.cells #[.int .i64 (2 * v)] 3)) hon2 hd1 (Nat.le_refl _)).setCell (p := ⟨gm, k * 5 + 4, none⟩) (by show V5.heap.size ≤ gm; omega) (.int .i64 9)
          have hM3 := hh.2.2 9
          rw [Hmu.out] at hM3
          go_roundw
          case rel =>
            refine ⟨k + 1, gd2, cd2, by omega, by go_num, rfl, ?_, hgd2.2, hgd2.1, by simpa using hlt7, hM3, ?_, hb7⟩
            · have := hD2.setCell (p := ⟨gm, k * 5 + 4, none⟩) (by show gm < gd2 ∨ gd2 + 1 ≤ gm; omega) (.int .i64 9)
              rw [Hsn.out, ints_append]
              exact this
            · have := hon2.size
              simp at this ⊢
              omega
          case measure => simp [intOf]; omega
        · have hkl : k = x.length := by omega
          subst hkl
          rw [List.take_of_length_le (Nat.le_refl _)] at hD
          rw [Hxl2.out, midM_all] at hM
          have hQ9 := hQ.sees.next hbr
          have hX9 := hX.sees.next hbr
          have hG9 := hG.below hbr hG.lt
          have hK9 := hK.below hbr hK.lt
          replace hb := below_next hb hbr
          clear hQ hX hG hK hbr
          have c13 := hK9.cell
          go_wp2_with fail
          clear c13
          refine (mixMeets_any A1 A2 c1 c2 st x wr hQ9 (by omega) hX9 (by omega) 0 g2 g3 999 g5 g6).mono ?_
          rintro _ w8 ⟨rfl, hb1⟩
          rw [Hwide.out]
          have hcall := mixValid_any (some ⟨gm, 0, none⟩) (some ⟨gd, 0, none⟩) cm cd (muchS st) (doubleI x) w8 (hM.below hb1).sees (by rw [much_len]; omega) (hD.below hb1).sees (by rw [double_len]; omega)
          simp only [much_len, double_len] at hcall
          have hG8 := hG9.below hb1 hG9.lt
          have hM8 := hM.below hb1
          have hD8 := hD.below hb1
          replace hb := below_next hb hb1
          go_wp2_with fail
          refine hcall.mono ?_
          rintro _ w9 ⟨rfl, hb1⟩
          clear hcall
          cases hdv : mixOk (muchS st) (doubleI x) with
          | false =>
            go_wp2_with fail
            go_ret
            exact ⟨rfl, below_next hb hb1⟩
          | true =>
            have hcall := mixMeets_any (some ⟨gm, 0, none⟩) (some ⟨gd, 0, none⟩) cm cd (muchS st) (doubleI x) w9 (hM8.below hb1).sees (by rw [much_len]; omega) (hD8.below hb1).sees (by rw [double_len]; omega) g1 g2 g3 g4 g5 g6
            rw [Hdbl.out hdv] at hcall
            simp only [much_len, double_len] at hcall
            have hG7 := hG8.below hb1 hG8.lt
            replace hb := below_next hb hb1
            clear hdv
            have c7 := hG7.cell
            go_wp2_with fail
            refine hcall.mono ?_
            rintro _ w10 ⟨rfl, hb1⟩
            go_wp2_with fail
            go_ret
            exact ⟨rfl, below_next hb hb1⟩
    | true =>
      have e_hT := hT.cell
      go_wp2_with fail
      clear e_hT
      refine (mixMeets_any _ _ _ _ _ _ _ hQ.sees (by omega) hX.sees (by omega) _ _ _ _ _ _).mono ?_
      rintro _ w6 ⟨rfl, hb1⟩
      rw [Hmm.out (by trivial), Bool.true_and]
      replace hQ := own_hi (hQ.below hb1) hb1.size
      replace hX := own_hi (hX.below hb1) hb1.size
      replace hG := hG.below hb1 hG.lt
      replace hO := hO.below hb1 hO.lt
      replace hT := hT.below hb1 hT.lt
      replace hb := below_next hb hb1
      clear hb1
      have e_hO := hO.cell
      go_wp2_with fail
      clear e_hO
      refine (mixMeets_any _ _ _ _ _ _ _ hQ.sees (by omega) hX.sees (by omega) _ _ _ _ _ _).mono ?_
      rintro _ w7 ⟨rfl, hb1⟩
      replace hQ := own_hi (hQ.below hb1) hb1.size
      replace hX := own_hi (hX.below hb1) hb1.size
      replace hG := hG.below hb1 hG.lt
      replace hO := hO.below hb1 hO.lt
      replace hT := hT.below hb1 hT.lt
      replace hb := below_next hb hb1
      clear hb1
      generalize mixMeets st x ⟨o1, o2, o3, o4, o5, o6⟩ = ob
      cases ob
      all_goals
        have e_hG := hG.cell
        have lG := hG.lt
        have lW := hb.size
        have hK := Blk.made w7 30 #[.int .i64 g1, .int .i64 g2, .int .i64 g3, .int .i64 g4, .int .i64 g5, .int .i64 g6]
        replace hQ := hQ.alloc (.cells #[.int .i64 g1, .int .i64 g2, .int .i64 g3, .int .i64 g4, .int .i64 g5, .int .i64 g6] 30)
        replace hX := hX.alloc (.cells #[.int .i64 g1, .int .i64 g2, .int .i64 g3, .int .i64 g4, .int .i64 g5, .int .i64 g6] 30)
        replace hG := hG.alloc (.cells #[.int .i64 g1, .int .i64 g2, .int .i64 g3, .int .i64 g4, .int .i64 g5, .int .i64 g6] 30)
        replace hb := hb.alloc lW (.cells #[.int .i64 g1, .int .i64 g2, .int .i64 g3, .int .i64 g4, .int .i64 g5, .int .i64 g6] 30)
        go_upto_region 14 with (fail)
        try clear e_hG
        generalize w7.alloc _ = V4 at hK hG hQ hX hb ⊢
        have e_hK := hK.cell
        have f_hK := hK.frozen
        go_upto_region 16 with (fail)
        clear e_hK f_hK
        replace hK : Blk ((V4.setCell ⟨w7.heap.size, 0, none⟩ (.int .i64 0)).setCell ⟨w7.heap.size, 3, none⟩ (.int .i64 999)) w7.heap.size 30 #[.int .i64 0, .int .i64 g2, .int .i64 g3, .int .i64 999, .int .i64 g5, .int .i64 g6] := by simpa using (hK.put 0 (.int .i64 0)).put 3 (.int .i64 999)
        replace hQ := (hQ.setCell (p := ⟨w7.heap.size, 0, none⟩) (.inr (Nat.le_refl _)) (.int .i64 0)).setCell (p := ⟨w7.heap.size, 3, none⟩) (.inr (Nat.le_refl _)) (.int .i64 999)
        replace hX := (hX.setCell (p := ⟨w7.heap.size, 0, none⟩) (.inr (Nat.le_refl _)) (.int .i64 0)).setCell (p := ⟨w7.heap.size, 3, none⟩) (.inr (Nat.le_refl _)) (.int .i64 999)
        replace hG := (hG.other (p := ⟨w7.heap.size, 0, none⟩) (by show w1.heap.size ≠ w7.heap.size; omega) (.int .i64 0)).other (p := ⟨w7.heap.size, 3, none⟩) (by show w1.heap.size ≠ w7.heap.size; omega) (.int .i64 999)
        replace hb := (hb.setCell (p := ⟨w7.heap.size, 0, none⟩) lW (.int .i64 0)).setCell (p := ⟨w7.heap.size, 3, none⟩) lW (.int .i64 999)
        generalize (V4.setCell _ _).setCell _ _ = V5 at hK hG hQ hX hb ⊢
        have lK := hK.lt
        have hS := hQ.sees
        have hY0 : Own ((V5.alloc (.cells #[] 3)).alloc (.cells #[] 24)) (V5.heap.size + 1) (V5.heap.size + 1 + 1) 24 5 (some ⟨V5.heap.size + 1, 0, none⟩) 0 0 [] := by
          have := own_made (V5.alloc (.cells #[] 3)) 24 5
          simpa using this
        go_wp2_with (at_builtin; refine wpList_app1 _ rfl (.tmp 74) (.tmp 75) _ rfl 24 i0 _ 5 40 Tryd.underlying41 hi hz0 hz1 hz2 rfl (by omega) rfl hY0 (by simp) rfl (hS.below (((Below.refl _ _).alloc (Nat.le_refl _) _).alloc (by simp) _)) (by rw [ints_length, flatS_length]) (one_ints _) hpos (by omega) (by omega) ?_; intro gm cm w6 hM hor hlt6 hon; replace hM := own_zero' hM; rw [Nat.zero_add])
        clear hY0
        have hgm : V5.heap.size < gm := by rcases hor with h | h <;> first | omega | (simp at h; omega)
        have hD0 : Own w6 V5.heap.size (V5.heap.size + 1) 3 1 (some ⟨V5.heap.size, 0, none⟩) 0 0 [] := ((own_made V5 3 1).alloc _).only hon (.inl (Nat.le_refl _))
        have hb6 : Below V5.heap.size V5 w6 := below_only (((Below.refl _ _).alloc (Nat.le_refl _) (.cells #[] 3)).alloc (by simp) (.cells #[] 24)) hon (by omega) (Nat.le_refl _)
        have hz6 : V5.heap.size < w6.heap.size := by have := hon.size; simp at this; omega
        go_loopw [14, 16] (fun t14 i wr => ∃ (k gd cd : Nat), k ≤ x.length ∧ i = .int .i64 k ∧ t14 = .slice (some ⟨gd, 0, none⟩) k cd ∧ Own wr gd (gd + 1) 3 1 (some ⟨gd, 0, none⟩) k cd (ints (doubleI (x.take k))) ∧ V5.heap.size ≤ gd ∧ gd ≠ gm ∧ gd < wr.heap.size ∧ Own wr gm (gm + 1) 24 5 (some ⟨gm, 0, none⟩) st.length cm (ints (flatS (midM st k))) ∧ gm < wr.heap.size ∧ Below V5.heap.size V5 wr) (fun _ i _ => x.length - (intOf i).toNat)
        case atStart => exact ⟨0, V5.heap.size, 0, Nat.zero_le _, rfl, rfl, by simpa [doubleI, ints] using hD0, Nat.le_refl _, by omega, hz6, by simpa [midM, muchS] using hM, hlt6, hb6⟩
        case round =>
          clear hD0 hb6 hz6 hM hlt6 hon hor
          obtain ⟨k, gd, cd, hk, rfl, rfl, hD, hd1, hd2, hd3, hM, hm1, hbr⟩ := hrel
          by_cases hlt : k < x.length
          · obtain ⟨b, off, v, rfl, hbB, hx, c0⟩ := (hX.sees.below hbr).int_at hlt
            obtain ⟨s, hs1, hv0, hv9⟩ := pair_at' Hok.out hx
            have hsn := double_snoc hx
            have hma := midM_at hs1
            have hmu := midM_succ hs1
            have Hsn := Lib.hid hsn
            have Hma := Lib.hid hma
            have Hmu := Lib.hid hmu
            have hkl := (List.getElem?_eq_some_iff.1 hs1).1
            clear hx hs1 hsn hma hmu
            have hdm : gm + 1 ≤ gd ∨ gd + 1 ≤ gm := by omega
            go_wp2_with (at_builtin; refine wpList_app1 _ rfl (.tmp 83) (.tmp 89) _ rfl 3 j0 _ 1 8 Tryd.underlying33 ji jz0 jz1 jz2 rfl (by omega) rfl (hD.alloc _) (by simp; omega) rfl (sees_one _ _ _) (by simp [ints]) (one_ints _) (by omega) (by omega) (by omega) ?_; intro gd2 cd2 w7 hD2 hor2 hlt7 hon2; have hM2 := (hM.alloc (.cells #[.int .i64 (2 * v)] 3)).only hon2 hdm; have hh := hM2.stock_here (midM_len _ _) Hma.out; have c6 := hh.1; have f6 := hh.2.1)
            have hgd2 : gd2 ≠ gm ∧ V5.heap.size ≤ gd2 := by
              have := hbr.size
              rcases hor2 with h | h <;> first | omega | (simp at h; omega)
            have hb7 := (below_only (hbr.alloc hbr.size (.cells #[.int .i64 (2 * v)] 3)) hon2 hd1 (Nat.le_refl _)).setCell (p := ⟨gm, k * 5 + 4, none⟩) (by show V5.heap.size ≤ gm; omega) (.int .i64 9)
            have hM3 := hh.2.2 9
            rw [Hmu.out] at hM3
            go_roundw
            case rel =>
              refine ⟨k + 1, gd2, cd2, by omega, by go_num, rfl, ?_, hgd2.2, hgd2.1, by simpa using hlt7, hM3, ?_, hb7⟩
              · have := hD2.setCell (p := ⟨gm, k * 5 + 4, none⟩) (by show gm < gd2 ∨ gd2 + 1 ≤ gm; omega) (.int .i64 9)
                rw [Hsn.out, ints_append]
                exact this
              · have := hon2.size
                simp at this ⊢
                omega
            case measure => simp [intOf]; omega
          · have hkl : k = x.length := by omega
            subst hkl
            rw [List.take_of_length_le (Nat.le_refl _)] at hD
            rw [Hxl2.out, midM_all] at hM
            have hQ9 := hQ.sees.next hbr
            have hX9 := hX.sees.next hbr
            have hG9 := hG.below hbr hG.lt
            have hK9 := hK.below hbr hK.lt
            replace hb := below_next hb hbr
            clear hQ hX hG hK hbr
            have c13 := hK9.cell
            go_wp2_with fail
            clear c13
            refine (mixMeets_any A1 A2 c1 c2 st x wr hQ9 (by omega) hX9 (by omega) 0 g2 g3 999 g5 g6).mono ?_
            rintro _ w8 ⟨rfl, hb1⟩
            rw [Hwide.out]
            have hcall := mixValid_any (some ⟨gm, 0, none⟩) (some ⟨gd, 0, none⟩) cm cd (muchS st) (doubleI x) w8 (hM.below hb1).sees (by rw [much_len]; omega) (hD.below hb1).sees (by rw [double_len]; omega)
            simp only [much_len, double_len] at hcall
            have hG8 := hG9.below hb1 hG9.lt
            have hM8 := hM.below hb1
            have hD8 := hD.below hb1
            replace hb := below_next hb hb1
            go_wp2_with fail
            refine hcall.mono ?_
            rintro _ w9 ⟨rfl, hb1⟩
            clear hcall
            cases hdv : mixOk (muchS st) (doubleI x) with
            | false =>
              go_wp2_with fail
              go_ret
              exact ⟨rfl, below_next hb hb1⟩
            | true =>
              have hcall := mixMeets_any (some ⟨gm, 0, none⟩) (some ⟨gd, 0, none⟩) cm cd (muchS st) (doubleI x) w9 (hM8.below hb1).sees (by rw [much_len]; omega) (hD8.below hb1).sees (by rw [double_len]; omega) g1 g2 g3 g4 g5 g6
              rw [Hdbl.out hdv] at hcall
              simp only [much_len, double_len] at hcall
              have hG7 := hG8.below hb1 hG8.lt
              replace hb := below_next hb hb1
              clear hdv
              have c7 := hG7.cell
              go_wp2_with fail
              refine hcall.mono ?_
              rintro _ w10 ⟨rfl, hb1⟩
              go_wp2_with fail
              go_ret
              exact ⟨rfl, below_next hb hb1⟩
end Go.Proofs.YtdfbkldppblefaaDoor
