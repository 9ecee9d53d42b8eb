/-
  The walk of the law FnMixValid.
-/
import Derived.Test.YtdfbkldppblefaaDoorDu
import Derived.Test.YtdfbkldppblefaaDoorPn
import Derived.Test.YtdfbkldppblefaaDoorLat
namespace Go.Proofs.YtdfbkldppblefaaDoor
open Go.RowKit
set_option linter.unusedVariables false
theorem Own.num_at' {w : World} {lo hi n c : Nat} {t : TypeId} {A : Option Addr} {l : List Int} {k : Nat} {x : Int} (h : Own w lo hi t 1 A n c (ints l)) (hx : l[k]? = some x) :
    ∃ g, A = some ⟨g, 0, none⟩ ∧ lo ≤ g ∧ g < hi ∧ g < w.heap.size ∧ w.cell? ⟨g, k, none⟩ = some (.int .i64 x) ∧ w.frozen? ⟨g, k, none⟩ = false ∧
      ∀ v, Own (w.setCell ⟨g, k, none⟩ (.int .i64 v)) lo (w.setCell ⟨g, k, none⟩ (.int .i64 v)).heap.size t 1 (some ⟨g, 0, none⟩) n c (ints (l.set k v)) := by
  have hk := (List.getElem?_eq_some_iff.1 hx).1
  have hln : l.length = n := by
    have := h.1.1
    rw [ints_length] at this
    omega
  obtain ⟨g, cs, rfl, _⟩ := h.block (by omega)
  obtain ⟨r1, r2, r3, r4, r5, r6⟩ := h.num_here hx
  refine ⟨g, rfl, r1, r2, r3, r4, r5, fun v => ?_⟩
  have h6 := r6 v
  exact ⟨h6.1, fun g' hg' => by simp [Value.ownBlock] at hg'; simpa [hg'] using r3⟩
theorem cost_bounds {l : List Stuff} {x : List Int} (h : mixOk l x = true) : 0 ≤ mixCost l x ∧ mixCost l x ≤ 3564 := by
  have h1 := sumF_bounds (f := fun p : Stuff × Int => p.2 * p.1.p) (M := 891) (by omega) (l := l.zip x) fun p hp => by
    have hb := mix_pair h hp
    have := mul_bounds (a := p.2) (b := p.1.p) (A := 9) (B := 99) (by omega) (by omega) (by omega) (by omega)
    omega
  have h2 := zip_len h
  simp only [mixCost, h, if_true]
  rw [costOf_sum h]
  omega
theorem cost_bad {l : List Stuff} {x : List Int} (h : mixOk l x = false) : mixCost l x = -1 := by simp [mixCost, h]
theorem pair_at {l : List Stuff} {x : List Int} (h : mixOk l x = true) {k : Nat} {v : Int} (hv : x[k]? = some v) : ∃ s, l[k]? = some s ∧ 0 ≤ v ∧ v ≤ 9 ∧ 0 ≤ s.c ∧ s.c ≤ 999 ∧ 0 ≤ s.m ∧ s.m ≤ 999 ∧ 0 ≤ s.s ∧ s.s ≤ 999 ∧ 0 ≤ s.p ∧ s.p ≤ 99 ∧ 0 ≤ s.k ∧ s.k ≤ 9 := by
  obtain ⟨p1, p2, p3⟩ := mixOk_parts h
  have hk := (List.getElem?_eq_some_iff.1 hv).1
  have hs := List.getElem?_eq_getElem (l := l) (i := k) (by omega)
  have hb := mix_pair h (List.mem_of_getElem? (zip_get hs hv))
  simp only at hb
  exact ⟨_, hs, by omega, by omega, by omega, by omega, by omega, by omega, by omega, by omega, by omega, by omega, by omega, by omega⟩
theorem sums_bad {l : List Stuff} {x : List Int} (h : mixOk l x = false) : mixSC l x = -1 ∧ mixSM l x = -1 ∧ mixSS l x = -1 := by simp [mixSC, mixSM, mixSS, h]
theorem made1 (v : Value) (n j : Nat) (h : j < n) : (madeCells #[v] n)[j]? = some v := by
  simp [madeCells]
  exact ⟨j, by simp [h], by simp [Nat.mod_one]⟩
set_option maxHeartbeats 4000000 in
theorem fnMixValid_walk (A : Option Addr) (n c : Nat) (l : List Int) (w : World) (hs : Sees w w.heap.size A (bys l)) (hl : l.length = n) (hby : ∀ z ∈ l, byteB z) (hc : n ≤ c) (hm : c ≤ maxLen) :
    Calls Tryd.prog 9 #[.slice A n c] w fun e w' => e = .returned (.bool true) ∧ Below w.heap.size w w' := by
  have hm' := hm
  unfold maxLen at hm'
  by_cases hn : n ≤ 1048576
  case neg =>
    go_enter Tryd.func9, Tryd.ntmps9
    go_wp2_with fail
    go_ret
    exact ⟨rfl, Below.refl _ _⟩
  obtain ⟨j0, ji, jz0, jz1, jz2⟩ := info_parts infoInt2
  go_enter Tryd.func9, Tryd.ntmps9
  go_wp2_with fail
  refine (drawMixValid_any A n c l _ hs hl hby hc hm).mono ?_
  rintro _ w1 ⟨st, A1, c1, x, A2, c2, hsm, hlen, hxl, hxs, rfl, hQ, hX, hb⟩
  have Hsm := Lib.hid hsm
  have Hxs := Lib.hid hxs
  clear hsm hxs
  go_wp2_with fail
  refine (mixValid_any _ _ _ _ _ _ _ hQ.sees (by omega) hX.sees (by omega)).mono ?_
  rintro _ w2 ⟨rfl, hb1⟩
  replace hQ := own_hi (hQ.below hb1) hb1.size
  replace hX := own_hi (hX.below hb1) hb1.size
  replace hb := below_next hb hb1
  clear hb1
  go_wp2_with fail
  refine (sMixValid_any _ _ _ _ _ _ _ hQ.sees (by omega) hX.sees (by omega)).mono ?_
  rintro _ w3 ⟨rfl, hb1⟩
  replace hQ := own_hi (hQ.below hb1) hb1.size
  replace hX := own_hi (hX.below hb1) hb1.size
  replace hb := below_next hb hb1
  clear hb1
  cases hok : mixOk st x with
  | false =>
    go_wp2_with fail
    refine (alive_any _).mono ?_
    rintro _ w9 ⟨rfl, hb1⟩
    go_wp2_with fail
    go_ret
    exact ⟨rfl, below_next hb hb1⟩
  | true =>
    have hxl2 := mixOk_len hok
    have Hok := Lib.hid hok
    have Hxl2 := Lib.hid hxl2
    clear hok hxl2
    go_wp2_with fail
    go_loopw [6] (fun i wr => ∃ k : Nat, k ≤ x.length ∧ i = .int .i64 k ∧ Below w3.heap.size w3 wr) (fun i _ => x.length - (intOf i).toNat)
    case atStart => exact ⟨0, Nat.zero_le _, rfl, Below.refl _ _⟩
    case round =>
      obtain ⟨k, hk, rfl, hb1⟩ := hrel
      have hb3 := hb1
      replace hQ := own_hi (hQ.below hb1) hb1.size
      replace hX := own_hi (hX.below hb1) hb1.size
      replace hb := below_next hb hb1
      clear hb1
      by_cases hlt : k < x.length
      · obtain ⟨v, hx⟩ : ∃ v, x[k]? = some v := ⟨_, List.getElem?_eq_getElem hlt⟩
        obtain ⟨s, hs, hv0, hv9, hsb⟩ := pair_at Hok.out hx
        have hzero := mixOk_set Hok.out hs 0
        have hmore := mixOk_set Hok.out hs (s.k + 1)
        have hkl := (List.getElem?_eq_some_iff.1 hs).1
        rw [show inB 0 0 s.k = true from inB_iff.2 ⟨by omega, by omega⟩] at hzero
        rw [show inB (s.k + 1) 0 s.k = false from by unfold inB; simp; omega] at hmore
        have Hs := Lib.hid hs
        have Hzero := Lib.hid hzero
        have Hmore := Lib.hid hmore
        clear hs hzero hmore
        have hSw8 := hX.sees
        go_upto_region 14 with (at_builtin; refine wpList_app _ rfl (.tmp 34) (.tmp 35) _ rfl 3 j0 _ 1 8 Tryd.underlying33 ji jz0 jz1 jz2 rfl (by omega) rfl (own_made _ _ _) rfl (hSw8.below ((Below.refl _ _).alloc (Nat.le_refl _) _)) (by rw [ints_length, Nat.mul_one]) (one_ints _) (by omega) (by omega) (by simp) ?_; intro A5 c5 w8a hY hon; replace hY := own_zero' hY; obtain ⟨g, rfl, hg1, hg2, hg3, cx, fx, hput⟩ := hY.num_at' hx; have Hput := Lib.hid hput; clear hput; rw [Nat.zero_add]; have hcapL := hY.cap)
        have hL := Hput.out (0)
        have hQn := ((hQ.alloc (.cells #[] 3)).only hon (.inl (Nat.le_refl _))).setCell (p := ⟨g, k, none⟩) (.inr hg1) (.int .i64 (0))
        have hXn := ((hX.alloc (.cells #[] 3)).only hon (.inl (Nat.le_refl _))).setCell (p := ⟨g, k, none⟩) (.inr hg1) (.int .i64 (0))
        have hbn : Below wr.heap.size wr (w8a.setCell ⟨g, k, none⟩ (.int .i64 (0))) := (below_only ((Below.refl _ _).alloc (Nat.le_refl _) (.cells #[] 3)) hon (Nat.le_refl _) (Nat.le_refl _)).setCell (p := ⟨g, k, none⟩) hg1 _
        have hL0 := hL
        generalize hV8 : w8a.setCell ⟨g, k, none⟩ (.int .i64 0) = V at hL0 hQn hXn hbn hL ⊢
        clear hV8 hL
        replace hb3 := below_next hb3 hbn
        replace hQ := own_hi hQn (Nat.le_trans (Nat.le_refl _) hbn.size)
        replace hX := own_hi hXn (Nat.le_trans (Nat.le_refl _) hbn.size)
        clear hon hY cx fx hg1 hg2 hg3 Hput hQn hXn hbn hSw8
        obtain ⟨b1, off1, p1, p2, p3, p4, p5, hA1, hbB1, hs1, e0, e1, e2, e3, e4⟩ := hQ.sees.stuff_at hkl
        subst hA1
        have hsp : s = ⟨p1, p2, p3, p4, p5⟩ := by have := Hs.out; rw [this] at hs1; injection hs1
        have hp5 : s.k = p5 := by rw [hsp]
        have hb5 : 0 ≤ p5 ∧ p5 ≤ 9 := by rw [← hp5]; omega
        rw [hp5] at Hmore
        clear hs1 e0 e1 e2 e3 hsp hp5
        have hbV1 := hbB1
        have hSw9 := hX.sees
        go_wp2_with (at_builtin; refine wpList_app _ rfl (.tmp 40) (.tmp 41) _ rfl 3 j0 _ 1 8 Tryd.underlying33 ji jz0 jz1 jz2 rfl (by omega) rfl (own_made _ _ _) rfl (hSw9.below ((Below.refl _ _).alloc (Nat.le_refl _) _)) (by rw [ints_length, Nat.mul_one]) (one_ints _) (by omega) (by omega) (by simp) ?_; intro A5 c5w9 w9a hY hon; replace hY := own_zero' hY; obtain ⟨g2, rfl, hg1, hg2, hg3, cx, fx, hput⟩ := hY.num_at' hx; have Hput := Lib.hid hput; clear hput; rw [Nat.zero_add]; have hcapL := hY.cap; have e5 : w9a.cell? ⟨b1, off1 + k * 5 + 4, none⟩ = some (.int .i64 p5) := (by rw [← e4]; exact (below_cells (below_only ((Below.refl V.heap.size V).alloc (Nat.le_refl _) (.cells #[] 3)) hon (Nat.le_refl _) (Nat.le_refl _))).1 _ _ hbB1))
        have hL := Hput.out (p5 + 1)
        have hQn := ((hQ.alloc (.cells #[] 3)).only hon (.inl (Nat.le_refl _))).setCell (p := ⟨g2, k, none⟩) (.inr hg1) (.int .i64 (p5 + 1))
        have hXn := ((hX.alloc (.cells #[] 3)).only hon (.inl (Nat.le_refl _))).setCell (p := ⟨g2, k, none⟩) (.inr hg1) (.int .i64 (p5 + 1))
        have hbn : Below V.heap.size V (w9a.setCell ⟨g2, k, none⟩ (.int .i64 (p5 + 1))) := (below_only ((Below.refl _ _).alloc (Nat.le_refl _) (.cells #[] 3)) hon (Nat.le_refl _) (Nat.le_refl _)).setCell (p := ⟨g2, k, none⟩) hg1 _
        have hL1 := hL
        have hL0n := ((hL0.alloc (.cells #[] 3)).only hon (.inl (Nat.le_refl _))).setCell (p := ⟨g2, k, none⟩) (.inr hg1) (.int .i64 (p5 + 1))
        generalize w9a.setCell _ _ = V2 at hL1 hL hQn hXn hbn hL0n ⊢
        replace hb3 := below_next hb3 hbn
        clear hon hY cx fx hL
        have hcall := mixValid_any (some ⟨b1, off1, none⟩) (some ⟨g, 0, none⟩) c1 c5 st (x.set k 0) V2 hQn.sees (by omega) hL0n.sees (by rw [List.length_set]; omega)
        rw [Hzero.out, List.length_set] at hcall
        refine hcall.mono ?_
        rintro _ w10 ⟨rfl, hb1⟩
        clear hcall
        replace hb3 := below_next hb3 hb1
        have hcall := mixValid_any (some ⟨b1, off1, none⟩) (some ⟨g2, 0, none⟩) c1 c5w9 st (x.set k (p5 + 1)) w10 (hQn.below hb1).sees (by omega) (hL1.below hb1).sees (by rw [List.length_set]; omega)
        rw [Hmore.out, List.length_set] at hcall
        go_wp2_with fail
        refine hcall.mono ?_
        rintro _ w11 ⟨rfl, hb2⟩
        replace hb3 := below_next hb3 hb2
        go_wp2_with fail
        go_roundw
        case rel => exact ⟨k + 1, by omega, by go_num, hb3⟩
        case measure => simp [intOf]; omega
      · have hmk := fun W => run_make (P := Tryd.prog) W 33 3 j0 _ Tryd.underlying33 ji jz0 .i64 .i64 st.length st.length (by omega) (by omega) (by rw [jz2]; omega) (by omega)
        simp only [Int.toNat_natCast, jz1] at hmk
        go_wp2_with fail
        clear hmk
        have hsk := (mixOk_parts Hok.out).1
        have hM : Own (wr.alloc (.cells (madeCells #[.int .i64 0] st.length) 3)) wr.heap.size (wr.alloc (.cells (madeCells #[.int .i64 0] st.length) 3)).heap.size 3 1 (some ⟨wr.heap.size, 0, none⟩) st.length st.length (ints (List.replicate st.length 0)) := by
          refine Own.mk_ (Nat.le_refl _) (by simp) (Nat.le_refl _) (by unfold maxLen; omega) (Blk.made _ _ _) (by rw [size_madeCells, Nat.mul_one]) ?_
          refine take_of_all (by rw [size_madeCells]; simp) (by simp [ints]) fun j hj => ?_
          rw [made1 _ _ _ (by omega)]
          simp [ints, show j < st.length by omega]
        have hQ8 := hQ.alloc (.cells (madeCells #[.int .i64 0] st.length) 3)
        replace hb := hb.alloc hb.size (.cells (madeCells #[.int .i64 0] st.length) 3)
        have hcall := mixValid_any A1 (some ⟨wr.heap.size, 0, none⟩) c1 st.length st (List.replicate st.length 0) _ hQ8.sees (by omega) hM.sees (by simp; omega)
        rw [none_ok hsk, List.length_replicate] at hcall
        refine hcall.mono ?_
        rintro _ w9 ⟨rfl, hb1⟩
        go_wp2_with fail
        go_ret
        exact ⟨rfl, below_next hb hb1⟩
end Go.Proofs.YtdfbkldppblefaaDoor
