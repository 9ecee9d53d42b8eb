/-
  The walk of the law FnMixCost.
-/
import Derived.Test.YtdfbkldppblefaaDoorDu
import Derived.Test.YtdfbkldppblefaaDoorPn
import Derived.Test.YtdfbkldppblefaaDoorLat
namespace Go.Proofs.YtdfbkldppblefaaDoor
open Go.RowKit
set_option linter.unusedVariables false
theorem Own.num_at' {w : World} {lo hi n c : Nat} {t : TypeId} {A : Option Addr} {l : List Int} {k : Nat} {x : Int} (h : Own w lo hi t 1 A n c (ints l)) (hx : l[k]? = some x) :
    ∃ g, A = some ⟨g, 0, none⟩ ∧ lo ≤ g ∧ g < hi ∧ g < w.heap.size ∧ w.cell? ⟨g, k, none⟩ = some (.int .i64 x) ∧ w.frozen? ⟨g, k, none⟩ = false ∧
      ∀ v, Own (w.setCell ⟨g, k, none⟩ (.int .i64 v)) lo (w.setCell ⟨g, k, none⟩ (.int .i64 v)).heap.size t 1 (some ⟨g, 0, none⟩) n c (ints (l.set k v)) := by
  have hk := (List.getElem?_eq_some_iff.1 hx).1
  have hln : l.length = n := by
    have := h.1.1
    rw [ints_length] at this
    omega
  obtain ⟨g, cs, rfl, _⟩ := h.block (by omega)
  obtain ⟨r1, r2, r3, r4, r5, r6⟩ := h.num_here hx
  refine ⟨g, rfl, r1, r2, r3, r4, r5, fun v => ?_⟩
  have h6 := r6 v
  exact ⟨h6.1, fun g' hg' => by simp [Value.ownBlock] at hg'; simpa [hg'] using r3⟩
theorem cost_bounds {l : List Stuff} {x : List Int} (h : mixOk l x = true) : 0 ≤ mixCost l x ∧ mixCost l x ≤ 3564 := by
  have h1 := sumF_bounds (f := fun p : Stuff × Int => p.2 * p.1.p) (M := 891) (by omega) (l := l.zip x) fun p hp => by
    have hb := mix_pair h hp
    have := mul_bounds (a := p.2) (b := p.1.p) (A := 9) (B := 99) (by omega) (by omega) (by omega) (by omega)
    omega
  have h2 := zip_len h
  simp only [mixCost, h, if_true]
  rw [costOf_sum h]
  omega
theorem cost_bad {l : List Stuff} {x : List Int} (h : mixOk l x = false) : mixCost l x = -1 := by simp [mixCost, h]
theorem pair_at {l : List Stuff} {x : List Int} (h : mixOk l x = true) {k : Nat} {v : Int} (hv : x[k]? = some v) : ∃ s, l[k]? = some s ∧ 0 ≤ v ∧ v ≤ 9 ∧ 0 ≤ s.c ∧ s.c ≤ 999 ∧ 0 ≤ s.m ∧ s.m ≤ 999 ∧ 0 ≤ s.s ∧ s.s ≤ 999 ∧ 0 ≤ s.p ∧ s.p ≤ 99 ∧ 0 ≤ s.k ∧ s.k ≤ 9 := by
  obtain ⟨p1, p2, p3⟩ := mixOk_parts h
  have hk := (List.getElem?_eq_some_iff.1 hv).1
  have hs := List.getElem?_eq_getElem (l := l) (i := k) (by omega)
  have hb := mix_pair h (List.mem_of_getElem? (zip_get hs hv))
  simp only at hb
  exact ⟨_, hs, by omega, by omega, by omega, by omega, by omega, by omega, by omega, by omega, by omega, by omega, by omega, by omega⟩
theorem sums_bad {l : List Stuff} {x : List Int} (h : mixOk l x = false) : mixSC l x = -1 ∧ mixSM l x = -1 ∧ mixSS l x = -1 := by simp [mixSC, mixSM, mixSS, h]
set_option maxHeartbeats 4000000 in
theorem fnMixCost_walk (A : Option Addr) (n c : Nat) (l : List Int) (w : World) (hs : Sees w w.heap.size A (bys l)) (hl : l.length = n) (hby : ∀ z ∈ l, byteB z) (hc : n ≤ c) (hm : c ≤ maxLen) :
    Calls Tryd.prog 10 #[.slice A n c] w fun e w' => e = .returned (.bool true) ∧ Below w.heap.size w w' := by
  have hm' := hm
  unfold maxLen at hm'
  by_cases hn : n ≤ 1048576
  case neg =>
    go_enter Tryd.func10, Tryd.ntmps10
    go_wp2_with fail
    go_ret
    exact ⟨rfl, Below.refl _ _⟩
  obtain ⟨j0, ji, jz0, jz1, jz2⟩ := info_parts infoInt2
  go_enter Tryd.func10, Tryd.ntmps10
  go_wp2_with fail
  refine (drawMixCost_any A n c l _ hs hl hby hc hm).mono ?_
  rintro _ w1 ⟨st, A1, c1, x, A2, c2, hsm, hlen, hxl, hxs, rfl, hQ, hX, hb⟩
  have Hsm := Lib.hid hsm
  have Hxs := Lib.hid hxs
  clear hsm hxs
  go_wp2_with fail
  refine (mixCost_any _ _ _ _ _ _ _ hQ.sees (by omega) hX.sees (by omega)).mono ?_
  rintro _ w2 ⟨rfl, hb1⟩
  replace hQ := own_hi (hQ.below hb1) hb1.size
  replace hX := own_hi (hX.below hb1) hb1.size
  replace hb := below_next hb hb1
  clear hb1
  go_wp2_with fail
  refine (sMixCost_any _ _ _ _ _ _ _ hQ.sees (by omega) hX.sees (by omega)).mono ?_
  rintro _ w3 ⟨rfl, hb1⟩
  replace hQ := own_hi (hQ.below hb1) hb1.size
  replace hX := own_hi (hX.below hb1) hb1.size
  replace hb := below_next hb hb1
  clear hb1
  cases hok : mixOk st x with
  | false =>
    rw [cost_bad hok]
    go_wp2_with fail
    refine (alive_any _).mono ?_
    rintro _ w9 ⟨rfl, hb1⟩
    go_wp2_with fail
    go_ret
    exact ⟨rfl, below_next hb hb1⟩
  | true =>
    have hcb := cost_bounds hok
    have hxl2 := mixOk_len hok
    have hless := fun (k : Nat) (s : Stuff) (v : Int) => less_cost (l := st) (x := x) hok (k := k) (s := s) (v := v)
    generalize mixCost st x = X at hcb hless ⊢
    have Hok := Lib.hid hok
    have Hless := Lib.hid hless
    have Hxl2 := Lib.hid hxl2
    clear hok hless hxl2
    go_wp2_with fail
    go_loopw [6] (fun i wr => ∃ k : Nat, k ≤ x.length ∧ i = .int .i64 k ∧ Below w3.heap.size w3 wr) (fun i _ => x.length - (intOf i).toNat)
    case atStart => exact ⟨0, Nat.zero_le _, rfl, Below.refl _ _⟩
    case round =>
      obtain ⟨k, hk, rfl, hb1⟩ := hrel
      have hb3 := hb1
      replace hQ := own_hi (hQ.below hb1) hb1.size
      replace hX := own_hi (hX.below hb1) hb1.size
      replace hb := below_next hb hb1
      clear hb1
      by_cases hlt : k < x.length
      · obtain ⟨v, hx⟩ : ∃ v, x[k]? = some v := ⟨_, List.getElem?_eq_getElem hlt⟩
        obtain ⟨s, hs, hv0, hv9, hsb⟩ := pair_at Hok.out hx
        have hls := Hless.out k s v hs hx
        have hkl := (List.getElem?_eq_some_iff.1 hs).1
        have Hs := Lib.hid hs
        have Hls := Lib.hid hls
        clear hs hls
        have hSw8 := hX.sees
        go_wp2_with (at_builtin; refine wpList_app _ rfl (.tmp 37) (.tmp 38) _ rfl 3 j0 _ 1 8 Tryd.underlying33 ji jz0 jz1 jz2 rfl (by omega) rfl (own_made _ _ _) rfl (hSw8.below ((Below.refl _ _).alloc (Nat.le_refl _) _)) (by rw [ints_length, Nat.mul_one]) (one_ints _) (by omega) (by omega) (by simp) ?_; intro A5 c5 w8a hY hon; replace hY := own_zero' hY; obtain ⟨g, rfl, hg1, hg2, hg3, cx, fx, hput⟩ := hY.num_at' hx; have Hput := Lib.hid hput; clear hput; rw [Nat.zero_add]; have hcapL := hY.cap)
        have hL := Hput.out (v - 1)
        have hQn := ((hQ.alloc (.cells #[] 3)).only hon (.inl (Nat.le_refl _))).setCell (p := ⟨g, k, none⟩) (.inr hg1) (.int .i64 (v - 1))
        have hXn := ((hX.alloc (.cells #[] 3)).only hon (.inl (Nat.le_refl _))).setCell (p := ⟨g, k, none⟩) (.inr hg1) (.int .i64 (v - 1))
        have hbn : Below wr.heap.size wr (w8a.setCell ⟨g, k, none⟩ (.int .i64 (v - 1))) := (below_only ((Below.refl _ _).alloc (Nat.le_refl _) (.cells #[] 3)) hon (Nat.le_refl _) (Nat.le_refl _)).setCell (p := ⟨g, k, none⟩) hg1 _
        have Hxk := Lib.hid hx
        clear hx
        go_wp2_with fail
        generalize w8a.setCell _ _ = V at hL hQn hXn hbn ⊢
        replace hb3 := below_next hb3 hbn
        clear hon hY cx fx
        obtain ⟨b2, off2, v2, rfl, hbB2, hx2, d0⟩ := hXn.sees.int_at hlt
        obtain ⟨b1, off1, p1, p2, p3, p4, p5, rfl, hbB1, hs1, e0, e1, e2, e3, e4⟩ := hQn.sees.stuff_at hkl
        obtain rfl : v2 = v := by have := Hxk.out; rw [this] at hx2; injection hx2 with h; exact h.symm
        have hsp : s = ⟨p1, p2, p3, p4, p5⟩ := by have := Hs.out; rw [this] at hs1; injection hs1
        have hp4 : s.p = p4 := by rw [hsp]
        have hb4 : 0 ≤ p4 ∧ p4 ≤ 99 := by rw [← hp4]; omega
        clear hx2 hs1 e0 e1 e2 e4
        have hcall := fun (u : World) (hq : Below V.heap.size V u) => mixCost_any (some ⟨b1, off1, none⟩) (some ⟨g, 0, none⟩) c1 c5 st (x.set k (v2 - 1)) u (hQn.sees.next hq) (by omega) (hL.sees.next hq) (by rw [List.length_set]; omega)
        simp only [List.length_set] at hcall
        have hlv := Hls.out
        rw [hp4] at hlv
        generalize mixCost st (x.set k (v2 - 1)) = Y at hcall hlv
        have Hcall := Lib.hid hcall
        clear hcall hsp hp4
        have hV := later_cell V
        have hwX : IntKind.i64.wrap (X - p4) = X - p4 := wrap_in' (by omega) (by omega)
        by_cases hv1 : 0 < v2
        · have hY1 : (Y != X - p4) = false := by rw [bne_eq_false_iff_eq]; exact hlv hv1
          have hd1 : decide (0 < v2) = true := by simpa using hv1
          clear hlv
          refine wp_region_later (by kernel_rfl) (by kernel_rfl) ?_
          repeat (go_big_quiet_step ((go_at_call 37; exact Later.of _ (Hcall.out _ (Later.below _)))))
          refine wpQuiet_nil ?_
          intro _ hw'
          obtain ⟨u, rfl⟩ := hw'
          have hu := u.below
          go_wp2_with fail
          go_roundw
          case rel => exact ⟨k + 1, by omega, by go_num, below_next hb3 hu⟩
          case measure => simp [intOf]; omega
        · have hd1 : decide (0 < v2) = false := by simpa using hv1
          clear hlv
          refine wp_region_later (by kernel_rfl) (by kernel_rfl) ?_
          repeat (go_big_quiet_step (fail))
          refine wpQuiet_nil ?_
          intro _ hw'
          obtain ⟨u, rfl⟩ := hw'
          have hu := u.below
          go_wp2_with fail
          go_roundw
          case rel => exact ⟨k + 1, by omega, by go_num, below_next hb3 hu⟩
          case measure => simp [intOf]; omega
      · go_wp2_with fail
        go_ret
        exact ⟨rfl, hb⟩
end Go.Proofs.YtdfbkldppblefaaDoor
