/-
  The walk of the law FnMixBest.
-/
import Derived.Test.YtlhjncefckidjaaDoorDx
import Derived.Test.YtlhjncefckidjaaDoorSm
import Derived.Test.YtlhjncefckidjaaDoorSc
namespace Go.Proofs.YtlhjncefckidjaaDoor
open Go.RowKit
set_option linter.unusedVariables false
theorem sameInts_same (A A' : Option Addr) (c c' : Nat) (l : List Int) (w : World) (hs : Sees w w.heap.size A (ints l)) (hs' : Sees w w.heap.size A' (ints l)) (hn : l.length ≤ 1048576) :
    Calls Tryd.prog 13 #[.slice A l.length c, .slice A' l.length c'] w fun e w' => e = .returned (.bool true) ∧ Below w.heap.size w w' := by
  go_enter Tryd.func13, Tryd.ntmps13
  go_wp2_with fail
  go_loopw [5] (fun i wr => ∃ k : Nat, k ≤ l.length ∧ i = .int .i64 k ∧ Below w.heap.size w wr) (fun i _ => l.length - (intOf i).toNat)
  case atStart => exact ⟨0, Nat.zero_le _, rfl, Below.refl _ _⟩
  case round =>
    obtain ⟨k, hk, rfl, hb⟩ := hrel
    by_cases hlt : k < l.length
    · obtain ⟨b, off, x, rfl, hbB, hl, c0⟩ := (hs.below hb).int_at hlt
      obtain ⟨b', off', x', rfl, hbB', hl', c0'⟩ := (hs'.below hb).int_at hlt
      obtain rfl : x = x' := by rw [hl] at hl'; injection hl'
      clear hl hl'
      go_wp2_with fail
      go_quiet (fail)
      go_wp2_with fail
      go_roundw
      case rel => exact ⟨k + 1, by omega, by go_num, below_drewN hb _⟩
      case measure => simp [intOf]; omega
    · go_wp2_with fail
      go_ret
      exact ⟨rfl, hb⟩
theorem sumOf_any (A : Option Addr) (c : Nat) (l : List Int) (w : World) (hs : Sees w w.heap.size A (ints l)) (hn : l.length ≤ 1048576) :
    Calls Tryd.prog 15 #[.slice A l.length c] w fun e w' => e = .returned (.int .i64 (tonsOf l)) ∧ w = w' := by
  go_enter Tryd.func15, Tryd.ntmps15
  go_wp2_with fail
  go_loop [3, 4] (fun t i => ∃ k : Nat, k ≤ l.length ∧ i = .int .i64 k ∧ t = .int .i64 (tonsOf (l.take k))) (fun _ i => l.length - (intOf i).toNat)
  case atStart => exact ⟨0, Nat.zero_le _, rfl, rfl⟩
  case round =>
    obtain ⟨k, hk, rfl, rfl⟩ := hrel
    by_cases hlt : k < l.length
    · obtain ⟨b, off, x, rfl, hbB, hl, c0⟩ := hs.int_at hlt
      have Hl := Lib.hid hl
      clear hl
      go_wp2_with fail
      go_round
      case rel => exact ⟨k + 1, by omega, by go_num, by unfold tonsOf; rw [foldl_take_succ _ _ _ _ _ Hl.out]; exact int_w64⟩
      case measure => simp [intOf]; omega
    · go_wp2_with fail
      go_ret
      have e : k = l.length := by omega
      exact ⟨ret_int (by rw [e, List.take_length]), rfl⟩
theorem best_found {l : List Stuff} {g : Grade} {t : Int} : ((mixBest l g t).2 = false → (mixBest l g t).1 = []) ∧ ((mixBest l g t).2 = true → mixOk l (mixBest l g t).1 = true ∧ mixMeets l (mixBest l g t).1 g = true ∧ tonsOf (mixBest l g t).1 = t) :=
  ⟨best_none, fun h => by obtain ⟨_, _, _, _, h5, h6, h7⟩ := best_is h; exact ⟨h5, h7, h6⟩⟩
set_option maxRecDepth 20000 in
set_option maxHeartbeats 4000000 in
theorem fnMixBest_walk (A : Option Addr) (n c : Nat) (l : List Int) (A' : Option Addr) (n' c' : Nat) (l' : List Int) (w : World) (hs : Sees w w.heap.size A (bys l)) (hl : l.length = n) (hby : ∀ z ∈ l, byteB z) (hc : n ≤ c) (hm : c ≤ maxLen) (hs' : Sees w w.heap.size A' (bys l')) (hl' : l'.length = n') (hby' : ∀ z ∈ l', byteB z) (hc' : n' ≤ c') (hm' : c' ≤ maxLen) :
    Calls Tryd.prog 3 #[.slice A n c, .slice A' n' c'] w fun e w' => e = .returned (.bool true) ∧ Below w.heap.size w w' := by
  have hmx := hm
  unfold maxLen at hmx
  have hmy := hm'
  unfold maxLen at hmy
  by_cases hn : n ≤ 1048576
  case neg =>
    go_enter Tryd.func3, Tryd.ntmps3
    go_wp2_with fail
    go_ret
    exact ⟨rfl, Below.refl _ _⟩
  by_cases hn2 : n' ≤ 1048576
  case neg =>
    go_enter Tryd.func3, Tryd.ntmps3
    go_wp2_with fail
    go_ret
    exact ⟨rfl, Below.refl _ _⟩
  have Hby := Lib.hid hby'
  have Hl := Lib.hid hl'
  clear hby' hl'
  go_enter Tryd.func3, Tryd.ntmps3
  go_wp2_with fail
  refine (drawMixBest_any A n c l _ hs hl hby hc hm).mono ?_
  rintro _ w1 ⟨st, A1, c1, g, t, hlen, ht1, ht2, rfl, hQ, hb⟩
  obtain ⟨g1, g2, g3, g4, g5, g6⟩ := g
  have hG := Blk.made w1 25 #[.int .i64 g1, .int .i64 g2, .int .i64 g3, .int .i64 g4, .int .i64 g5, .int .i64 g6]
  replace hQ := own_hi (hQ.alloc (.cells #[.int .i64 g1, .int .i64 g2, .int .i64 g3, .int .i64 g4, .int .i64 g5, .int .i64 g6] 25)) (show w1.heap.size ≤ (w1.alloc (.cells #[.int .i64 g1, .int .i64 g2, .int .i64 g3, .int .i64 g4, .int .i64 g5, .int .i64 g6] 25)).heap.size by simp)
  replace hb := hb.alloc hb.size (.cells #[.int .i64 g1, .int .i64 g2, .int .i64 g3, .int .i64 g4, .int .i64 g5, .int .i64 g6] 25)
  have e_hG := hG.cell
  go_wp2_with fail
  clear e_hG
  generalize w1.alloc _ = W at *
  refine (mixBest_any A1 c1 st g1 g2 g3 g4 g5 g6 t _ hQ.sees (by omega)).mono ?_
  rintro _ w2 ⟨A3, c3, rfl, hX, hb1⟩
  replace hQ := own_hi (hQ.below hb1) hb1.size
  replace hG := hG.below hb1 hG.lt
  replace hb := below_next hb hb1
  clear hb1
  have e_hG := hG.cell
  go_wp2_with fail
  clear e_hG
  refine (sMixBest_any A1 c1 st g1 g2 g3 g4 g5 g6 t _ hQ.sees (by omega)).mono ?_
  rintro _ w3 ⟨A4, c4, rfl, hY, hb1⟩
  replace hQ := own_hi (hQ.below hb1) hb1.size
  replace hX := own_hi (hX.below hb1) hb1.size
  replace hG := hG.below hb1 hG.lt
  replace hb := below_next hb hb1
  clear hb1
  have hB4 : (mixBest st ⟨g1, g2, g3, g4, g5, g6⟩ t).1.length ≤ 4 := best_len
  obtain ⟨hF, hT⟩ := @best_found st ⟨g1, g2, g3, g4, g5, g6⟩ t
  generalize mixBest st ⟨g1, g2, g3, g4, g5, g6⟩ t = B at hB4 hF hT hX hY ⊢
  obtain ⟨x, ok⟩ := B
  simp only at hB4 hF hT hX hY ⊢
  have HF := Lib.hid hF
  have HT := Lib.hid hT
  clear hF hT
  go_wp2_with fail
  refine (sameInts_same _ _ _ _ _ _ hX.sees hY.sees (by omega)).mono ?_
  rintro _ w4 ⟨rfl, hb1⟩
  replace hQ := own_hi (hQ.below hb1) hb1.size
  replace hX := own_hi (hX.below hb1) hb1.size
  replace hY := own_hi (hY.below hb1) hb1.size
  replace hG := hG.below hb1 hG.lt
  replace hb := below_next hb hb1
  clear hb1
  clear hY
  go_wp2_with fail
  refine (drawMixMeets_any A' n' c' l' _ (hs'.next hb) Hl.out Hby.out hc' hm').mono ?_
  rintro _ w5 ⟨ls, A5, c5, y, A6, c6, h, hsm, hlen2, hyl, hys, rfl, hQ2, hY2, hb1⟩
  replace hQ := own_hi (hQ.below hb1) hb1.size
  replace hX := own_hi (hX.below hb1) hb1.size
  replace hG := hG.below hb1 hG.lt
  replace hb := below_next hb hb1
  clear hb1
  clear hsm hys
  obtain ⟨h1, h2, h3, h4, h5, h6⟩ := h
  have hH := Blk.made w5 25 #[.int .i64 h1, .int .i64 h2, .int .i64 h3, .int .i64 h4, .int .i64 h5, .int .i64 h6]
  replace hQ := own_hi (hQ.alloc (.cells #[.int .i64 h1, .int .i64 h2, .int .i64 h3, .int .i64 h4, .int .i64 h5, .int .i64 h6] 25)) (show w5.heap.size ≤ (w5.alloc (.cells #[.int .i64 h1, .int .i64 h2, .int .i64 h3, .int .i64 h4, .int .i64 h5, .int .i64 h6] 25)).heap.size by simp)
  replace hX := own_hi (hX.alloc (.cells #[.int .i64 h1, .int .i64 h2, .int .i64 h3, .int .i64 h4, .int .i64 h5, .int .i64 h6] 25)) (show w5.heap.size ≤ (w5.alloc (.cells #[.int .i64 h1, .int .i64 h2, .int .i64 h3, .int .i64 h4, .int .i64 h5, .int .i64 h6] 25)).heap.size by simp)
  replace hQ2 := own_hi (hQ2.alloc (.cells #[.int .i64 h1, .int .i64 h2, .int .i64 h3, .int .i64 h4, .int .i64 h5, .int .i64 h6] 25)) (show w5.heap.size ≤ (w5.alloc (.cells #[.int .i64 h1, .int .i64 h2, .int .i64 h3, .int .i64 h4, .int .i64 h5, .int .i64 h6] 25)).heap.size by simp)
  replace hY2 := own_hi (hY2.alloc (.cells #[.int .i64 h1, .int .i64 h2, .int .i64 h3, .int .i64 h4, .int .i64 h5, .int .i64 h6] 25)) (show w5.heap.size ≤ (w5.alloc (.cells #[.int .i64 h1, .int .i64 h2, .int .i64 h3, .int .i64 h4, .int .i64 h5, .int .i64 h6] 25)).heap.size by simp)
  replace hG := hG.alloc (.cells #[.int .i64 h1, .int .i64 h2, .int .i64 h3, .int .i64 h4, .int .i64 h5, .int .i64 h6] 25)
  replace hb := hb.alloc hb.size (.cells #[.int .i64 h1, .int .i64 h2, .int .i64 h3, .int .i64 h4, .int .i64 h5, .int .i64 h6] 25)
  have e_hH := hH.cell
  go_wp2_with fail
  clear e_hH
  generalize w5.alloc _ = V at *
  refine (sumOf_any _ _ _ _ hY2.sees (by omega)).mono ?_
  rintro _ _ ⟨rfl, rfl⟩
  have e_hH := hH.cell
  go_wp2_with fail
  clear e_hH
  refine (sMixMeets_any _ _ _ _ _ _ _ hQ2.sees (by omega) hY2.sees (by omega) _ _ _ _ _ _).mono ?_
  rintro _ w6 ⟨rfl, hb1⟩
  replace hQ := own_hi (hQ.below hb1) hb1.size
  replace hX := own_hi (hX.below hb1) hb1.size
  replace hQ2 := own_hi (hQ2.below hb1) hb1.size
  replace hY2 := own_hi (hY2.below hb1) hb1.size
  replace hG := hG.below hb1 hG.lt
  replace hH := hH.below hb1 hH.lt
  replace hb := below_next hb hb1
  clear hb1
  cases hM : mixMeets ls y ⟨h1, h2, h3, h4, h5, h6⟩ with
  | false =>
    clear hM
    cases ok with
    | false =>
      have hx0 := HF.out rfl
      subst hx0
      go_wp2_with fail
      refine (alive_any _).mono ?_
      rintro _ w12 ⟨rfl, hb1⟩
      go_wp2_with fail
      go_ret
      exact ⟨rfl, below_next hb hb1⟩
    | true =>
      obtain ⟨k1, k2, k3⟩ := HT.out rfl
      have K1 := Lib.hid k1
      have K2 := Lib.hid k2
      have K3 := Lib.hid k3
      clear k1 k2 k3
      go_wp2_with fail
      refine (mixValid_any _ _ _ _ st x _ hQ.sees (by omega) hX.sees (by omega)).mono ?_
      rintro _ w7 ⟨rfl, hb1⟩
      rw [K1.out]
      replace hQ := own_hi (hQ.below hb1) hb1.size
      replace hX := own_hi (hX.below hb1) hb1.size
      replace hQ2 := own_hi (hQ2.below hb1) hb1.size
      replace hY2 := own_hi (hY2.below hb1) hb1.size
      replace hG := hG.below hb1 hG.lt
      replace hH := hH.below hb1 hH.lt
      replace hb := below_next hb hb1
      clear hb1
      have e_hG := hG.cell
      go_wp2_with fail
      clear e_hG
      refine (mixMeets_any _ _ _ _ st x _ hQ.sees (by omega) hX.sees (by omega) _ _ _ _ _ _).mono ?_
      rintro _ w8 ⟨rfl, hb1⟩
      rw [K2.out]
      replace hQ := own_hi (hQ.below hb1) hb1.size
      replace hX := own_hi (hX.below hb1) hb1.size
      replace hQ2 := own_hi (hQ2.below hb1) hb1.size
      replace hY2 := own_hi (hY2.below hb1) hb1.size
      replace hG := hG.below hb1 hG.lt
      replace hH := hH.below hb1 hH.lt
      replace hb := below_next hb hb1
      clear hb1
      go_wp2_with fail
      refine (mixTons_any _ _ _ _ hX.sees (by omega)).mono ?_
      rintro _ _ ⟨rfl, rfl⟩
      rw [K3.out]
      go_wp2_with fail
      go_ret
      exact ⟨rfl, hb⟩
  | true =>
    have htb := tons_bounds (meets_iff.1 hM).1
    have hbo := best_other hM
    generalize hN : tonsOf y = N at htb hbo ⊢
    clear hN hM
    have Hbo := Lib.hid hbo
    clear hbo
    by_cases h12 : N ≤ 12
    · obtain ⟨q1, q2⟩ := Hbo.out h12
      have e_hH := hH.cell
      go_wp2_with fail
      clear e_hH
      refine (mixLeast_any A5 c5 ls h1 h2 h3 h4 h5 h6 N _ hQ2.sees (by omega)).mono ?_
      rintro _ w7 ⟨rfl, hb1⟩
      replace hQ := own_hi (hQ.below hb1) hb1.size
      replace hX := own_hi (hX.below hb1) hb1.size
      replace hQ2 := own_hi (hQ2.below hb1) hb1.size
      replace hY2 := own_hi (hY2.below hb1) hb1.size
      replace hG := hG.below hb1 hG.lt
      replace hH := hH.below hb1 hH.lt
      replace hb := below_next hb hb1
      clear hb1
      generalize mixLeast ls ⟨h1, h2, h3, h4, h5, h6⟩ N = Z at q1 q2 ⊢
      go_wp2_with fail
      refine (mixCost_any _ _ _ _ ls y _ hQ2.sees (by omega) hY2.sees (by omega)).mono ?_
      rintro _ w8 ⟨rfl, hb1⟩
      replace hQ := own_hi (hQ.below hb1) hb1.size
      replace hX := own_hi (hX.below hb1) hb1.size
      replace hQ2 := own_hi (hQ2.below hb1) hb1.size
      replace hY2 := own_hi (hY2.below hb1) hb1.size
      replace hG := hG.below hb1 hG.lt
      replace hH := hH.below hb1 hH.lt
      replace hb := below_next hb hb1
      clear hb1
      generalize mixCost ls y = Y at q2 ⊢
      cases ok with
      | false =>
        have hx0 := HF.out rfl
        subst hx0
        go_wp2_with fail
        refine (alive_any _).mono ?_
        rintro _ w14 ⟨rfl, hb1⟩
        go_wp2_with fail
        go_ret
        exact ⟨rfl, below_next hb hb1⟩
      | true =>
        obtain ⟨k1, k2, k3⟩ := HT.out rfl
        have K1 := Lib.hid k1
        have K2 := Lib.hid k2
        have K3 := Lib.hid k3
        clear k1 k2 k3
        go_wp2_with fail
        refine (mixValid_any _ _ _ _ st x _ hQ.sees (by omega) hX.sees (by omega)).mono ?_
        rintro _ w9 ⟨rfl, hb1⟩
        rw [K1.out]
        replace hQ := own_hi (hQ.below hb1) hb1.size
        replace hX := own_hi (hX.below hb1) hb1.size
        replace hQ2 := own_hi (hQ2.below hb1) hb1.size
        replace hY2 := own_hi (hY2.below hb1) hb1.size
        replace hG := hG.below hb1 hG.lt
        replace hH := hH.below hb1 hH.lt
        replace hb := below_next hb hb1
        clear hb1
        have e_hG := hG.cell
        go_wp2_with fail
        clear e_hG
        refine (mixMeets_any _ _ _ _ st x _ hQ.sees (by omega) hX.sees (by omega) _ _ _ _ _ _).mono ?_
        rintro _ w10 ⟨rfl, hb1⟩
        rw [K2.out]
        replace hQ := own_hi (hQ.below hb1) hb1.size
        replace hX := own_hi (hX.below hb1) hb1.size
        replace hQ2 := own_hi (hQ2.below hb1) hb1.size
        replace hY2 := own_hi (hY2.below hb1) hb1.size
        replace hG := hG.below hb1 hG.lt
        replace hH := hH.below hb1 hH.lt
        replace hb := below_next hb hb1
        clear hb1
        go_wp2_with fail
        refine (mixTons_any _ _ _ _ hX.sees (by omega)).mono ?_
        rintro _ _ ⟨rfl, rfl⟩
        rw [K3.out]
        go_wp2_with fail
        go_ret
        exact ⟨rfl, hb⟩
    · skip
      cases ok with
      | false =>
        have hx0 := HF.out rfl
        subst hx0
        go_wp2_with fail
        refine (alive_any _).mono ?_
        rintro _ w12 ⟨rfl, hb1⟩
        go_wp2_with fail
        go_ret
        exact ⟨rfl, below_next hb hb1⟩
      | true =>
        obtain ⟨k1, k2, k3⟩ := HT.out rfl
        have K1 := Lib.hid k1
        have K2 := Lib.hid k2
        have K3 := Lib.hid k3
        clear k1 k2 k3
        go_wp2_with fail
        refine (mixValid_any _ _ _ _ st x _ hQ.sees (by omega) hX.sees (by omega)).mono ?_
        rintro _ w7 ⟨rfl, hb1⟩
        rw [K1.out]
        replace hQ := own_hi (hQ.below hb1) hb1.size
        replace hX := own_hi (hX.below hb1) hb1.size
        replace hQ2 := own_hi (hQ2.below hb1) hb1.size
        replace hY2 := own_hi (hY2.below hb1) hb1.size
        replace hG := hG.below hb1 hG.lt
        replace hH := hH.below hb1 hH.lt
        replace hb := below_next hb hb1
        clear hb1
        have e_hG := hG.cell
        go_wp2_with fail
        clear e_hG
        refine (mixMeets_any _ _ _ _ st x _ hQ.sees (by omega) hX.sees (by omega) _ _ _ _ _ _).mono ?_
        rintro _ w8 ⟨rfl, hb1⟩
        rw [K2.out]
        replace hQ := own_hi (hQ.below hb1) hb1.size
        replace hX := own_hi (hX.below hb1) hb1.size
        replace hQ2 := own_hi (hQ2.below hb1) hb1.size
        replace hY2 := own_hi (hY2.below hb1) hb1.size
        replace hG := hG.below hb1 hG.lt
        replace hH := hH.below hb1 hH.lt
        replace hb := below_next hb hb1
        clear hb1
        go_wp2_with fail
        refine (mixTons_any _ _ _ _ hX.sees (by omega)).mono ?_
        rintro _ _ ⟨rfl, rfl⟩
        rw [K3.out]
        go_wp2_with fail
        go_ret
        exact ⟨rfl, hb⟩
end Go.Proofs.YtlhjncefckidjaaDoor
