/-
  The walk of the law FnMixTake.
-/
import Derived.Test.YtdfbkldppblefaaDoorDu
import Derived.Test.YtdfbkldppblefaaDoorPn
import Derived.Test.YtdfbkldppblefaaDoorLat
namespace Go.Proofs.YtdfbkldppblefaaDoor
open Go.RowKit
set_option linter.unusedVariables false
theorem sameStuffs_same (A A' : Option Addr) (c c' : Nat) (l : List Stuff) (w : World) (hs : Sees w w.heap.size A (ints (flatS l))) (hs' : Sees w w.heap.size A' (ints (flatS l))) (hn : l.length ≤ 1048576) :
    Calls Tryd.prog 45 #[.slice A l.length c, .slice A' l.length c'] w fun e w' => e = .returned (.bool true) ∧ Below w.heap.size w w' := by
  go_enter Tryd.func45, Tryd.ntmps45
  go_wp2_with fail
  go_loopw [5] (fun i wr => ∃ k : Nat, k ≤ l.length ∧ i = .int .i64 k ∧ Below w.heap.size w wr) (fun i _ => l.length - (intOf i).toNat)
  case atStart => exact ⟨0, Nat.zero_le _, rfl, Below.refl _ _⟩
  case round =>
    obtain ⟨k, hk, rfl, hb⟩ := hrel
    by_cases hlt : k < l.length
    · obtain ⟨b, off, a1, a2, a3, a4, a5, rfl, hbB, hl, c0, c1, c2, c3, c4⟩ := (hs.below hb).stuff_at hlt
      obtain ⟨b', off', a1', a2', a3', a4', a5', rfl, hbB', hl', c0', c1', c2', c3', c4'⟩ := (hs'.below hb).stuff_at hlt
      rw [hl] at hl'
      injection hl' with hl'
      injection hl' with h1 h2 h3 h4 h5
      subst h1; subst h2; subst h3; subst h4; subst h5
      clear hl
      go_wp2_with fail
      go_quiet (fail)
      go_wp2_with fail
      go_roundw
      case rel => exact ⟨k + 1, by omega, by go_num, below_drewN hb _⟩
      case measure => simp [intOf]; omega
    · go_wp2_with fail
      go_ret
      exact ⟨rfl, hb⟩
theorem taken_bad {l : List Stuff} {x : List Int} (h : mixOk l x = false) : takenS l x = [] := by simp [takenS, h]
theorem taken_len {l : List Stuff} {x : List Int} (h : mixOk l x = true) : (takenS l x).length = l.length := by
  simp [takenS, h, mixOk_len h]
theorem stock_take {l : List Stuff} {k : Nat} {s : Stuff} (h : l[k]? = some s) : stockSum (l.take (k + 1)) = stockSum (l.take k) + s.k := by
  obtain ⟨hk, rfl⟩ := List.getElem?_eq_some_iff.1 h
  unfold stockSum
  rw [List.take_succ_eq_append_getElem hk, sumF_append]
  simp [sumF]
theorem stock_bounds {l : List Stuff} (h : stuffsOk l = true) (k : Nat) : 0 ≤ stockSum (l.take k) ∧ stockSum (l.take k) ≤ 36 := by
  have h1 := sumF_bounds (f := fun s : Stuff => s.k) (M := 9) (by omega) (l := l.take k) fun s hs => by
    have := stuff_bounds h (List.mem_of_mem_take hs)
    omega
  have h2 := stuffs_len h
  have h3 : (l.take k).length ≤ 4 := by simp; omega
  unfold stockSum
  omega
theorem taken_le5 {l : List Stuff} {x : List Int} (h : l.length ≤ 5) : (takenS l x).length ≤ 5 := by
  unfold takenS
  split
  · simp; omega
  · simp
theorem mixTons_b (A : Option Addr) (c : Nat) (l : List Int) (w : World) (hs : Sees w w.heap.size A (ints l)) (hn : l.length ≤ 1048576) :
    Calls Tryd.prog 22 #[.slice A l.length c] w fun e w' => e = .returned (.int .i64 (tonsOf l)) ∧ Below w.heap.size w w' :=
  (mixTons_any A c l w hs hn).mono (by rintro _ _ ⟨rfl, rfl⟩; exact ⟨rfl, Below.refl _ _⟩)
set_option maxHeartbeats 4000000 in
theorem fnMixTake_walk (A : Option Addr) (n c : Nat) (l : List Int) (w : World) (hs : Sees w w.heap.size A (bys l)) (hl : l.length = n) (hby : ∀ z ∈ l, byteB z) (hc : n ≤ c) (hm : c ≤ maxLen) :
    Calls Tryd.prog 12 #[.slice A n c] w fun e w' => e = .returned (.bool true) ∧ Below w.heap.size w w' := by
  have hm' := hm
  unfold maxLen at hm'
  by_cases hn : n ≤ 1048576
  case neg =>
    go_enter Tryd.func12, Tryd.ntmps12
    go_wp2_with fail
    go_ret
    exact ⟨rfl, Below.refl _ _⟩
  obtain ⟨j0, ji, jz0, jz1, jz2⟩ := info_parts infoInt2
  go_enter Tryd.func12, Tryd.ntmps12
  go_wp2_with fail
  refine (drawMixTake_any A n c l _ hs hl hby hc hm).mono ?_
  rintro _ w1 ⟨st, A1, c1, x, A2, c2, hsm, hlen, hxl, hxs, rfl, hQ, hX, hb⟩
  have Hsm := Lib.hid hsm
  have Hxs := Lib.hid hxs
  clear hsm hxs
  go_wp2_with fail
  refine (mixTake_any _ _ _ _ _ _ _ hQ.sees (by omega) hX.sees (by omega)).mono ?_
  rintro _ w2 ⟨A3, c3, rfl, hT, hb1⟩
  replace hQ := own_hi (hQ.below hb1) hb1.size
  replace hX := own_hi (hX.below hb1) hb1.size
  replace hb := below_next hb hb1
  clear hb1
  go_wp2_with fail
  refine (sMixTake_any _ _ _ _ _ _ _ hQ.sees (by omega) hX.sees (by omega)).mono ?_
  rintro _ w3 ⟨A4, c4, rfl, hT4, hb1⟩
  replace hQ := own_hi (hQ.below hb1) hb1.size
  replace hX := own_hi (hX.below hb1) hb1.size
  replace hT := own_hi (hT.below hb1) hb1.size
  replace hb := below_next hb hb1
  clear hb1
  have hT5 := taken_le5 (x := x) hlen
  obtain ⟨Y, HY⟩ : ∃ Y, Y = takenS st x := ⟨_, rfl⟩
  rw [← HY] at hT hT4 hT5 ⊢
  replace HY := Lib.hid HY
  cases hok : mixOk st x with
  | false =>
    have hY0 : Y = [] := by rw [HY.out]; exact taken_bad hok
    subst hY0
    clear hok
    go_wp2_with fail
    refine (sameStuffs_same _ _ _ _ _ _ hT.sees hT4.sees (by omega)).mono ?_
    rintro _ w4 ⟨rfl, hb1⟩
    clear hT4
    replace hQ := own_hi (hQ.below hb1) hb1.size
    replace hX := own_hi (hX.below hb1) hb1.size
    replace hT := own_hi (hT.below hb1) hb1.size
    replace hb := below_next hb hb1
    clear hb1
    go_wp2_with fail
    refine (alive_any _).mono ?_
    rintro _ w9 ⟨rfl, hb1⟩
    go_wp2_with fail
    go_ret
    exact ⟨rfl, below_next hb hb1⟩
  | true =>
    have hsk := (mixOk_parts hok).1
    have hYs : stuffsOk Y = true := by rw [HY.out]; exact taken_stuffs hok
    have hYt : stockSum st - stockSum Y = tonsOf x := by rw [HY.out]; exact taken_tons hok
    have hYl : Y.length = st.length := by rw [HY.out]; exact taken_len hok
    have Hsk := Lib.hid hsk
    have HYs := Lib.hid hYs
    have HYt := Lib.hid hYt
    have HYl := Lib.hid hYl
    clear hok hsk hYs hYt hYl
    go_wp2_with fail
    refine (sameStuffs_same _ _ _ _ _ _ hT.sees hT4.sees (by omega)).mono ?_
    rintro _ w4 ⟨rfl, hb1⟩
    clear hT4
    replace hQ := own_hi (hQ.below hb1) hb1.size
    replace hX := own_hi (hX.below hb1) hb1.size
    replace hT := own_hi (hT.below hb1) hb1.size
    replace hb := below_next hb hb1
    clear hb1
    go_wp2_with fail
    go_loop [9, 10, 11] (fun t9 t10 i => ∃ k : Nat, k ≤ st.length ∧ i = .int .i64 k ∧ t9 = .int .i64 (stockSum (st.take k)) ∧ t10 = .int .i64 (stockSum (Y.take k))) (fun _ _ i => st.length - (intOf i).toNat)
    case atStart => exact ⟨0, Nat.zero_le _, rfl, rfl, rfl⟩
    case round =>
      obtain ⟨k, hk, rfl, rfl, rfl⟩ := hrel
      have hB1 := stock_bounds Hsk.out k
      have hB2 := stock_bounds HYs.out k
      by_cases hlt : k < st.length
      · obtain ⟨b1, off1, p1, p2, p3, p4, p5, rfl, hbB1, hs1, e0, e1, e2, e3, e4⟩ := hQ.sees.stuff_at hlt
        obtain ⟨b2, off2, q1, q2, q3, q4, q5, rfl, hbB2, hs2, f0, f1, f2, f3, f4⟩ := hT.sees.stuff_at (k := k) (by rw [HYl.out]; exact hlt)
        have g1 := stock_take hs1
        have g2 := stock_take hs2
        simp only at g1 g2
        have g3 := stock_bounds Hsk.out (k + 1)
        have g4 := stock_bounds HYs.out (k + 1)
        rw [g1] at g3
        rw [g2] at g4
        have G1 := Lib.hid g1
        have G2 := Lib.hid g2
        have hiY : (k : Int) < (Y.length : Int) := by rw [HYl.out]; omega
        clear hs1 hs2 g1 g2 e0 e1 e2 e3 f0 f1 f2 f3
        generalize hz1 : stockSum (st.take k) = z1 at G1 hB1 g3
        generalize hz2 : stockSum (Y.take k) = z2 at G2 hB2 g4
        clear hz1 hz2
        go_wp2_with fail
        go_round
        case rel => exact ⟨k + 1, by omega, by go_num, by rw [G1.out], by rw [G2.out]⟩
        case measure => simp [intOf]; omega
      · have hkl : k = st.length := by omega
        subst hkl
        rw [List.take_of_length_le (Nat.le_refl _)] at hB1 ⊢
        rw [List.take_of_length_le (l := Y) (by rw [HYl.out]; exact Nat.le_refl _)] at hB2 ⊢
        have hYt := HYt.out
        have htb : -100 ≤ tonsOf x ∧ tonsOf x ≤ 100 := by omega
        generalize stockSum st = z1 at hB1 hYt ⊢
        generalize stockSum Y = z2 at hB2 hYt ⊢
        have HYt2 := Lib.hid hYt
        clear hYt
        go_wp2_with fail
        refine (mixTake_any A3 A2 c3 c2 Y x w4 hT.sees (by omega) hX.sees (by omega)).mono ?_
        rintro _ w5 ⟨A6, c6, rfl, hT6, hb1⟩
        clear hT6
        replace hQ := own_hi (hQ.below hb1) hb1.size
        replace hX := own_hi (hX.below hb1) hb1.size
        replace hT := own_hi (hT.below hb1) hb1.size
        replace hb := below_next hb hb1
        clear hb1
        go_wp2_with fail
        refine (stuffsValid_any _ _ _ _ hT.sees (by omega)).mono ?_
        rintro _ w6 ⟨rfl, hb1⟩
        rw [HYs.out]
        replace hQ := own_hi (hQ.below hb1) hb1.size
        replace hX := own_hi (hX.below hb1) hb1.size
        replace hT := own_hi (hT.below hb1) hb1.size
        replace hb := below_next hb hb1
        clear hb1
        go_wp2_with fail
        refine (mixTons_b _ _ _ _ hX.sees (by omega)).mono ?_
        rintro _ w7 ⟨rfl, hb1⟩
        rw [← HYt2.out]
        replace hQ := own_hi (hQ.below hb1) hb1.size
        replace hX := own_hi (hX.below hb1) hb1.size
        replace hT := own_hi (hT.below hb1) hb1.size
        replace hb := below_next hb hb1
        clear hb1
        go_wp2_with fail
        refine (mixValid_any A3 A2 c3 c2 Y x w7 hT.sees (by omega) hX.sees (by omega)).mono ?_
        rintro _ w8 ⟨rfl, hb1⟩
        replace hQ := own_hi (hQ.below hb1) hb1.size
        replace hX := own_hi (hX.below hb1) hb1.size
        replace hT := own_hi (hT.below hb1) hb1.size
        replace hb := below_next hb hb1
        clear hb1
        generalize mixOk Y x = bb
        cases bb
        · go_wp2_with fail
          go_ret
          exact ⟨rfl, hb⟩
        · go_wp2_with fail
          go_ret
          exact ⟨rfl, hb⟩
end Go.Proofs.YtdfbkldppblefaaDoor
