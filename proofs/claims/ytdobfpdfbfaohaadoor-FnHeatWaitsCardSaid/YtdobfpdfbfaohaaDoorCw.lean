/-
  Contracts of HeatWaits, LadlesAt and LadlesMost in the program and in the reference.
-/
import Derived.Test.YtdobfpdfbfaohaaDoorCk
namespace Go.Proofs.YtdobfpdfbfaohaaDoor
open Go.RowKit
set_option linter.unusedVariables false
attribute [local go_sem high] run_maxI run_minI
theorem zip_tail_at {h : List Heat} {t : List Int} {k : Nat} {a : Heat} {y : Int} (h1 : h[k]? = some a) (h3 : t[k + 1]? = some y) : (h.zip t.tail)[k]? = some (a, y) :=
  zip_at h1 (by rw [List.getElem?_tail]; exact h3)
theorem cast_at {h : List Heat} {c : Caster} {t : List Int} {k : Nat} {a : Heat} {x y : Int} (hk : castOk h c t = true) (h1 : h[k]? = some a) (h2 : t[k]? = some x) (h3 : t[k + 1]? = some y) : a.r ≤ x ∧ 0 ≤ x ∧ x ≤ 9999 ∧ 0 ≤ a.t ∧ a.t ≤ a.r ∧ 0 ≤ y ∧ y ≤ 9999 := by
  obtain ⟨p1, p2, p3, p4, p5⟩ := castOk_parts hk
  have q := all_at p5 (trip_at h1 h2 h3)
  have := heat_bounds p1 h1
  have := minute_bounds p4 h2
  have := minute_bounds p4 h3
  simp only [castB, Bool.and_eq_true, decide_eq_true_eq] at q
  omega
set_option maxHeartbeats 1000000 in
theorem heatWaits_any (A A' : Option Addr) (c c' : Nat) (h : List Heat) (t : List Int) (w : World) (hs : Sees w w.heap.size A (ints (flatH h))) (hn : h.length ≤ 1048576) (hs' : Sees w w.heap.size A' (ints t)) (hn' : t.length ≤ 1048576) (f s : Int) :
    Calls Tryd.prog 40 #[.slice A h.length c, .agg #[.int .i64 f, .int .i64 s], .slice A' t.length c'] w fun e w' => e = .returned (.int .i64 (heatWaits h ⟨f, s⟩ t)) ∧ Below w.heap.size w w' := by
  go_enter Tryd.func40, Tryd.ntmps40
  have hbW : Below w.heap.size w (w.alloc (.cells #[.int .i64 f, .int .i64 s] 24)) := (Below.refl _ _).alloc (Nat.le_refl _) _
  have hB0 := Blk.made w 24 #[.int .i64 f, .int .i64 s]
  go_wp2_with fail
  generalize w.alloc _ = W at hbW hB0 ⊢
  replace hs := hs.next hbW
  replace hs' := hs'.next hbW
  refine (castOk_any _ _ _ _ _ _ _ hs hn hs' hn' _ _).mono ?_
  rintro _ w1 ⟨rfl, hb⟩
  replace hs := hs.next hb
  replace hs' := hs'.next hb
  replace hB0 := hB0.below hb hB0.lt
  replace hbW := below_next hbW hb
  clear hb
  cases hok : castOk h ⟨f, s⟩ t with
  | false =>
    go_wp2_with fail
    go_ret
    exact ⟨ret_int (by simp [heatWaits, hok]), hbW⟩
  | true =>
    have hh6 := heats_len (castOk_parts hok).1
    have Hlen := Lib.hid (castOk_len hok)
    have Hok := Lib.hid hok
    clear hok
    go_wp2_with fail
    go_loopw [7, 17] (fun u i wr => ∃ k : Nat, ∃ v : Int, k ≤ h.length ∧ i = .int .i64 k ∧ u = .int .i64 v ∧ v = waitsOf ((h.zip t).take k) ∧ 0 ≤ v ∧ v ≤ 9999 * (k : Int) ∧ Below w1.heap.size w1 wr) (fun _ i _ => h.length - (intOf i).toNat)
    case atStart => exact ⟨0, 0, Nat.zero_le _, rfl, rfl, rfl, by omega, by omega, Below.refl _ _⟩
    case round =>
      obtain ⟨k, v, hk, rfl, rfl, hv, hv0, hv1, hb⟩ := hrel
      have Hv := Lib.hid hv
      clear hv
      by_cases hlt : k < h.length
      · skip
        obtain ⟨b, off, a1, a2, a3, rfl, hbB, hl, c0, c1, c2⟩ := (hs.below hb).heat_at hlt
        have hlenO := Hlen.out
        obtain ⟨b', off', x, hA, hbB', hx, d0⟩ := (hs'.below hb).int_at (k := k) (by omega)
        subst hA
        obtain ⟨b2, off2, y, hA, hbB2, hy, d1⟩ := (hs'.below hb).int_at (k := k + 1) (by omega)
        injection hA with hA
        injection hA with e1 e2
        subst e1; subst e2
        obtain ⟨hq1, hq2, hq3, hq4, hq5, hq6, hq7⟩ := cast_at Hok.out hl hx hy
        simp only at hq1 hq4 hq5
        have hk1 : k + 1 < t.length := by omega
        have hk2 : (k : Int) + 1 < t.length := by omega
        have hk3 : (k : Int) < t.length := by omega
        have hw1 : b < wr.heap.size := by have := hb.size; omega
        have hw2 : b' < wr.heap.size := by have := hb.size; omega
        have hidx : ((k : Int) + 1).toNat = k + 1 := by omega
        have hidx0 : (0 : Int) ≤ (k : Int) + 1 := by omega
        have Hz := Lib.hid (zip_at hl hx)
        have Hy := Lib.hid (zip_tail_at hl hy)
        have Hh := Lib.hid hl
        clear hl hx hy hlenO
        have hwr1 : IntKind.i64.wrap (x - a3) = x - a3 := wrap_in (by omega) (by omega)
        have hwr2 : IntKind.i64.wrap (v + (x - a3)) = v + (x - a3) := wrap_in (by omega) (by omega)
        go_wp2_with fail
        go_quiet (fail)
        clear hwr1 hwr2
        go_wp2_with fail
        go_roundw
        case rel => exact ⟨k + 1, v + (x - a3), by omega, by go_num, int_eq (by omega), by unfold waitsOf; rw [foldl_take_succ _ _ _ _ _ Hz.out, Hv.out]; rfl, by omega, by omega, below_drewN (hb.alloc hb.size _) _⟩
        case measure => simp [intOf]; omega
      · go_wp2_with fail
        go_ret
        have e : k = h.length := by omega
        have hz := Hv.out
        have hlenO := Hlen.out
        rw [e, List.take_of_length_le (by simp; omega)] at hz
        exact ⟨ret_int (by simp [heatWaits, Hok.out, hz]), below_next hbW hb⟩
set_option maxHeartbeats 1000000 in
theorem sHeatWaits_any (A A' : Option Addr) (c c' : Nat) (h : List Heat) (t : List Int) (w : World) (hs : Sees w w.heap.size A (ints (flatH h))) (hn : h.length ≤ 1048576) (hs' : Sees w w.heap.size A' (ints t)) (hn' : t.length ≤ 1048576) (f s : Int) :
    Calls Tryd.prog 45 #[.slice A h.length c, .agg #[.int .i64 f, .int .i64 s], .slice A' t.length c'] w fun e w' => e = .returned (.int .i64 (heatWaits h ⟨f, s⟩ t)) ∧ Below w.heap.size w w' := by
  go_enter Tryd.func45, Tryd.ntmps45
  have hbW : Below w.heap.size w (w.alloc (.cells #[.int .i64 f, .int .i64 s] 24)) := (Below.refl _ _).alloc (Nat.le_refl _) _
  have hB0 := Blk.made w 24 #[.int .i64 f, .int .i64 s]
  go_wp2_with fail
  generalize w.alloc _ = W at hbW hB0 ⊢
  replace hs := hs.next hbW
  replace hs' := hs'.next hbW
  refine (sCastOk_any _ _ _ _ _ _ _ hs hn hs' hn' _ _).mono ?_
  rintro _ w1 ⟨rfl, hb⟩
  replace hs := hs.next hb
  replace hs' := hs'.next hb
  replace hB0 := hB0.below hb hB0.lt
  replace hbW := below_next hbW hb
  clear hb
  cases hok : castOk h ⟨f, s⟩ t with
  | false =>
    go_wp2_with fail
    go_ret
    exact ⟨ret_int (by simp [heatWaits, hok]), hbW⟩
  | true =>
    have hh6 := heats_len (castOk_parts hok).1
    have Hlen := Lib.hid (castOk_len hok)
    have Hok := Lib.hid hok
    clear hok
    go_wp2_with fail
    go_loopw [7, 8] (fun u i wr => ∃ k : Nat, ∃ v : Int, k ≤ h.length ∧ i = .int .i64 k ∧ u = .int .i64 v ∧ v = waitsOf ((h.zip t).take k) ∧ 0 ≤ v ∧ v ≤ 9999 * (k : Int) ∧ Below w1.heap.size w1 wr) (fun _ i _ => h.length - (intOf i).toNat)
    case atStart => exact ⟨0, 0, Nat.zero_le _, rfl, rfl, rfl, by omega, by omega, Below.refl _ _⟩
    case round =>
      obtain ⟨k, v, hk, rfl, rfl, hv, hv0, hv1, hb⟩ := hrel
      have Hv := Lib.hid hv
      clear hv
      by_cases hlt : k < h.length
      · skip
        obtain ⟨b, off, a1, a2, a3, rfl, hbB, hl, c0, c1, c2⟩ := (hs.below hb).heat_at hlt
        have hlenO := Hlen.out
        obtain ⟨b', off', x, hA, hbB', hx, d0⟩ := (hs'.below hb).int_at (k := k) (by omega)
        subst hA
        obtain ⟨b2, off2, y, hA, hbB2, hy, d1⟩ := (hs'.below hb).int_at (k := k + 1) (by omega)
        injection hA with hA
        injection hA with e1 e2
        subst e1; subst e2
        obtain ⟨hq1, hq2, hq3, hq4, hq5, hq6, hq7⟩ := cast_at Hok.out hl hx hy
        simp only at hq1 hq4 hq5
        have hk1 : k + 1 < t.length := by omega
        have hk2 : (k : Int) + 1 < t.length := by omega
        have hk3 : (k : Int) < t.length := by omega
        have hw1 : b < wr.heap.size := by have := hb.size; omega
        have hw2 : b' < wr.heap.size := by have := hb.size; omega
        have hidx : ((k : Int) + 1).toNat = k + 1 := by omega
        have hidx0 : (0 : Int) ≤ (k : Int) + 1 := by omega
        have Hz := Lib.hid (zip_at hl hx)
        have Hy := Lib.hid (zip_tail_at hl hy)
        have Hh := Lib.hid hl
        clear hl hx hy hlenO
        have hwr1 : IntKind.i64.wrap (v + x) = v + x := wrap_in (by omega) (by omega)
        have hwr2 : IntKind.i64.wrap (v + x - a3) = v + x - a3 := wrap_in (by omega) (by omega)
        go_wp2_with fail
        go_quiet (fail)
        clear hwr1 hwr2
        go_wp2_with fail
        go_roundw
        case rel => exact ⟨k + 1, v + (x - a3), by omega, by go_num, int_eq (by omega), by unfold waitsOf; rw [foldl_take_succ _ _ _ _ _ Hz.out, Hv.out]; rfl, by omega, by omega, below_drewN hb _⟩
        case measure => simp [intOf]; omega
      · go_wp2_with fail
        go_ret
        have e : k = h.length := by omega
        have hz := Hv.out
        have hlenO := Hlen.out
        rw [e, List.take_of_length_le (by simp; omega)] at hz
        exact ⟨ret_int (by simp [heatWaits, Hok.out, hz]), below_next hbW hb⟩
set_option maxHeartbeats 1000000 in
theorem ladlesAt_any (A A' : Option Addr) (c c' : Nat) (h : List Heat) (t : List Int) (w : World) (hs : Sees w w.heap.size A (ints (flatH h))) (hn : h.length ≤ 1048576) (hs' : Sees w w.heap.size A' (ints t)) (hn' : t.length ≤ 1048576) (f s : Int) (m : Int) :
    Calls Tryd.prog 42 #[.slice A h.length c, .agg #[.int .i64 f, .int .i64 s], .slice A' t.length c', .int .i64 m] w fun e w' => e = .returned (.int .i64 (ladlesAt h ⟨f, s⟩ t m)) ∧ Below w.heap.size w w' := by
  go_enter Tryd.func42, Tryd.ntmps42
  have hbW : Below w.heap.size w (w.alloc (.cells #[.int .i64 f, .int .i64 s] 24)) := (Below.refl _ _).alloc (Nat.le_refl _) _
  have hB0 := Blk.made w 24 #[.int .i64 f, .int .i64 s]
  go_wp2_with fail
  generalize w.alloc _ = W at hbW hB0 ⊢
  replace hs := hs.next hbW
  replace hs' := hs'.next hbW
  refine (castOk_any _ _ _ _ _ _ _ hs hn hs' hn' _ _).mono ?_
  rintro _ w1 ⟨rfl, hb⟩
  replace hs := hs.next hb
  replace hs' := hs'.next hb
  replace hB0 := hB0.below hb hB0.lt
  replace hbW := below_next hbW hb
  clear hb
  cases hok : castOk h ⟨f, s⟩ t with
  | false =>
    go_wp2_with fail
    go_ret
    exact ⟨ret_int (by simp [ladlesAt, hok]), hbW⟩
  | true =>
    have hh6 := heats_len (castOk_parts hok).1
    have Hlen := Lib.hid (castOk_len hok)
    have Hok := Lib.hid hok
    clear hok
    go_wp2_with fail
    go_loopw [9, 19] (fun u i wr => ∃ k n : Nat, k ≤ h.length ∧ i = .int .i64 k ∧ u = .int .i64 n ∧ n = fullOf m ((h.zip t.tail).take k) ∧ n ≤ k ∧ Below w1.heap.size w1 wr) (fun _ i _ => h.length - (intOf i).toNat)
    case atStart => exact ⟨0, 0, Nat.zero_le _, rfl, rfl, rfl, by omega, Below.refl _ _⟩
    case round =>
      obtain ⟨k, n, hk, rfl, rfl, hv, hv1, hb⟩ := hrel
      have Hv := Lib.hid hv
      clear hv
      by_cases hlt : k < h.length
      · skip
        obtain ⟨b, off, a1, a2, a3, rfl, hbB, hl, c0, c1, c2⟩ := (hs.below hb).heat_at hlt
        have hlenO := Hlen.out
        obtain ⟨b', off', x, hA, hbB', hx, d0⟩ := (hs'.below hb).int_at (k := k) (by omega)
        subst hA
        obtain ⟨b2, off2, y, hA, hbB2, hy, d1⟩ := (hs'.below hb).int_at (k := k + 1) (by omega)
        injection hA with hA
        injection hA with e1 e2
        subst e1; subst e2
        obtain ⟨hq1, hq2, hq3, hq4, hq5, hq6, hq7⟩ := cast_at Hok.out hl hx hy
        simp only at hq1 hq4 hq5
        have hk1 : k + 1 < t.length := by omega
        have hk2 : (k : Int) + 1 < t.length := by omega
        have hk3 : (k : Int) < t.length := by omega
        have hw1 : b < wr.heap.size := by have := hb.size; omega
        have hw2 : b' < wr.heap.size := by have := hb.size; omega
        have hidx : ((k : Int) + 1).toNat = k + 1 := by omega
        have hidx0 : (0 : Int) ≤ (k : Int) + 1 := by omega
        have Hz := Lib.hid (zip_at hl hx)
        have Hy := Lib.hid (zip_tail_at hl hy)
        have Hh := Lib.hid hl
        clear hl hx hy hlenO
        by_cases g1 : a2 ≤ m
        · by_cases g2 : m < y
          · go_wp2_with fail
            go_roundw
            case rel => exact ⟨k + 1, n + 1, by omega, by go_num, int_eq (by omega), by unfold fullOf; rw [countP_take_succ _ _ _ _ Hy.out, Hv.out]; simp [fullB, fullOf, g1, g2], by omega, hb.alloc hb.size _⟩
            case measure => simp [intOf]; omega
          · go_wp2_with fail
            go_roundw
            case rel => exact ⟨k + 1, n, by omega, by go_num, rfl, by unfold fullOf; rw [countP_take_succ _ _ _ _ Hy.out, Hv.out]; simp [fullB, fullOf, g2], by omega, hb.alloc hb.size _⟩
            case measure => simp [intOf]; omega
        · go_wp2_with fail
          go_roundw
          case rel => exact ⟨k + 1, n, by omega, by go_num, rfl, by unfold fullOf; rw [countP_take_succ _ _ _ _ Hy.out, Hv.out]; simp [fullB, fullOf, g1], by omega, hb.alloc hb.size _⟩
          case measure => simp [intOf]; omega
      · go_wp2_with fail
        go_ret
        have e : k = h.length := by omega
        have hz := Hv.out
        have hlenO := Hlen.out
        rw [e, List.take_of_length_le (by simp; omega)] at hz
        exact ⟨ret_int (by simp [ladlesAt, Hok.out, hz]), below_next hbW hb⟩
set_option maxHeartbeats 1000000 in
theorem sLadlesAt_any (A A' : Option Addr) (c c' : Nat) (h : List Heat) (t : List Int) (w : World) (hs : Sees w w.heap.size A (ints (flatH h))) (hn : h.length ≤ 1048576) (hs' : Sees w w.heap.size A' (ints t)) (hn' : t.length ≤ 1048576) (f s : Int) (m : Int) :
    Calls Tryd.prog 43 #[.slice A h.length c, .agg #[.int .i64 f, .int .i64 s], .slice A' t.length c', .int .i64 m] w fun e w' => e = .returned (.int .i64 (ladlesAt h ⟨f, s⟩ t m)) ∧ Below w.heap.size w w' := by
  go_enter Tryd.func43, Tryd.ntmps43
  have hbW : Below w.heap.size w (w.alloc (.cells #[.int .i64 f, .int .i64 s] 24)) := (Below.refl _ _).alloc (Nat.le_refl _) _
  have hB0 := Blk.made w 24 #[.int .i64 f, .int .i64 s]
  go_wp2_with fail
  generalize w.alloc _ = w1 at hbW hB0 ⊢
  replace hs := hs.next hbW
  replace hs' := hs'.next hbW
  cases hok : castOk h ⟨f, s⟩ t with
  | false =>
    go_loopw [9, 10] (fun u i wr => i = .int .i64 0 ∧ u = .int .i64 0 ∧ wr = w1) (fun _ _ _ => 0)
    case atStart => exact ⟨rfl, rfl, rfl⟩
    case round =>
      obtain ⟨rfl, rfl, rfl⟩ := hrel
      have cB := hB0.cell
      by_cases hlt : 0 < h.length
      · go_wp2_with fail
        refine (sCastOk_any _ _ _ _ _ _ _ hs hn hs' hn' _ _).mono ?_
        rintro _ w2 ⟨rfl, hb⟩
        go_wp2_with fail
        go_ret
        exact ⟨ret_int (by simp [ladlesAt, hok]), below_next hbW hb⟩
      · have h0 : h.length = 0 := by omega
        go_wp2_with fail
        go_ret
        exact ⟨ret_int (by simp [ladlesAt, hok]), hbW⟩
  | true =>
    have hh6 := heats_len (castOk_parts hok).1
    have Hlen := Lib.hid (castOk_len hok)
    have Hok := Lib.hid hok
    clear hok
    go_loopw [9, 10] (fun u i wr => ∃ k n : Nat, k ≤ h.length ∧ i = .int .i64 k ∧ u = .int .i64 n ∧ n = fullOf m ((h.zip t.tail).take k) ∧ n ≤ k ∧ Below w1.heap.size w1 wr) (fun _ i _ => h.length - (intOf i).toNat)
    case atStart => exact ⟨0, 0, Nat.zero_le _, rfl, rfl, rfl, by omega, Below.refl _ _⟩
    case round =>
      obtain ⟨k, n, hk, rfl, rfl, hv, hv1, hb⟩ := hrel
      have Hv := Lib.hid hv
      clear hv
      have hB := hB0.below hb hB0.lt
      have cB := hB.cell
      by_cases hlt : k < h.length
      · go_wp2_with fail
        clear cB
        refine (sCastOk_any _ _ _ _ _ _ _ (hs.next hb) hn (hs'.next hb) hn' _ _).mono ?_
        rintro _ w2 ⟨rfl, hb2⟩
        rw [Hok.out]
        obtain ⟨wr', hwr⟩ : ∃ wr', wr' = wr := ⟨_, rfl⟩
        replace hb := below_next hb hb2
        clear hb2 hB hwr
        obtain ⟨wr, rfl⟩ : ∃ wr, wr = w2 := ⟨_, rfl⟩
        obtain ⟨b, off, a1, a2, a3, rfl, hbB, hl, c0, c1, c2⟩ := (hs.below hb).heat_at hlt
        have hlenO := Hlen.out
        obtain ⟨b', off', x, hA, hbB', hx, d0⟩ := (hs'.below hb).int_at (k := k) (by omega)
        subst hA
        obtain ⟨b2, off2, y, hA, hbB2, hy, d1⟩ := (hs'.below hb).int_at (k := k + 1) (by omega)
        injection hA with hA
        injection hA with e1 e2
        subst e1; subst e2
        obtain ⟨hq1, hq2, hq3, hq4, hq5, hq6, hq7⟩ := cast_at Hok.out hl hx hy
        simp only at hq1 hq4 hq5
        have hk1 : k + 1 < t.length := by omega
        have hk2 : (k : Int) + 1 < t.length := by omega
        have hk3 : (k : Int) < t.length := by omega
        have hw1 : b < wr.heap.size := by have := hb.size; omega
        have hw2 : b' < wr.heap.size := by have := hb.size; omega
        have hidx : ((k : Int) + 1).toNat = k + 1 := by omega
        have hidx0 : (0 : Int) ≤ (k : Int) + 1 := by omega
        have Hz := Lib.hid (zip_at hl hx)
        have Hy := Lib.hid (zip_tail_at hl hy)
        have Hh := Lib.hid hl
        clear hl hx hy hlenO
        by_cases g1 : a2 ≤ m
        · by_cases g2 : m < y
          · go_wp2_with fail
            go_roundw
            case rel => exact ⟨k + 1, n + 1, by omega, by go_num, int_eq (by omega), by unfold fullOf; rw [countP_take_succ _ _ _ _ Hy.out, Hv.out]; simp [fullB, fullOf, g1, g2], by omega, hb⟩
            case measure => simp [intOf]; omega
          · go_wp2_with fail
            go_roundw
            case rel => exact ⟨k + 1, n, by omega, by go_num, rfl, by unfold fullOf; rw [countP_take_succ _ _ _ _ Hy.out, Hv.out]; simp [fullB, fullOf, g2], by omega, hb⟩
            case measure => simp [intOf]; omega
        · go_wp2_with fail
          go_roundw
          case rel => exact ⟨k + 1, n, by omega, by go_num, rfl, by unfold fullOf; rw [countP_take_succ _ _ _ _ Hy.out, Hv.out]; simp [fullB, fullOf]; omega, by omega, hb⟩
          case measure => simp [intOf]; omega
      · go_wp2_with fail
        go_ret
        have e : k = h.length := by omega
        have hz := Hv.out
        have hlenO := Hlen.out
        rw [e, List.take_of_length_le (by simp; omega)] at hz
        exact ⟨ret_int (by simp [ladlesAt, Hok.out, hz]), below_next hbW hb⟩
set_option maxHeartbeats 1000000 in
theorem ladlesMost_any (A A' : Option Addr) (c c' : Nat) (h : List Heat) (t : List Int) (w : World) (hs : Sees w w.heap.size A (ints (flatH h))) (hn : h.length ≤ 1048576) (hs' : Sees w w.heap.size A' (ints t)) (hn' : t.length ≤ 1048576) (f s : Int) :
    Calls Tryd.prog 47 #[.slice A h.length c, .agg #[.int .i64 f, .int .i64 s], .slice A' t.length c'] w fun e w' => e = .returned (.int .i64 (ladlesMost h ⟨f, s⟩ t)) ∧ Below w.heap.size w w' := by
  go_enter Tryd.func47, Tryd.ntmps47
  have hbW : Below w.heap.size w (w.alloc (.cells #[.int .i64 f, .int .i64 s] 24)) := (Below.refl _ _).alloc (Nat.le_refl _) _
  have hB0 := Blk.made w 24 #[.int .i64 f, .int .i64 s]
  go_wp2_with fail
  generalize w.alloc _ = W at hbW hB0 ⊢
  replace hs := hs.next hbW
  replace hs' := hs'.next hbW
  refine (castOk_any _ _ _ _ _ _ _ hs hn hs' hn' _ _).mono ?_
  rintro _ w1 ⟨rfl, hb⟩
  replace hs := hs.next hb
  replace hs' := hs'.next hb
  replace hB0 := hB0.below hb hB0.lt
  replace hbW := below_next hbW hb
  clear hb
  cases hok : castOk h ⟨f, s⟩ t with
  | false =>
    go_wp2_with fail
    go_ret
    exact ⟨ret_int (by simp [ladlesMost, hok]), hbW⟩
  | true =>
    have hh6 := heats_len (castOk_parts hok).1
    have Hok := Lib.hid hok
    clear hok
    go_wp2_with fail
    go_loopw [7, 17] (fun u i wr => ∃ k : Nat, k ≤ h.length ∧ i = .int .i64 k ∧ u = .int .i64 (mostOf h ⟨f, s⟩ t (h.take k)) ∧ Below w1.heap.size w1 wr) (fun _ i _ => h.length - (intOf i).toNat)
    case atStart => exact ⟨0, Nat.zero_le _, rfl, rfl, Below.refl _ _⟩
    case round =>
      obtain ⟨k, hk, rfl, rfl, hb⟩ := hrel
      by_cases hlt : k < h.length
      · obtain ⟨b, off, a1, a2, a3, hA, hbB, hl, c0, c1, c2⟩ := (hs.below hb).heat_at hlt
        subst hA
        have Hl := Lib.hid hl
        clear hl
        have hw1 : b < wr.heap.size := by have := hb.size; omega
        have hB := hB0.below hb hB0.lt
        have hgB := hB.lt
        have cB := hB.cell
        go_wp2_with fail
        have hb1 : Below w1.heap.size w1 (wr.alloc (.cells #[.int .i64 a1, .int .i64 a2, .int .i64 a3] 30)) := hb.alloc hb.size _
        generalize wr.alloc _ = wv at hb1 ⊢
        refine (ladlesAt_any _ _ _ _ _ _ _ (hs.next hb1) hn (hs'.next hb1) hn' _ _ _).mono ?_
        rintro _ w2 ⟨rfl, hb2⟩
        replace hb := below_next hb1 hb2
        clear hb1 hb2 cB
        go_wp2_with fail
        go_roundw
        case rel => exact ⟨k + 1, by omega, by go_num, by unfold mostOf; rw [foldl_take_succ _ _ _ _ _ Hl.out], hb⟩
        case measure => simp [intOf]; omega
      · go_wp2_with fail
        go_ret
        have e : k = h.length := by omega
        exact ⟨ret_int (by rw [e, List.take_length]; simp [ladlesMost, Hok.out]), below_next hbW hb⟩
set_option maxHeartbeats 1000000 in
theorem sLadlesMost_any (A A' : Option Addr) (c c' : Nat) (h : List Heat) (t : List Int) (w : World) (hs : Sees w w.heap.size A (ints (flatH h))) (hn : h.length ≤ 1048576) (hs' : Sees w w.heap.size A' (ints t)) (hn' : t.length ≤ 1048576) (f s : Int) :
    Calls Tryd.prog 48 #[.slice A h.length c, .agg #[.int .i64 f, .int .i64 s], .slice A' t.length c'] w fun e w' => e = .returned (.int .i64 (ladlesMost h ⟨f, s⟩ t)) ∧ Below w.heap.size w w' := by
  go_enter Tryd.func48, Tryd.ntmps48
  have hbW : Below w.heap.size w (w.alloc (.cells #[.int .i64 f, .int .i64 s] 24)) := (Below.refl _ _).alloc (Nat.le_refl _) _
  have hB0 := Blk.made w 24 #[.int .i64 f, .int .i64 s]
  go_wp2_with fail
  generalize w.alloc _ = W at hbW hB0 ⊢
  replace hs := hs.next hbW
  replace hs' := hs'.next hbW
  refine (sCastOk_any _ _ _ _ _ _ _ hs hn hs' hn' _ _).mono ?_
  rintro _ w1 ⟨rfl, hb⟩
  replace hs := hs.next hb
  replace hs' := hs'.next hb
  replace hB0 := hB0.below hb hB0.lt
  replace hbW := below_next hbW hb
  clear hb
  cases hok : castOk h ⟨f, s⟩ t with
  | false =>
    go_wp2_with fail
    go_ret
    exact ⟨ret_int (by simp [ladlesMost, hok]), hbW⟩
  | true =>
    have hh6 := heats_len (castOk_parts hok).1
    have Hok := Lib.hid hok
    clear hok
    go_wp2_with fail
    go_loopw [7, 8] (fun u i wr => ∃ k : Nat, k ≤ h.length ∧ i = .int .i64 k ∧ u = .int .i64 (mostOf h ⟨f, s⟩ t (h.take k)) ∧ Below w1.heap.size w1 wr) (fun _ i _ => h.length - (intOf i).toNat)
    case atStart => exact ⟨0, Nat.zero_le _, rfl, rfl, Below.refl _ _⟩
    case round =>
      obtain ⟨k, hk, rfl, rfl, hb⟩ := hrel
      by_cases hlt : k < h.length
      · obtain ⟨b, off, a1, a2, a3, hA, hbB, hl, c0, c1, c2⟩ := (hs.below hb).heat_at hlt
        subst hA
        have Hl := Lib.hid hl
        clear hl
        have hw1 : b < wr.heap.size := by have := hb.size; omega
        have hB := hB0.below hb hB0.lt
        have hgB := hB.lt
        have cB := hB.cell
        go_wp2_with fail
        go_region_held3 (fun w' => Below wr.heap.size wr w' ∧ ∀ b o, b < wr.heap.size → w'.cell? ⟨b, o, none⟩ = wr.cell? ⟨b, o, none⟩)
          (first | assumption | exact held_of ((Below.refl _ _).drew) | exact held_call (by assumption) (by assumption))
          (first
            | (go_at_call 43; refine (sLadlesAt_any _ _ _ _ _ _ _ (hs.next (below_next hb (And.left (by assumption)))) hn (hs'.next (below_next hb (And.left (by assumption)))) hn' _ _ _).mono ?_; rintro _ w2 ⟨rfl, hb2⟩))
        have hb3 : Below wr.heap.size wr w2 := And.left (by assumption)
        replace hb := below_next hb hb3
        clear hb2 hb3 cB
        go_wp2_with fail
        go_roundw
        case rel => exact ⟨k + 1, by omega, by go_num, by unfold mostOf; rw [foldl_take_succ _ _ _ _ _ Hl.out], hb⟩
        case measure => simp [intOf]; omega
      · go_wp2_with fail
        go_ret
        have e : k = h.length := by omega
        exact ⟨ret_int (by rw [e, List.take_length]; simp [ladlesMost, Hok.out]), below_next hbW hb⟩
end Go.Proofs.YtdobfpdfbfaohaaDoor
