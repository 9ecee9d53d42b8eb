/-
  Contracts of MixValid, MixCost, MixSums and MixMeets, in the program and in the reference.
-/
import Derived.Test.YtlhjncefckidjaaDoorMix
namespace Go.Proofs.YtlhjncefckidjaaDoor
open Go.RowKit
theorem wrap_w64' (n : Int) : IntKind.i64.wrap n = w64 n := by rw [IntKind.wrap_i64]; rfl
/-- A callee that leaves the world alone, met in a region that only reads. -/
theorem quiet_same {P : Program} {f : FuncId} {args : Array Value} {w : World} {n : Nat} {v : Value}
    (h : Calls P f args (w.drewN n) fun e w' => e = .returned v ∧ w.drewN n = w') : Calls P f args (w.drewN n) fun e w'' => e = .returned v ∧ ∃ m, w'' = w.drewN m :=
  h.mono fun _ _ ⟨he, hm⟩ => ⟨he, n, hm.symm⟩
set_option linter.unusedVariables false
theorem mixValid_any (A A' : Option Addr) (c c' : Nat) (l : List Stuff) (x : List Int) (w : World) (hs : Sees w w.heap.size A (ints (flatS l))) (hn : l.length ≤ 1048576) (hs' : Sees w w.heap.size A' (ints x)) (hn' : x.length ≤ 1048576) :
    Calls Tryd.prog 20 #[.slice A l.length c, .slice A' x.length c'] w fun e w' => e = .returned (.bool (mixOk l x)) ∧ Below w.heap.size w w' := by
  go_enter Tryd.func20, Tryd.ntmps20
  go_wp2_with fail
  refine (stuffsValid_any _ _ _ _ hs hn).mono ?_
  rintro _ w1 ⟨rfl, hb1⟩
  replace hs := hs.next hb1
  replace hs' := hs'.next hb1
  cases hok : stuffsOk l with
  | false =>
    go_wp2_with fail
    go_ret
    exact ⟨ret_bool (by simp [mixOk, hok]), hb1⟩
  | true =>
    by_cases hlen : x.length = l.length
    · go_wp2_with fail
      go_loopw [19] (fun i wr => ∃ k : Nat, k ≤ l.length ∧ i = .int .i64 k ∧ ((l.zip x).take k).all pairOk = true ∧ Below w1.heap.size w1 wr) (fun i _ => l.length - (intOf i).toNat)
      case atStart => exact ⟨0, Nat.zero_le _, rfl, by simp, Below.refl _ _⟩
      case round =>
        obtain ⟨k, hk, rfl, hall, hb⟩ := hrel
        have Hall := Lib.hid hall
        clear hall
        by_cases hlt : k < l.length
        · obtain ⟨b, off, a1, a2, a3, a4, a5, rfl, hbB, hl, c0, c1, c2, c3, c4⟩ := (hs.below hb).stuff_at hlt
          obtain ⟨b', off', y, rfl, hbB', hx, d0⟩ := (hs'.below hb).int_at (k := k) (by omega)
          have Hl := Lib.hid (zip_at hl hx)
          clear hl hx c0 c1 c2 c3
          cases hp : inB y 0 a5 with
          | true =>
            go_wp2_with (go_at_call 43; refine (within_any _ _ _ _).mono ?_; rintro e w' ⟨rfl, rfl⟩)
            go_roundw
            case rel => exact ⟨k + 1, by omega, by go_num, by rw [all_take_succ _ _ _ _ Hl.out, Hall.out]; simp [pairOk, hp], hb⟩
            case measure => simp [intOf]; omega
          | false =>
            go_wp2_with (go_at_call 43; refine (within_any _ _ _ _).mono ?_; rintro e w' ⟨rfl, rfl⟩)
            go_ret
            exact ⟨ret_bool (by simp [mixOk, mixAll, all_false_at pairOk _ _ _ Hl.out hp]), below_next hb1 hb⟩
        · go_wp2_with fail
          go_ret
          have e : k = l.length := by omega
          have ha := Hall.out
          rw [e, List.take_of_length_le (by simp [hlen])] at ha
          exact ⟨ret_bool (by simp [mixOk, sameLen, mixAll, hok, hlen, ha]), below_next hb1 hb⟩
    · go_wp2_with fail
      go_ret
      exact ⟨ret_bool (by simp [mixOk, sameLen, hlen]), hb1⟩
theorem sMixValid_any (A A' : Option Addr) (c c' : Nat) (l : List Stuff) (x : List Int) (w : World) (hs : Sees w w.heap.size A (ints (flatS l))) (hn : l.length ≤ 1048576) (hs' : Sees w w.heap.size A' (ints x)) (hn' : x.length ≤ 1048576) :
    Calls Tryd.prog 52 #[.slice A l.length c, .slice A' x.length c'] w fun e w' => e = .returned (.bool (mixOk l x)) ∧ Below w.heap.size w w' := by
  go_enter Tryd.func52, Tryd.ntmps52
  go_wp2_with fail
  refine (sStuffsValid_any _ _ _ _ hs hn).mono ?_
  rintro _ w1 ⟨rfl, hb1⟩
  replace hs := hs.next hb1
  replace hs' := hs'.next hb1
  cases hok : stuffsOk l with
  | false =>
    go_wp2_with fail
    go_ret
    exact ⟨ret_bool (by simp [mixOk, hok]), hb1⟩
  | true =>
    by_cases hlen : x.length = l.length
    · go_wp2_with fail
      go_loopw [5] (fun i wr => ∃ k : Nat, k ≤ l.length ∧ i = .int .i64 k ∧ ((l.zip x).take k).all pairOk = true ∧ Below w1.heap.size w1 wr) (fun i _ => l.length - (intOf i).toNat)
      case atStart => exact ⟨0, Nat.zero_le _, rfl, by simp, Below.refl _ _⟩
      case round =>
        obtain ⟨k, hk, rfl, hall, hb⟩ := hrel
        have Hall := Lib.hid hall
        clear hall
        by_cases hlt : k < l.length
        · obtain ⟨b, off, a1, a2, a3, a4, a5, rfl, hbB, hl, c0, c1, c2, c3, c4⟩ := (hs.below hb).stuff_at hlt
          obtain ⟨b', off', y, rfl, hbB', hx, d0⟩ := (hs'.below hb).int_at (k := k) (by omega)
          have Hl := Lib.hid (zip_at hl hx)
          clear hl hx c0 c1 c2 c3
          cases hp : inB y 0 a5 with
          | true =>
            go_wp2_with fail
            go_quiet ((go_at_call 47; exact quiet_same (l1In_any _ _ _ _)))
            go_wp2_with fail
            go_roundw
            case rel => exact ⟨k + 1, by omega, by go_num, by rw [all_take_succ _ _ _ _ Hl.out, Hall.out]; simp [pairOk, hp], below_drewN hb _⟩
            case measure => simp [intOf]; omega
          | false =>
            go_wp2_with fail
            go_quiet ((go_at_call 47; exact quiet_same (l1In_any _ _ _ _)))
            go_wp2_with fail
            go_ret
            exact ⟨ret_bool (by simp [mixOk, mixAll, all_false_at pairOk _ _ _ Hl.out hp]), below_next hb1 (below_drewN hb _)⟩
        · go_wp2_with fail
          go_ret
          have e : k = l.length := by omega
          have ha := Hall.out
          rw [e, List.take_of_length_le (by simp [hlen])] at ha
          exact ⟨ret_bool (by simp [mixOk, sameLen, mixAll, hok, hlen, ha]), below_next hb1 hb⟩
    · go_wp2_with fail
      go_ret
      exact ⟨ret_bool (by simp [mixOk, sameLen, hlen]), hb1⟩
theorem mixCost_any (A A' : Option Addr) (c c' : Nat) (l : List Stuff) (x : List Int) (w : World) (hs : Sees w w.heap.size A (ints (flatS l))) (hn : l.length ≤ 1048576) (hs' : Sees w w.heap.size A' (ints x)) (hn' : x.length ≤ 1048576) :
    Calls Tryd.prog 18 #[.slice A l.length c, .slice A' x.length c'] w fun e w' => e = .returned (.int .i64 (mixCost l x)) ∧ Below w.heap.size w w' := by
  go_enter Tryd.func18, Tryd.ntmps18
  go_wp2_with fail
  refine (mixValid_any _ _ _ _ _ _ _ hs hn hs' hn').mono ?_
  rintro _ w1 ⟨rfl, hb1⟩
  replace hs := hs.next hb1
  replace hs' := hs'.next hb1
  cases hok : mixOk l x with
  | false =>
    go_wp2_with fail
    go_ret
    exact ⟨ret_int (by simp [mixCost, hok]), hb1⟩
  | true =>
    have hlen := mixOk_len hok
    go_wp2_with fail
    go_loopw [5, 14] (fun t i wr => ∃ k : Nat, k ≤ l.length ∧ i = .int .i64 k ∧ t = .int .i64 (costOf ((l.zip x).take k)) ∧ Below w1.heap.size w1 wr) (fun _ i _ => l.length - (intOf i).toNat)
    case atStart => exact ⟨0, Nat.zero_le _, rfl, rfl, Below.refl _ _⟩
    case round =>
      obtain ⟨k, hk, rfl, rfl, hb⟩ := hrel
      by_cases hlt : k < l.length
      · obtain ⟨b, off, a1, a2, a3, a4, a5, rfl, hbB, hl, c0, c1, c2, c3, c4⟩ := (hs.below hb).stuff_at hlt
        obtain ⟨b', off', y, rfl, hbB', hx, d0⟩ := (hs'.below hb).int_at (k := k) (by omega)
        have Hl := Lib.hid (zip_at hl hx)
        clear hl hx c0 c1 c2 c4
        go_wp2_with fail
        go_roundw
        case rel => exact ⟨k + 1, by omega, by go_num, by unfold costOf; rw [foldl_take_succ _ _ _ _ _ Hl.out]; simp [wrap_w64], hb⟩
        case measure => simp [intOf]; omega
      · go_wp2_with fail
        go_ret
        have e : k = l.length := by omega
        exact ⟨ret_int (by rw [e, List.take_of_length_le (by simp [hlen])]; simp [mixCost, hok]), below_next hb1 hb⟩
theorem sMixCost_any (A A' : Option Addr) (c c' : Nat) (l : List Stuff) (x : List Int) (w : World) (hs : Sees w w.heap.size A (ints (flatS l))) (hn : l.length ≤ 1048576) (hs' : Sees w w.heap.size A' (ints x)) (hn' : x.length ≤ 1048576) :
    Calls Tryd.prog 49 #[.slice A l.length c, .slice A' x.length c'] w fun e w' => e = .returned (.int .i64 (mixCost l x)) ∧ Below w.heap.size w w' := by
  go_enter Tryd.func49, Tryd.ntmps49
  go_wp2_with fail
  refine (sMixValid_any _ _ _ _ _ _ _ hs hn hs' hn').mono ?_
  rintro _ w1 ⟨rfl, hb1⟩
  replace hs := hs.next hb1
  replace hs' := hs'.next hb1
  cases hok : mixOk l x with
  | false =>
    go_wp2_with fail
    go_ret
    exact ⟨ret_int (by simp [mixCost, hok]), hb1⟩
  | true =>
    have hlen := mixOk_len hok
    go_wp2_with fail
    go_loopw [5, 6] (fun t i wr => ∃ k : Nat, k ≤ l.length ∧ i = .int .i64 k ∧ t = .int .i64 (costOf ((l.zip x).take k)) ∧ Below w1.heap.size w1 wr) (fun _ i _ => l.length - (intOf i).toNat)
    case atStart => exact ⟨0, Nat.zero_le _, rfl, rfl, Below.refl _ _⟩
    case round =>
      obtain ⟨k, hk, rfl, rfl, hb⟩ := hrel
      by_cases hlt : k < l.length
      · obtain ⟨b, off, a1, a2, a3, a4, a5, rfl, hbB, hl, c0, c1, c2, c3, c4⟩ := (hs.below hb).stuff_at hlt
        obtain ⟨b', off', y, rfl, hbB', hx, d0⟩ := (hs'.below hb).int_at (k := k) (by omega)
        have Hl := Lib.hid (zip_at hl hx)
        clear hl hx c0 c1 c2 c4
        go_wp2_with fail
        go_quiet (fail)
        go_wp2_with fail
        go_roundw
        case rel => exact ⟨k + 1, by omega, by go_num, by unfold costOf; rw [foldl_take_succ _ _ _ _ _ Hl.out]; simp [wrap_w64], below_drewN hb _⟩
        case measure => simp [intOf]; omega
      · go_wp2_with fail
        go_ret
        have e : k = l.length := by omega
        exact ⟨ret_int (by rw [e, List.take_of_length_le (by simp [hlen])]; simp [mixCost, hok]), below_next hb1 hb⟩
theorem mixSums_any (A A' : Option Addr) (c c' : Nat) (l : List Stuff) (x : List Int) (w : World) (hs : Sees w w.heap.size A (ints (flatS l))) (hn : l.length ≤ 1048576) (hs' : Sees w w.heap.size A' (ints x)) (hn' : x.length ≤ 1048576) :
    Calls Tryd.prog 53 #[.slice A l.length c, .slice A' x.length c'] w fun e w' => e = .returned (.tuple #[.int .i64 (mixSC l x), .int .i64 (mixSM l x), .int .i64 (mixSS l x)]) ∧ Below w.heap.size w w' := by
  go_enter Tryd.func53, Tryd.ntmps53
  go_wp2_with fail
  refine (mixValid_any _ _ _ _ _ _ _ hs hn hs' hn').mono ?_
  rintro _ w1 ⟨rfl, hb1⟩
  replace hs := hs.next hb1
  replace hs' := hs'.next hb1
  cases hok : mixOk l x with
  | false =>
    go_wp2_with fail
    go_ret3
    exact ⟨by simp [mixSC, mixSM, mixSS, hok], hb1⟩
  | true =>
    have hlen := mixOk_len hok
    go_wp2_with fail
    go_loopw [7, 8, 9, 18] (fun s t u i wr => ∃ k : Nat, k ≤ l.length ∧ i = .int .i64 k ∧ s = .int .i64 (sumC ((l.zip x).take k)) ∧ t = .int .i64 (sumM ((l.zip x).take k)) ∧ u = .int .i64 (sumS ((l.zip x).take k)) ∧ Below w1.heap.size w1 wr) (fun _ _ _ i _ => l.length - (intOf i).toNat)
    case atStart => exact ⟨0, Nat.zero_le _, rfl, rfl, rfl, rfl, Below.refl _ _⟩
    case round =>
      obtain ⟨k, hk, rfl, rfl, rfl, rfl, hb⟩ := hrel
      by_cases hlt : k < l.length
      · obtain ⟨b, off, a1, a2, a3, a4, a5, rfl, hbB, hl, c0, c1, c2, c3, c4⟩ := (hs.below hb).stuff_at hlt
        obtain ⟨b', off', y, rfl, hbB', hx, d0⟩ := (hs'.below hb).int_at (k := k) (by omega)
        have Hl := Lib.hid (zip_at hl hx)
        clear hl hx c3 c4
        go_wp2_with fail
        go_roundw
        case rel => exact ⟨k + 1, by omega, by go_num, by unfold sumC; rw [foldl_take_succ _ _ _ _ _ Hl.out]; simp [wrap_w64], by unfold sumM; rw [foldl_take_succ _ _ _ _ _ Hl.out]; simp [wrap_w64], by unfold sumS; rw [foldl_take_succ _ _ _ _ _ Hl.out]; simp [wrap_w64], hb⟩
        case measure => simp [intOf]; omega
      · go_wp2_with fail
        go_ret3
        have e : k = l.length := by omega
        exact ⟨by rw [e, List.take_of_length_le (by simp [hlen])]; simp [mixSC, mixSM, mixSS, hok], below_next hb1 hb⟩
theorem sMixSums_any (A A' : Option Addr) (c c' : Nat) (l : List Stuff) (x : List Int) (w : World) (hs : Sees w w.heap.size A (ints (flatS l))) (hn : l.length ≤ 1048576) (hs' : Sees w w.heap.size A' (ints x)) (hn' : x.length ≤ 1048576) :
    Calls Tryd.prog 50 #[.slice A l.length c, .slice A' x.length c'] w fun e w' => e = .returned (.tuple #[.int .i64 (mixSC l x), .int .i64 (mixSM l x), .int .i64 (mixSS l x)]) ∧ Below w.heap.size w w' := by
  go_enter Tryd.func50, Tryd.ntmps50
  go_wp2_with fail
  refine (sMixValid_any _ _ _ _ _ _ _ hs hn hs' hn').mono ?_
  rintro _ w1 ⟨rfl, hb1⟩
  replace hs := hs.next hb1
  replace hs' := hs'.next hb1
  cases hok : mixOk l x with
  | false =>
    go_wp2_with fail
    go_ret3
    exact ⟨by simp [mixSC, mixSM, mixSS, hok], hb1⟩
  | true =>
    have hlen := mixOk_len hok
    go_wp2_with fail
    go_loopw [7, 8, 9, 10] (fun s t u i wr => ∃ k : Nat, k ≤ l.length ∧ i = .int .i64 k ∧ s = .int .i64 (sumC ((l.zip x).take k)) ∧ t = .int .i64 (sumM ((l.zip x).take k)) ∧ u = .int .i64 (sumS ((l.zip x).take k)) ∧ Below w1.heap.size w1 wr) (fun _ _ _ i _ => l.length - (intOf i).toNat)
    case atStart => exact ⟨0, Nat.zero_le _, rfl, rfl, rfl, rfl, Below.refl _ _⟩
    case round =>
      obtain ⟨k, hk, rfl, rfl, rfl, rfl, hb⟩ := hrel
      by_cases hlt : k < l.length
      · obtain ⟨b, off, a1, a2, a3, a4, a5, rfl, hbB, hl, c0, c1, c2, c3, c4⟩ := (hs.below hb).stuff_at hlt
        obtain ⟨b', off', y, rfl, hbB', hx, d0⟩ := (hs'.below hb).int_at (k := k) (by omega)
        have Hl := Lib.hid (zip_at hl hx)
        clear hl hx c3 c4
        go_wp2_with fail
        go_quiet (fail)
        go_wp2_with fail
        go_quiet (fail)
        go_wp2_with fail
        go_quiet (fail)
        go_wp2_with fail
        go_roundw
        case rel => exact ⟨k + 1, by omega, by go_num, by unfold sumC; rw [foldl_take_succ _ _ _ _ _ Hl.out]; simp [wrap_w64], by unfold sumM; rw [foldl_take_succ _ _ _ _ _ Hl.out]; simp [wrap_w64], by unfold sumS; rw [foldl_take_succ _ _ _ _ _ Hl.out]; simp [wrap_w64], below_drewN hb _⟩
        case measure => simp [intOf]; omega
      · go_wp2_with fail
        go_ret3
        have e : k = l.length := by omega
        exact ⟨by rw [e, List.take_of_length_le (by simp [hlen])]; simp [mixSC, mixSM, mixSS, hok], below_next hb1 hb⟩
theorem mixMeets_any (A A' : Option Addr) (c c' : Nat) (l : List Stuff) (x : List Int) (w : World) (hs : Sees w w.heap.size A (ints (flatS l))) (hn : l.length ≤ 1048576) (hs' : Sees w w.heap.size A' (ints x)) (hn' : x.length ≤ 1048576) (g1 g2 g3 g4 g5 g6 : Int) :
    Calls Tryd.prog 21 #[.slice A l.length c, .slice A' x.length c', .agg #[.int .i64 g1, .int .i64 g2, .int .i64 g3, .int .i64 g4, .int .i64 g5, .int .i64 g6]] w fun e w' => e = .returned (.bool (mixMeets l x ⟨g1, g2, g3, g4, g5, g6⟩)) ∧ Below w.heap.size w w' := by
  go_enter Tryd.func21, Tryd.ntmps21
  go_wp2_with fail
  have hbW : Below w.heap.size w (w.alloc (.cells #[.int .i64 g1, .int .i64 g2, .int .i64 g3, .int .i64 g4, .int .i64 g5, .int .i64 g6] 25)) := (Below.refl _ _).alloc (Nat.le_refl _) _
  have hB0 := Blk.made w 25 #[.int .i64 g1, .int .i64 g2, .int .i64 g3, .int .i64 g4, .int .i64 g5, .int .i64 g6]
  generalize w.alloc _ = W at hbW hB0 ⊢
  replace hs := hs.next hbW
  replace hs' := hs'.next hbW
  refine (mixValid_any _ _ _ _ _ _ _ hs hn hs' hn').mono ?_
  rintro _ w1 ⟨rfl, hb⟩
  replace hs := hs.next hb
  replace hs' := hs'.next hb
  replace hB0 := hB0.below hb hB0.lt
  replace hbW := below_next hbW hb
  clear hb
  cases hok : mixOk l x with
  | false =>
    go_wp2_with fail
    go_ret
    exact ⟨ret_bool (by simp [mixMeets, hok]), hbW⟩
  | true =>
    have c0 := hB0.cell
    go_wp2_with fail
    clear c0
    refine (gradeValid_any _ _ _ _ _ _ _).mono ?_
    rintro _ w2 ⟨rfl, hb⟩
    replace hs := hs.next hb
    replace hs' := hs'.next hb
    replace hB0 := hB0.below hb hB0.lt
    replace hbW := below_next hbW hb
    clear hb
    cases hg : gradeOk ⟨g1, g2, g3, g4, g5, g6⟩ with
    | false =>
      go_wp2_with fail
      go_ret
      exact ⟨ret_bool (by simp [mixMeets, hg]), hbW⟩
    | true =>
      go_wp2_with fail
      refine (mixTons_any _ _ _ _ hs' hn').mono ?_
      rintro _ _ ⟨rfl, rfl⟩
      by_cases ht : tonsOf x < 1
      · go_wp2_with fail
        go_ret
        exact ⟨ret_bool (by simp [mixMeets, posB]; omega), hbW⟩
      · go_wp2_with fail
        refine (mixSums_any _ _ _ _ _ _ _ hs hn hs' hn').mono ?_
        rintro _ w3 ⟨rfl, hb⟩
        replace hB0 := hB0.below hb hB0.lt
        replace hbW := below_next hbW hb
        clear hb
        have hp : posB (tonsOf x) = true := by simp [posB]; omega
        have e1 : mixSC l x = sumC (l.zip x) := by simp [mixSC, hok]
        have e2 : mixSM l x = sumM (l.zip x) := by simp [mixSM, hok]
        have e3 : mixSS l x = sumS (l.zip x) := by simp [mixSS, hok]
        rw [e1, e2, e3]
        have HP : Hid (mixMeets l x ⟨g1, g2, g3, g4, g5, g6⟩ = (inB (sumC (l.zip x)) (wrap64 (g1 * tonsOf x)) (wrap64 (g2 * tonsOf x)) && inB (sumM (l.zip x)) (wrap64 (g3 * tonsOf x)) (wrap64 (g4 * tonsOf x)) && inB (sumS (l.zip x)) (wrap64 (g5 * tonsOf x)) (wrap64 (g6 * tonsOf x)))) := by
          apply Lib.hid
          simp [mixMeets, hok, hg, hp, ofC, ofM, ofS, wrap_w64]
        clear e1 e2 e3 hok hg hp ht
        have c0 := hB0.cell
        go_wp2_with (go_at_call 43; refine (within_any _ _ _ _).mono ?_; rintro e w' ⟨rfl, rfl⟩)
        all_goals
          go_ret
          exact ⟨ret_bool (by rw [HP.out]; simp [*]), hbW⟩
theorem sMixMeets_any (A A' : Option Addr) (c c' : Nat) (l : List Stuff) (x : List Int) (w : World) (hs : Sees w w.heap.size A (ints (flatS l))) (hn : l.length ≤ 1048576) (hs' : Sees w w.heap.size A' (ints x)) (hn' : x.length ≤ 1048576) (g1 g2 g3 g4 g5 g6 : Int) :
    Calls Tryd.prog 16 #[.slice A l.length c, .slice A' x.length c', .agg #[.int .i64 g1, .int .i64 g2, .int .i64 g3, .int .i64 g4, .int .i64 g5, .int .i64 g6]] w fun e w' => e = .returned (.bool (mixMeets l x ⟨g1, g2, g3, g4, g5, g6⟩)) ∧ Below w.heap.size w w' := by
  go_enter Tryd.func16, Tryd.ntmps16
  go_wp2_with fail
  have hbW : Below w.heap.size w (w.alloc (.cells #[.int .i64 g1, .int .i64 g2, .int .i64 g3, .int .i64 g4, .int .i64 g5, .int .i64 g6] 25)) := (Below.refl _ _).alloc (Nat.le_refl _) _
  have hB0 := Blk.made w 25 #[.int .i64 g1, .int .i64 g2, .int .i64 g3, .int .i64 g4, .int .i64 g5, .int .i64 g6]
  generalize w.alloc _ = W at hbW hB0 ⊢
  replace hs := hs.next hbW
  replace hs' := hs'.next hbW
  refine (sMixSums_any _ _ _ _ _ _ _ hs hn hs' hn').mono ?_
  rintro _ w1 ⟨rfl, hb⟩
  replace hs := hs.next hb
  replace hs' := hs'.next hb
  replace hB0 := hB0.below hb hB0.lt
  replace hbW := below_next hbW hb
  clear hb
  go_wp2_with fail
  refine (sMixTons_any _ _ _ _ hs' hn').mono ?_
  rintro _ _ ⟨rfl, rfl⟩
  go_wp2_with fail
  refine (sMixValid_any _ _ _ _ _ _ _ hs hn hs' hn').mono ?_
  rintro _ w2 ⟨rfl, hb⟩
  replace hB0 := hB0.below hb hB0.lt
  replace hbW := below_next hbW hb
  clear hb
  cases hok : mixOk l x with
  | false =>
    go_wp2_with fail
    go_ret
    exact ⟨ret_bool (by simp [mixMeets, hok]), hbW⟩
  | true =>
    have c0 := hB0.cell
    go_wp2_with fail
    clear c0
    refine (sGradeValid_any _ _ _ _ _ _ _).mono ?_
    rintro _ w3 ⟨rfl, hb⟩
    replace hB0 := hB0.below hb hB0.lt
    replace hbW := below_next hbW hb
    clear hb
    cases hg : gradeOk ⟨g1, g2, g3, g4, g5, g6⟩ with
    | false =>
      go_wp2_with fail
      go_ret
      exact ⟨ret_bool (by simp [mixMeets, hg]), hbW⟩
    | true =>
      by_cases ht : 0 < tonsOf x
      · have hp : posB (tonsOf x) = true := by simp [posB]; omega
        have e1 : mixSC l x = sumC (l.zip x) := by simp [mixSC, hok]
        have e2 : mixSM l x = sumM (l.zip x) := by simp [mixSM, hok]
        have e3 : mixSS l x = sumS (l.zip x) := by simp [mixSS, hok]
        rw [e1, e2, e3]
        have HP : Hid (mixMeets l x ⟨g1, g2, g3, g4, g5, g6⟩ = (inB (sumC (l.zip x)) (wrap64 (tonsOf x * g1)) (wrap64 (tonsOf x * g2)) && inB (sumM (l.zip x)) (wrap64 (tonsOf x * g3)) (wrap64 (tonsOf x * g4)) && inB (sumS (l.zip x)) (wrap64 (tonsOf x * g5)) (wrap64 (tonsOf x * g6)))) := by
          apply Lib.hid
          simp [mixMeets, hok, hg, hp, ofC, ofM, ofS, wrap_w64, Int.mul_comm]
        clear e1 e2 e3 hok hg hp
        have c0 := hB0.cell
        go_wp2_with (go_at_call 47; refine (l1In_any _ _ _ _).mono ?_; rintro e w' ⟨rfl, rfl⟩)
        all_goals
          go_ret
          exact ⟨ret_bool (by rw [HP.out]; simp [*]), hbW⟩
      · go_wp2_with fail
        go_ret
        exact ⟨ret_bool (by simp [mixMeets, posB]; omega), hbW⟩
end Go.Proofs.YtlhjncefckidjaaDoor
