/-
  Contracts of the functions on stuffs and mixtures (StuffsValid, MixValid, MixTons, MixCost, MixSums, MixMeets), in the program and in the reference.
-/
import Derived.Test.YtlhjncefckidjaaDoorSl
namespace Go.Proofs.YtlhjncefckidjaaDoor
open Go.RowKit
set_option linter.unusedVariables false
theorem stuffsValid_any (A : Option Addr) (c : Nat) (l : List Stuff) (w : World) (hs : Sees w w.heap.size A (ints (flatS l))) (hn : l.length ≤ 1048576) :
    Calls Tryd.prog 42 #[.slice A l.length c] w fun e w' => e = .returned (.bool (stuffsOk l)) ∧ Below w.heap.size w w' := by
  by_cases h4 : l.length ≤ 4
  · go_enter Tryd.func42, Tryd.ntmps42
    go_wp2_with fail
    go_loopw [10] (fun i wr => ∃ k : Nat, k ≤ l.length ∧ i = .int .i64 k ∧ (l.take k).all stuffOk = true ∧ Below w.heap.size w wr) (fun i _ => l.length - (intOf i).toNat)
    case atStart => exact ⟨0, Nat.zero_le _, rfl, by simp, Below.refl _ _⟩
    case round =>
      obtain ⟨k, hk, rfl, hall, hb⟩ := hrel
      have Hall := Lib.hid hall
      clear hall
      by_cases hlt : k < l.length
      · obtain ⟨b, off, a1, a2, a3, a4, a5, rfl, hbB, hl, c0, c1, c2, c3, c4⟩ := (hs.below hb).stuff_at hlt
        have Hl := Lib.hid hl
        clear hl
        cases hok : stuffOk ⟨a1, a2, a3, a4, a5⟩ with
        | true =>
          go_wp2_with (go_at_call 64; refine (stuffValid_any _ _ _ _ _ _).mono ?_; rintro e w' ⟨rfl, hb2⟩)
          go_roundw
          case rel => exact ⟨k + 1, by omega, by go_num, by rw [all_take_succ _ _ _ _ Hl.out, Hall.out, hok]; rfl, hb.trans (((Below.refl _ _).alloc hb.size _).trans (hb2.mono (by simp; have := hb.size; omega)))⟩
          case measure => simp [intOf]; omega
        | false =>
          go_wp2_with (go_at_call 64; refine (stuffValid_any _ _ _ _ _ _).mono ?_; rintro e w' ⟨rfl, hb2⟩)
          go_ret
          exact ⟨ret_bool (by simp [stuffsOk, all_false_at _ _ _ _ Hl.out hok]), hb.trans (((Below.refl _ _).alloc hb.size _).trans (hb2.mono (by simp; have := hb.size; omega)))⟩
      · go_wp2_with fail
        go_ret
        have e : k = l.length := by omega
        have ha := Hall.out
        rw [e, List.take_length] at ha
        exact ⟨ret_bool (by simp [stuffsOk, h4, ha]), hb⟩
  · go_enter Tryd.func42, Tryd.ntmps42
    go_wp2_with fail
    go_ret
    exact ⟨ret_bool (by simp [stuffsOk, h4]), Below.refl _ _⟩
theorem sStuffsValid_any (A : Option Addr) (c : Nat) (l : List Stuff) (w : World) (hs : Sees w w.heap.size A (ints (flatS l))) (hn : l.length ≤ 1048576) :
    Calls Tryd.prog 45 #[.slice A l.length c] w fun e w' => e = .returned (.bool (stuffsOk l)) ∧ Below w.heap.size w w' := by
  go_enter Tryd.func45, Tryd.ntmps45
  go_wp2_with fail
  go_loopw [3] (fun i wr => ∃ k : Nat, k ≤ l.length ∧ i = .int .i64 k ∧ (l.take k).all stuffOk = true ∧ Below w.heap.size w wr) (fun i _ => l.length - (intOf i).toNat)
  case atStart => exact ⟨0, Nat.zero_le _, rfl, by simp, Below.refl _ _⟩
  case round =>
    obtain ⟨k, hk, rfl, hall, hb⟩ := hrel
    have Hall := Lib.hid hall
    clear hall
    by_cases hlt : k < l.length
    · obtain ⟨b, off, a1, a2, a3, a4, a5, rfl, hbB, hl, c0, c1, c2, c3, c4⟩ := (hs.below hb).stuff_at hlt
      have Hl := Lib.hid hl
      clear hl
      cases hok : stuffOk ⟨a1, a2, a3, a4, a5⟩ with
      | true =>
        go_wp2_with (go_at_call 66; refine (sStuffValid_any _ _ _ _ _ _).mono ?_; rintro e w' ⟨rfl, hb2⟩)
        go_roundw
        case rel => exact ⟨k + 1, by omega, by go_num, by rw [all_take_succ _ _ _ _ Hl.out, Hall.out, hok]; rfl, hb.trans (hb2.mono hb.size)⟩
        case measure => simp [intOf]; omega
      | false =>
        go_wp2_with (go_at_call 66; refine (sStuffValid_any _ _ _ _ _ _).mono ?_; rintro e w' ⟨rfl, hb2⟩)
        go_ret
        exact ⟨ret_bool (by simp [stuffsOk, all_false_at _ _ _ _ Hl.out hok]), hb.trans (hb2.mono hb.size)⟩
    · go_wp2_with fail
      go_ret
      have e : k = l.length := by omega
      have ha := Hall.out
      rw [e, List.take_length] at ha
      exact ⟨ret_bool (by simp [stuffsOk, ha]; omega), hb⟩
theorem mixTons_any (A : Option Addr) (c : Nat) (l : List Int) (w : World) (hs : Sees w w.heap.size A (ints l)) (hn : l.length ≤ 1048576) :
    Calls Tryd.prog 22 #[.slice A l.length c] w fun e w' => e = .returned (.int .i64 (tonsOf l)) ∧ w = w' := by
  go_enter Tryd.func22, Tryd.ntmps22
  go_wp2_with fail
  go_loop [3, 8] (fun t i => ∃ k : Nat, k ≤ l.length ∧ i = .int .i64 k ∧ t = .int .i64 (tonsOf (l.take k))) (fun _ i => l.length - (intOf i).toNat)
  case atStart => exact ⟨0, Nat.zero_le _, rfl, rfl⟩
  case round =>
    obtain ⟨k, hk, rfl, rfl⟩ := hrel
    by_cases hlt : k < l.length
    · obtain ⟨b, off, x, rfl, hbB, hl, c0⟩ := hs.int_at hlt
      have Hl := Lib.hid hl
      clear hl
      go_wp2_with fail
      go_round
      case rel => exact ⟨k + 1, by omega, by go_num, by unfold tonsOf; rw [foldl_take_succ _ _ _ _ _ Hl.out]; exact int_w64⟩
      case measure => simp [intOf]; omega
    · go_wp2_with fail
      go_ret
      have e : k = l.length := by omega
      exact ⟨ret_int (by rw [e, List.take_length]), rfl⟩
theorem l1Sum_any (A : Option Addr) (c : Nat) (l : List Int) (w : World) (hs : Sees w w.heap.size A (ints l)) (hn : l.length ≤ 1048576) :
    Calls Tryd.prog 68 #[.slice A l.length c] w fun e w' => e = .returned (.int .i64 (tonsOf l)) ∧ w = w' := by
  go_enter Tryd.func68, Tryd.ntmps68
  go_wp2_with fail
  go_loop [3, 4] (fun t i => ∃ k : Nat, k ≤ l.length ∧ i = .int .i64 k ∧ t = .int .i64 (tonsOf (l.take k))) (fun _ i => l.length - (intOf i).toNat)
  case atStart => exact ⟨0, Nat.zero_le _, rfl, rfl⟩
  case round =>
    obtain ⟨k, hk, rfl, rfl⟩ := hrel
    by_cases hlt : k < l.length
    · obtain ⟨b, off, x, rfl, hbB, hl, c0⟩ := hs.int_at hlt
      have Hl := Lib.hid hl
      clear hl
      go_wp2_with fail
      go_round
      case rel => exact ⟨k + 1, by omega, by go_num, by unfold tonsOf; rw [foldl_take_succ _ _ _ _ _ Hl.out]; exact int_w64⟩
      case measure => simp [intOf]; omega
    · go_wp2_with fail
      go_ret
      have e : k = l.length := by omega
      exact ⟨ret_int (by rw [e, List.take_length]), rfl⟩
theorem sMixTons_any (A : Option Addr) (c : Nat) (l : List Int) (w : World) (hs : Sees w w.heap.size A (ints l)) (hn : l.length ≤ 1048576) :
    Calls Tryd.prog 51 #[.slice A l.length c] w fun e w' => e = .returned (.int .i64 (tonsOf l)) ∧ w = w' := by
  go_enter Tryd.func51, Tryd.ntmps51
  go_wp2_with fail
  refine (l1Sum_any _ _ _ _ hs hn).mono ?_
  rintro _ _ ⟨rfl, rfl⟩
  go_wp2_with fail
  go_ret
  exact ⟨rfl, rfl⟩
end Go.Proofs.YtlhjncefckidjaaDoor
