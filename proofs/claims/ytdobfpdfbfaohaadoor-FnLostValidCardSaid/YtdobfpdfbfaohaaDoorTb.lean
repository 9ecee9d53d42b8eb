/-
  Contracts of the laws' helpers on tables, and of LostValid in the program and in the reference.
-/
import Derived.Test.YtdobfpdfbfaohaaDoorTab
namespace Go.Proofs.YtdobfpdfbfaohaaDoor
open Go.RowKit
set_option linter.unusedVariables false
theorem ownBlock_any (a : Option Addr) (n c m d : Nat) : (Value.slice a n c).ownBlock = (Value.slice a m d).ownBlock := by cases a <;> rfl
def RetTab (w : World) (L : List (List Int)) (e : Ending) (w' : World) : Prop :=
  ∃ A c, e = .returned (.slice A L.length c) ∧ TOwn w' w.heap.size w'.heap.size 39 3 A L.length c L ∧ Below w.heap.size w w'
theorem lostValid_any (A : Option Addr) (c : Nat) (L : List (List Int)) (w : World) (ht : Tab w w.heap.size A L) (hn : L.length ≤ 1048576) (hr : ∀ l ∈ L, l.length ≤ 1048576) :
    Calls Tryd.prog 25 #[.slice A L.length c] w fun e w' => e = .returned (.bool (lostOk L)) ∧ w = w' := by
  have Hr := Lib.hid hr
  clear hr
  by_cases h4 : L.length = 4
  case neg =>
    have hne : ((L.length : Int) == 4) = false := by rw [beq_eq_false_iff_ne]; omega
    have hne' : ((L.length : Int) != 4) = true := by rw [bne_iff_ne]; omega
    go_enter Tryd.func25, Tryd.ntmps25
    go_wp2_with fail
    go_ret
    exact ⟨ret_bool (by simp [lostOk, sameLen, h4]), rfl⟩
  have hne : ((L.length : Int) == 4) = true := by rw [beq_iff_eq]; omega
  have hne' : ((L.length : Int) != 4) = false := by simp only [bne, hne, Bool.not_true]
  have H4 := Lib.hid h4
  have h4' : L.length ≤ 4 := by omega
  clear h4
  go_enter Tryd.func25, Tryd.ntmps25
  go_wp2_with fail
  clear hne hne'
  go_loop [12] (fun i => ∃ k : Nat, k ≤ L.length ∧ i = .int .i64 k ∧ (L.take k).all rowOk = true) (fun i => L.length - (intOf i).toNat)
  case atStart => exact ⟨0, Nat.zero_le _, rfl, by simp⟩
  case round =>
    obtain ⟨k, hk, rfl, hall⟩ := hrel
    have Hall := Lib.hid hall
    clear hall
    by_cases hlt : k < L.length
    · obtain ⟨b, off, a, c1, l, rfl, hbB, hl, c0, hrow, hcap⟩ := ht.row_at hlt
      have Hl := Lib.hid hl
      clear hl
      by_cases hl4 : l.length = 4
      case neg =>
        have hne : ((l.length : Int) == 4) = false := by rw [beq_eq_false_iff_ne]; omega
        have hne' : ((l.length : Int) != 4) = true := by rw [bne_iff_ne]; omega
        go_wp2_with fail
        go_ret
        exact ⟨ret_bool (by simp [lostOk, all_false_at rowOk _ _ _ Hl.out (by simp [rowOk, sameLen, hl4])]), rfl⟩
      have hne : ((l.length : Int) == 4) = true := by rw [beq_iff_eq]; omega
      have hne' : ((l.length : Int) != 4) = false := by simp only [bne, hne, Bool.not_true]
      have Hl4 := Lib.hid hl4
      have hl4' : l.length ≤ 4 := by omega
      clear hl4
      go_wp2_with fail
      clear hne hne'
      go_loop [21] (fun i => ∃ j : Nat, j ≤ l.length ∧ i = .int .i64 j ∧ (l.take j).all lossB = true) (fun i => l.length - (intOf i).toNat)
      case atStart => exact ⟨0, Nat.zero_le _, rfl, by simp⟩
      case round =>
        obtain ⟨j, hj, rfl, hal⟩ := hrel
        have Hal := Lib.hid hal
        clear hal
        by_cases hjl : j < l.length
        · obtain ⟨b2, off2, x, rfl, hbB2, hx, d0⟩ := hrow.int_at hjl
          have Hx := Lib.hid hx
          clear hx
          cases hp : inB x 0 99 with
          | true =>
            go_wp2_with (go_at_call 51; refine (within_any _ _ _ _).mono ?_; rintro e w' ⟨rfl, rfl⟩)
            go_round
            case rel => exact ⟨j + 1, by omega, by go_num, by rw [all_take_succ _ _ _ _ Hx.out, Hal.out]; simp [lossB, hp]⟩
            case measure => simp [intOf]; omega
          | false =>
            go_wp2_with (go_at_call 51; refine (within_any _ _ _ _).mono ?_; rintro e w' ⟨rfl, rfl⟩)
            go_ret
            exact ⟨ret_bool (by simp [lostOk, all_false_at rowOk _ _ _ Hl.out (by simp [rowOk, all_false_at lossB _ _ _ Hx.out hp])]), rfl⟩
        · have e : j = l.length := by omega
          have hal := Hal.out
          rw [e, List.take_length] at hal
          have Hal2 := Lib.hid hal
          clear hal e Hal
          go_wp2_with fail
          go_round
          case rel => exact ⟨k + 1, by omega, by go_num, by rw [all_take_succ _ _ _ _ Hl.out, Hall.out]; simp [rowOk, sameLen, Hl4.out, Hal2.out]⟩
          case measure => simp [intOf]; omega
    · go_wp2_with fail
      go_ret
      have e : k = L.length := by omega
      have ha := Hall.out
      rw [e, List.take_length] at ha
      exact ⟨ret_bool (by simp [lostOk, sameLen, H4.out, ha]), rfl⟩
theorem sLostValid_any (A : Option Addr) (c : Nat) (L : List (List Int)) (w : World) (ht : Tab w w.heap.size A L) (hn : L.length ≤ 1048576) (hr : ∀ l ∈ L, l.length ≤ 1048576) :
    Calls Tryd.prog 26 #[.slice A L.length c] w fun e w' => e = .returned (.bool (lostOk L)) ∧ w = w' := by
  have Hr := Lib.hid hr
  clear hr
  go_enter Tryd.func26, Tryd.ntmps26
  go_wp2_with fail
  go_loop [3] (fun i => ∃ k : Nat, k ≤ L.length ∧ i = .int .i64 k ∧ (L.take k).all rowOk = true) (fun i => L.length - (intOf i).toNat)
  case atStart => exact ⟨0, Nat.zero_le _, rfl, by simp⟩
  case round =>
    obtain ⟨k, hk, rfl, hall⟩ := hrel
    have Hall := Lib.hid hall
    clear hall
    by_cases hlt : k < L.length
    · obtain ⟨b, off, a, c1, l, rfl, hbB, hl, c0, hrow, hcap⟩ := ht.row_at hlt
      have Hl := Lib.hid hl
      clear hl
      by_cases hl4 : l.length = 4
      case neg =>
        have hne : ((l.length : Int) == 4) = false := by rw [beq_eq_false_iff_ne]; omega
        have hne' : ((l.length : Int) != 4) = true := by rw [bne_iff_ne]; omega
        go_wp2_with fail
        go_ret
        exact ⟨ret_bool (by simp [lostOk, all_false_at rowOk _ _ _ Hl.out (by simp [rowOk, sameLen, hl4])]), rfl⟩
      have hne : ((l.length : Int) == 4) = true := by rw [beq_iff_eq]; omega
      have hne' : ((l.length : Int) != 4) = false := by simp only [bne, hne, Bool.not_true]
      have Hl4 := Lib.hid hl4
      have hl4' : l.length ≤ 4 := by omega
      clear hl4
      go_wp2_with fail
      clear hne hne'
      go_loop [4] (fun i => ∃ j : Nat, j ≤ l.length ∧ i = .int .i64 j ∧ (l.take j).all lossB = true) (fun i => l.length - (intOf i).toNat)
      case atStart => exact ⟨0, Nat.zero_le _, rfl, by simp⟩
      case round =>
        obtain ⟨j, hj, rfl, hal⟩ := hrel
        have Hal := Lib.hid hal
        clear hal
        by_cases hjl : j < l.length
        · obtain ⟨b2, off2, x, rfl, hbB2, hx, d0⟩ := hrow.int_at hjl
          have Hx := Lib.hid hx
          clear hx
          cases hp : inB x 0 99 with
          | true =>
            go_wp2_with (go_at_call 52; refine (l1In_any _ _ _ _).mono ?_; rintro e w' ⟨rfl, rfl⟩)
            go_round
            case rel => exact ⟨j + 1, by omega, by go_num, by rw [all_take_succ _ _ _ _ Hx.out, Hal.out]; simp [lossB, hp]⟩
            case measure => simp [intOf]; omega
          | false =>
            go_wp2_with (go_at_call 52; refine (l1In_any _ _ _ _).mono ?_; rintro e w' ⟨rfl, rfl⟩)
            go_ret
            exact ⟨ret_bool (by simp [lostOk, all_false_at rowOk _ _ _ Hl.out (by simp [rowOk, all_false_at lossB _ _ _ Hx.out hp])]), rfl⟩
        · have e : j = l.length := by omega
          have hal := Hal.out
          rw [e, List.take_length] at hal
          have Hal2 := Lib.hid hal
          clear hal e Hal
          go_wp2_with fail
          go_round
          case rel => exact ⟨k + 1, by omega, by go_num, by rw [all_take_succ _ _ _ _ Hl.out, Hall.out]; simp [rowOk, sameLen, Hl4.out, Hal2.out]⟩
          case measure => simp [intOf]; omega
    · go_wp2_with fail
      go_ret
      have e : k = L.length := by omega
      have ha := Hall.out
      rw [e, List.take_length] at ha
      exact ⟨ret_bool (by
        simp only [lostOk, ha, sameLen, Bool.and_true]
        rw [Bool.eq_iff_iff]
        simp
        try omega), rfl⟩
end Go.Proofs.YtdobfpdfbfaohaaDoor
