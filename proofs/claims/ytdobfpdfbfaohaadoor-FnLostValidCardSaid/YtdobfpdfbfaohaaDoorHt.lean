/-
  Contracts of the functions on single heats and casters and on lists of heats, in the program, the reference and the laws' helpers. Each writes nothing that was there.
-/
import Derived.Test.YtdobfpdfbfaohaaDoorSl
namespace Go.Proofs.YtdobfpdfbfaohaaDoor
open Go.RowKit
set_option linter.unusedVariables false
theorem heatValid_any (a b c : Int) (w : World) : Calls Tryd.prog 19 #[.agg #[.int .i64 a, .int .i64 b, .int .i64 c]] w fun E w' => E = .returned (.bool (heatOk ⟨a, b, c⟩)) ∧ Below w.heap.size w w' := by
  go_enter Tryd.func19, Tryd.ntmps19
  go_wp2_with (go_at_call 51; refine (within_any _ _ _ _).mono ?_; rintro e w' ⟨rfl, rfl⟩)
  all_goals
    go_ret
    exact ⟨ret_bool (by simp [heatOk, *]), (Below.refl _ _).alloc (Nat.le_refl _) _⟩
theorem casterValid_any (a b : Int) (w : World) : Calls Tryd.prog 15 #[.agg #[.int .i64 a, .int .i64 b]] w fun E w' => E = .returned (.bool (casterOk ⟨a, b⟩)) ∧ Below w.heap.size w w' := by
  go_enter Tryd.func15, Tryd.ntmps15
  go_wp2_with (go_at_call 51; refine (within_any _ _ _ _).mono ?_; rintro e w' ⟨rfl, rfl⟩)
  all_goals
    go_ret
    exact ⟨ret_bool (by simp [casterOk, *]), (Below.refl _ _).alloc (Nat.le_refl _) _⟩
theorem sHeatValid_any (a b c : Int) (w : World) : Calls Tryd.prog 20 #[.agg #[.int .i64 a, .int .i64 b, .int .i64 c]] w fun E w' => E = .returned (.bool (heatOk ⟨a, b, c⟩)) ∧ Below w.heap.size w w' := by
  go_enter Tryd.func20, Tryd.ntmps20
  go_wp2_with (go_at_call 52; refine (l1In_any _ _ _ _).mono ?_; rintro e w' ⟨rfl, rfl⟩)
  all_goals
    go_ret
    exact ⟨ret_bool (by simp [heatOk, *]), (Below.refl _ _).alloc (Nat.le_refl _) _⟩
theorem sCasterValid_any (a b : Int) (w : World) : Calls Tryd.prog 16 #[.agg #[.int .i64 a, .int .i64 b]] w fun E w' => E = .returned (.bool (casterOk ⟨a, b⟩)) ∧ Below w.heap.size w w' := by
  go_enter Tryd.func16, Tryd.ntmps16
  go_wp2_with (go_at_call 52; refine (l1In_any _ _ _ _).mono ?_; rintro e w' ⟨rfl, rfl⟩)
  all_goals
    go_ret
    exact ⟨ret_bool (by simp [casterOk, *]), (Below.refl _ _).alloc (Nat.le_refl _) _⟩
theorem heatsValid_any (A : Option Addr) (c : Nat) (l : List Heat) (w : World) (hs : Sees w w.heap.size A (ints (flatH l))) (hn : l.length ≤ 1048576) :
    Calls Tryd.prog 22 #[.slice A l.length c] w fun e w' => e = .returned (.bool (heatsOk l)) ∧ Below w.heap.size w w' := by
  by_cases h4 : l.length ≤ 6
  · go_enter Tryd.func22, Tryd.ntmps22
    go_wp2_with fail
    go_loopw [10] (fun i wr => ∃ k : Nat, k ≤ l.length ∧ i = .int .i64 k ∧ (l.take k).all heatOk = true ∧ Below w.heap.size w wr) (fun i _ => l.length - (intOf i).toNat)
    case atStart => exact ⟨0, Nat.zero_le _, rfl, by simp, Below.refl _ _⟩
    case round =>
      obtain ⟨k, hk, rfl, hall, hb⟩ := hrel
      have Hall := Lib.hid hall
      clear hall
      by_cases hlt : k < l.length
      · obtain ⟨b, off, a1, a2, a3, rfl, hbB, hl, c0, c1, c2⟩ := (hs.below hb).heat_at hlt
        have Hl := Lib.hid hl
        clear hl
        cases hok : heatOk ⟨a1, a2, a3⟩ with
        | true =>
          go_wp2_with (go_at_call 19; refine (heatValid_any _ _ _ _).mono ?_; rintro e w' ⟨rfl, hb2⟩)
          go_roundw
          case rel => exact ⟨k + 1, by omega, by go_num, by rw [all_take_succ _ _ _ _ Hl.out, Hall.out, hok]; rfl, hb.trans (((Below.refl _ _).alloc hb.size _).trans (hb2.mono (by simp; have := hb.size; omega)))⟩
          case measure => simp [intOf]; omega
        | false =>
          go_wp2_with (go_at_call 19; refine (heatValid_any _ _ _ _).mono ?_; rintro e w' ⟨rfl, hb2⟩)
          go_ret
          exact ⟨ret_bool (by simp [heatsOk, all_false_at _ _ _ _ Hl.out hok]), hb.trans (((Below.refl _ _).alloc hb.size _).trans (hb2.mono (by simp; have := hb.size; omega)))⟩
      · go_wp2_with fail
        go_ret
        have e : k = l.length := by omega
        have ha := Hall.out
        rw [e, List.take_length] at ha
        exact ⟨ret_bool (by simp [heatsOk, h4, ha]), hb⟩
  · go_enter Tryd.func22, Tryd.ntmps22
    go_wp2_with fail
    go_ret
    exact ⟨ret_bool (by simp [heatsOk, h4]), Below.refl _ _⟩
theorem sHeatsValid_any (A : Option Addr) (c : Nat) (l : List Heat) (w : World) (hs : Sees w w.heap.size A (ints (flatH l))) (hn : l.length ≤ 1048576) :
    Calls Tryd.prog 23 #[.slice A l.length c] w fun e w' => e = .returned (.bool (heatsOk l)) ∧ Below w.heap.size w w' := by
  go_enter Tryd.func23, Tryd.ntmps23
  go_wp2_with fail
  go_loopw [3] (fun i wr => ∃ k : Nat, k ≤ l.length ∧ i = .int .i64 k ∧ (l.take k).all heatOk = true ∧ Below w.heap.size w wr) (fun i _ => l.length - (intOf i).toNat)
  case atStart => exact ⟨0, Nat.zero_le _, rfl, by simp, Below.refl _ _⟩
  case round =>
    obtain ⟨k, hk, rfl, hall, hb⟩ := hrel
    have Hall := Lib.hid hall
    clear hall
    by_cases hlt : k < l.length
    · obtain ⟨b, off, a1, a2, a3, rfl, hbB, hl, c0, c1, c2⟩ := (hs.below hb).heat_at hlt
      have Hl := Lib.hid hl
      clear hl
      cases hok : heatOk ⟨a1, a2, a3⟩ with
      | true =>
        go_wp2_with (go_at_call 20; refine (sHeatValid_any _ _ _ _).mono ?_; rintro e w' ⟨rfl, hb2⟩)
        go_roundw
        case rel => exact ⟨k + 1, by omega, by go_num, by rw [all_take_succ _ _ _ _ Hl.out, Hall.out, hok]; rfl, hb.trans (hb2.mono hb.size)⟩
        case measure => simp [intOf]; omega
      | false =>
        go_wp2_with (go_at_call 20; refine (sHeatValid_any _ _ _ _).mono ?_; rintro e w' ⟨rfl, hb2⟩)
        go_ret
        exact ⟨ret_bool (by simp [heatsOk, all_false_at _ _ _ _ Hl.out hok]), hb.trans (hb2.mono hb.size)⟩
    · go_wp2_with fail
      go_ret
      have e : k = l.length := by omega
      have ha := Hall.out
      rw [e, List.take_length] at ha
      exact ⟨ret_bool (by simp [heatsOk, ha]; omega), hb⟩
end Go.Proofs.YtdobfpdfbfaohaaDoor
