/-
  Contracts of the functions on stuffs and mixtures (StuffsValid, MixValid, MixTons, MixCost, MixSums, MixMeets), in the program and in the reference.
-/
import Derived.Test.YtdobfpdfbfaohaaDoorSl
namespace Go.Proofs.YtdobfpdfbfaohaaDoor
open Go.RowKit
set_option linter.unusedVariables false
theorem mixTons_any (A : Option Addr) (c : Nat) (l : List Int) (w : World) (hs : Sees w w.heap.size A (ints l)) (hn : l.length ≤ 1048576) :
    Calls Tryd.prog 53 #[.slice A l.length c] w fun e w' => e = .returned (.int .i64 (tonsOf l)) ∧ w = w' := by
  go_enter Tryd.func53, Tryd.ntmps53
  go_wp2_with fail
  go_loop [3, 8] (fun t i => ∃ k : Nat, k ≤ l.length ∧ i = .int .i64 k ∧ t = .int .i64 (tonsOf (l.take k))) (fun _ i => l.length - (intOf i).toNat)
  case atStart => exact ⟨0, Nat.zero_le _, rfl, rfl⟩
  case round =>
    obtain ⟨k, hk, rfl, rfl⟩ := hrel
    by_cases hlt : k < l.length
    · obtain ⟨b, off, x, rfl, hbB, hl, c0⟩ := hs.int_at hlt
      have Hl := Lib.hid hl
      clear hl
      go_wp2_with fail
      go_round
      case rel => exact ⟨k + 1, by omega, by go_num, by unfold tonsOf; rw [foldl_take_succ _ _ _ _ _ Hl.out]; exact int_w64⟩
      case measure => simp [intOf]; omega
    · go_wp2_with fail
      go_ret
      have e : k = l.length := by omega
      exact ⟨ret_int (by rw [e, List.take_length]), rfl⟩
end Go.Proofs.YtdobfpdfbfaohaaDoor
