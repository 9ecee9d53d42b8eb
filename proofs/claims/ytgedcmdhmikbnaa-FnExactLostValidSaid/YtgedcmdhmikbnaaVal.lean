/-
  Contracts of the functions on single values: within, StuffValid, GradeValid and the like, in the program and in the reference. Each returns what the plain function says and writes nothing that was there.
-/
import Derived.Test.YtgedcmdhmikbnaaProg
import Derived.Test.YtgedcmdhmikbnaaMem
import Derived.Test.YtgedcmdhmikbnaaPlain
namespace Go.Proofs.Ytgedcmdhmikbnaa
open Go.RowKit

theorem within_any (n lo hi : Int) (w : World) : Calls Try.prog 53 #[.int .i64 n, .int .i64 lo, .int .i64 hi] w fun e w' => e = .returned (.bool (inB n lo hi)) ∧ w = w' := by
  unfold inB
  by_cases h1 : lo ≤ n <;> by_cases h2 : n ≤ hi
  all_goals
    go_enter Try.func53, Try.ntmps53
    go_wp2
    go_ret
    exact ⟨by simp [h1, h2], rfl⟩
theorem l1In_any (n lo hi : Int) (w : World) : Calls Try.prog 52 #[.int .i64 n, .int .i64 lo, .int .i64 hi] w fun e w' => e = .returned (.bool (inB n lo hi)) ∧ w = w' := by
  unfold inB
  by_cases h1 : lo ≤ n <;> by_cases h2 : n ≤ hi
  all_goals
    go_enter Try.func52, Try.ntmps52
    go_wp2
    go_ret
    exact ⟨by simp [h1, h2], rfl⟩
end Go.Proofs.Ytgedcmdhmikbnaa
