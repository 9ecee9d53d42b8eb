/-
  Contracts of the laws' own helpers on slices (copy in, compare, count). Each writes nothing that was there.
-/
import Derived.Test.YtlhjncefckidjaaDoorVal
namespace Go.Proofs.YtlhjncefckidjaaDoor
open Go.RowKit
theorem infoInt : (Tryd.prog.info? 3).map (fun i => (i.zero, i.size, i.bytes)) = some (some (.int .i64 0), 1, 8) := by kernel_rfl
theorem infoStuff : (Tryd.prog.info? 42).map (fun i => (i.zero, i.size, i.bytes)) = some (some (.agg #[.int .i64 0, .int .i64 0, .int .i64 0, .int .i64 0, .int .i64 0]), 5, 40) := by kernel_rfl
end Go.Proofs.YtlhjncefckidjaaDoor
