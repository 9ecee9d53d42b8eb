/-
  Contracts of the laws' own helpers on slices (copy in, compare, count). Each writes nothing that was there.
-/
import Derived.Test.YtdobfpdfbfaohaaDoorVal
namespace Go.Proofs.YtdobfpdfbfaohaaDoor
open Go.RowKit
theorem infoInt : (Tryd.prog.info? 3).map (fun i => (i.zero, i.size, i.bytes)) = some (some (.int .i64 0), 1, 8) := by kernel_rfl
end Go.Proofs.YtdobfpdfbfaohaaDoor
