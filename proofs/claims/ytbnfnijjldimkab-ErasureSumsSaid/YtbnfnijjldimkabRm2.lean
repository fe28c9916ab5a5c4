/-
  The walks of the document's Mul and Rank.
-/
import Derived.Test.YtbnfnijjldimkabRdown
namespace Go.Proofs.Ytbnfnijjldimkab
open Go.RowKit
set_option linter.unusedVariables false
set_option linter.unusedSimpArgs false
end Go.Proofs.Ytbnfnijjldimkab