/- What is under a path, by both texts. -/
import Derived.Test.YthcfjiapmigjiaaDoorPath3
namespace Go.Proofs.YthcfjiapmigjiaaDoor
open Go.RowKit
set_option linter.unusedVariables false
set_option linter.unusedSimpArgs false
set_option maxRecDepth 20000

def underAll (a b : List UInt8) : Bool := pathB a && pathB b && underL a b
end Go.Proofs.YthcfjiapmigjiaaDoor
