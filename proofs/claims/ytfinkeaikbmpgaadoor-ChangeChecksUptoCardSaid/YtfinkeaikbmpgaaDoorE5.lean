import Derived.Test.YtfinkeaikbmpgaaDoorE2
import Derived.Deep.DeepWitnessRowRef
set_option linter.unusedSimpArgs false
set_option linter.unusedVariables false
set_option linter.unnecessarySimpa false
set_option linter.defProp false
/- A world that holds all of the listed tables. -/
namespace Go.Proofs.YtfinkeaikbmpgaaDoor
open Go Go.ChangeShapes Go.WideShapes Go.ChangeAt Go.RowKit
end Go.Proofs.YtfinkeaikbmpgaaDoor
