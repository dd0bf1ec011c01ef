/-
  A drawn column and line. No conditions.
-/
import Derived.Test.YthopeedonikdhaaTyped2
import Derived.Deep.DeepCutAuto
namespace Go.Proofs.Ythopeedonikdhaa
set_option linter.all false
set_option linter.unusedSimpArgs false
set_option linter.unusedVariables false
open Go.ChangeShapes Go.WideShapes Go.ChangeAt Go.RowKit
