import Derived.Test.YtfdidelonilnmaaPlanM
/- Contracts of isPlan and l10Plan, l10Good, IsPlan. -/
set_option linter.unusedVariables false
namespace Go.Proofs.Ytfdidelonilnmaa
open Go.ChangeShapes Go.WideShapes Go.ChangeAt Go.RowKit

end Go.Proofs.Ytfdidelonilnmaa
