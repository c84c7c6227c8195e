import Derived.Test.YtfjonnpaoeillaaTable
/- Contracts of the laws' functions on tables, and of copies by append. -/
set_option linter.unusedVariables false
namespace Go.Proofs.Ytfjonnpaoeillaa
open Go.ChangeShapes Go.WideShapes Go.ChangeAt Go.RowKit

end Go.Proofs.Ytfjonnpaoeillaa
