/- Package calendar: Open. -/
import Derived.Test.YtcblbjhhlnmkjaaCalW
namespace Go.Proofs.Ytcblbjhhlnmkjaa
open Go.RowKit Cal
set_option maxHeartbeats 4000000
set_option maxRecDepth 100000
set_option linter.unusedVariables false
attribute [local irreducible] wpPlan

end Go.Proofs.Ytcblbjhhlnmkjaa
