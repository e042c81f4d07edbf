/- What With and Without do, the program's and the reference's. -/
import Derived.Test.YtbleeejhejkkcaaMemD
namespace Go.Proofs.Ytbleeejhejkkcaa
open Go.RowKit
set_option maxHeartbeats 4000000
set_option maxRecDepth 100000
set_option linter.unusedVariables false

end Go.Proofs.Ytbleeejhejkkcaa
