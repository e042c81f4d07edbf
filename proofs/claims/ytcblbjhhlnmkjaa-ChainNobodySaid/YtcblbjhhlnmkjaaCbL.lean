/- calendar.Plain; CalendarChecks walked. -/
import Derived.Test.YtcblbjhhlnmkjaaCbG
namespace Go.Proofs.Ytcblbjhhlnmkjaa
open Go.RowKit Cal
set_option maxHeartbeats 4000000
set_option maxRecDepth 100000
set_option linter.unusedVariables false
attribute [local irreducible] wpPlan

def PlainV (w : World) (c : Ca) (e : Ending) (w' : World) : Prop :=
  ∃ A n B m, e = .returned (.agg #[.int .i64 c.off, .slice A c.wk.length n, .slice B c.cl.length m]) ∧ CaR w' (fun q => w.heap.size ≤ q) c A B ∧ Touch (fun _ => False) w w'
end Go.Proofs.Ytcblbjhhlnmkjaa
