/- quill's Reader.Text, where there is none (nil). -/
import Derived.Test.YtomapfklpoijbaaQuillN0
namespace Go.Proofs.Ytomapfklpoijbaa
open Go.RowKit
set_option maxHeartbeats 4000000
set_option maxRecDepth 100000
set_option linter.unusedVariables false
theorem nil_text_neg (w : World) (n : Int) (hn : n < 0) : Calls Try.prog 53 #[.pointer none, .int .i64 n] w fun e w' => e = .returned (.string ByteArray.empty) ∧ w = w' := by
  go_enter Try.func53, Try.ntmps53
  go_wp2_with (go_at_call 89; refine (nil_fail _).mono ?_; rintro e w' ⟨rfl, rfl⟩)
  go_ret
  exact ⟨rfl, rfl⟩
end Go.Proofs.Ytomapfklpoijbaa
