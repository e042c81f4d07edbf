/- law10: Light, lives. -/
import Derived.Test.YtcblbjhhlnmkjaaCbC
import Derived.Test.YtcblbjhhlnmkjaaCalG
namespace Go.Proofs.Ytcblbjhhlnmkjaa
open Go.RowKit Cal
set_option maxHeartbeats 4000000
set_option maxRecDepth 100000
set_option linter.unusedVariables false

theorem light10_any (A B : Option Addr) (k m n n2 : Nat) (o : Int) (w : World) :
    Calls Try.prog 48 #[.agg #[.int .i64 o, .slice A n k, .slice B n2 m]] w fun e w' => e = .returned (.bool (decide (n ≤ 60) && decide (n2 ≤ 60))) ∧ Touch (fun _ => False) w w' := by
  have HT := Lib.hid ((Touch.refl (fun _ => False) w).alloc (.cells #[.int .i64 o, .slice A n k, .slice B n2 m] 25))
  have HV := Lib.hid (show decide (n ≤ 60) = decide ((n : Int) ≤ 60) by simp; omega)
  have HV2 := Lib.hid (show decide (n2 ≤ 60) = decide ((n2 : Int) ≤ 60) by simp; omega)
  by_cases h1 : (n : Int) ≤ 60
  · by_cases h2 : (n2 : Int) ≤ 60
    · go_enter Try.func48, Try.ntmps48
      go_wp2
      go_ret
      exact ⟨by rw [HV.out, HV2.out]; simp [h1, h2], HT.out⟩
    · go_enter Try.func48, Try.ntmps48
      go_wp2
      go_ret
      exact ⟨by rw [HV.out, HV2.out]; simp [h1, h2], HT.out⟩
  · go_enter Try.func48, Try.ntmps48
    go_wp2
    go_ret
    exact ⟨by rw [HV.out, HV2.out]; simp; omega, HT.out⟩
def cL : Ca := ⟨0, [⟨10, 20⟩], []⟩
theorem cL_ok : cL.Ok := ⟨by simp [cL], ⟨by simp [cL, Row], by simp [cL], by simp [cL]⟩, by simp [cL, Row], by simp [cL]⟩
theorem cL_due1 : cL.due 0 5 = (15, 0) := by
  refine due_of cL (by decide) (by decide) ⟨by omega, by decide, by decide⟩ (by omega)
theorem cL_due2 : cL.due 15 6 = (604811, 0) := by
  refine due_of cL (by decide) (by decide) (.of_least (by omega) ?_ ?_) (by omega)
  · rw [← cL_ok.count (by omega) (by omega)]; decide
  · rw [← cL_ok.count (by omega) (by omega)]; decide
end Go.Proofs.Ytcblbjhhlnmkjaa
