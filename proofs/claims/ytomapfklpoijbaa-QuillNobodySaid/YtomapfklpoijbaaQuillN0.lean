/- quill's Reader and Writer, where there is none (nil). -/
import Derived.Test.YtomapfklpoijbaaQuillV
namespace Go.Proofs.Ytomapfklpoijbaa
open Go.RowKit
set_option maxHeartbeats 4000000
set_option maxRecDepth 100000
set_option linter.unusedVariables false

theorem nil_wlen (w : World) : Calls Try.prog 46 #[.pointer none] w fun e w' => e = .returned (.int .i64 0) ∧ w = w' := by
  go_enter Try.func46, Try.ntmps46
  go_wp2
  go_ret
  simp
theorem nil_wbytes (w : World) : Calls Try.prog 42 #[.pointer none] w fun e w' => e = .returned (.slice none 0 0) ∧ w = w' := by
  go_enter Try.func42, Try.ntmps42
  go_wp2
  go_ret
  simp
theorem nil_wnum (w : World) (A : Option Addr) (n c : Nat) : Calls Try.prog 39 #[.pointer none, .slice A n c] w fun e w' => e = .returned (.tuple #[]) ∧ w = w' := by
  go_enter Try.func39, Try.ntmps39
  go_wp2
  refine bodyPost_ret (v := .tuple #[]) (results_none (by rfl) _ _ _) rfl ?_
  simp
theorem nil_wint (w : World) (A : Option Addr) (n c : Nat) : Calls Try.prog 40 #[.pointer none, .slice A n c] w fun e w' => e = .returned (.tuple #[]) ∧ w = w' := by
  go_enter Try.func40, Try.ntmps40
  go_wp2
  refine bodyPost_ret (v := .tuple #[]) (results_none (by rfl) _ _ _) rfl ?_
  simp
theorem nil_wraw (w : World) (A : Option Addr) (n c : Nat) : Calls Try.prog 84 #[.pointer none, .slice A n c] w fun e w' => e = .returned (.tuple #[]) ∧ w = w' := by
  go_enter Try.func84, Try.ntmps84
  go_wp2
  go_end0
  simp
theorem nil_bad (w : World) : Calls Try.prog 41 #[.pointer none] w fun e w' => e = .returned (.bool false) ∧ w = w' := by
  go_enter Try.func41, Try.ntmps41
  go_wp2
  go_ret
  simp
theorem nil_left (w : World) : Calls Try.prog 43 #[.pointer none] w fun e w' => e = .returned (.int .i64 0) ∧ w = w' := by
  go_enter Try.func43, Try.ntmps43
  go_wp2
  go_ret
  simp
theorem nil_fail (w : World) : Calls Try.prog 89 #[.pointer none] w fun e w' => e = .returned (.tuple #[]) ∧ w = w' := by
  go_enter Try.func89, Try.ntmps89
  go_wp2
  go_end0
  simp
theorem nil_number (w : World) (most : Nat) (m : Bool) : Calls Try.prog 78 #[.pointer none, .int .u64 most, .bool m] w fun e w' => e = .returned (.tuple #[.int .u64 0, .bool false]) ∧ w = w' := by
  go_enter Try.func78, Try.ntmps78
  go_wp2_with (first
    | (go_at_call 43; refine (nil_left _).mono ?_; rintro e w' ⟨rfl, rfl⟩)
    | (go_at_call 89; refine (nil_fail _).mono ?_; rintro e w' ⟨rfl, rfl⟩))
  go_ret2
  simp
theorem nil_num (w : World) (most : Nat) : Calls Try.prog 37 #[.pointer none, .int .u64 most] w fun e w' => e = .returned (.int .u64 0) ∧ w = w' := by
  go_enter Try.func37, Try.ntmps37
  go_wp2_with (go_at_call 78; refine (nil_number _ _ _).mono ?_; rintro e w' ⟨rfl, rfl⟩)
  go_ret
  simp
theorem nil_int (w : World) : Calls Try.prog 38 #[.pointer none] w fun e w' => e = .returned (.int .i64 0) ∧ w = w' := by
  go_enter Try.func38, Try.ntmps38
  go_wp2_with (go_at_call 78; refine (nil_number _ _ _).mono ?_; rintro e w' ⟨rfl, rfl⟩)
  go_ret
  simp
theorem nil_flag (w : World) : Calls Try.prog 52 #[.pointer none] w fun e w' => e = .returned (.bool false) ∧ w = w' := by
  go_enter Try.func52, Try.ntmps52
  go_wp2_with (go_at_call 37; refine (nil_num _ _).mono ?_; rintro e w' ⟨rfl, rfl⟩)
  go_ret
  simp
theorem nil_end (w : World) : Calls Try.prog 50 #[.pointer none] w fun e w' => e = .returned (.int .i64 1) ∧ w = w' := by
  go_enter Try.func50, Try.ntmps50
  go_wp2
  go_ret
  simp
theorem nil_raw (w : World) (n : Int) : Calls Try.prog 54 #[.pointer none, .int .i64 n] w fun e w' => e = .returned (.slice none 0 0) ∧ w = w' := by
  go_enter Try.func54, Try.ntmps54
  go_wp2_with (first
    | (go_at_call 43; refine (nil_left _).mono ?_; rintro e w' ⟨rfl, rfl⟩)
    | (go_at_call 89; refine (nil_fail _).mono ?_; rintro e w' ⟨rfl, rfl⟩))
  all_goals (go_ret; simp)
end Go.Proofs.Ytomapfklpoijbaa
