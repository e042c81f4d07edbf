/- What Reached and Near do. -/
import Derived.Test.YtbleeejhejkkcaaMemG
import Derived.Test.YtbleeejhejkkcaaMemM
namespace Go.Proofs.Ytbleeejhejkkcaa
open Go.RowKit
set_option maxHeartbeats 4000000
set_option maxRecDepth 100000
set_option linter.unusedVariables false

theorem bit_and' (s j : Nat) (hs : s < 18446744073709551616) : bits .and .u64 ((s : Int) / 2 ^ j) 1 = ((s / 2 ^ j % 2 : Nat) : Int) := by
  have e : ((s : Int) / 2 ^ j) = ((s / 2 ^ j : Nat) : Int) := by rw [Int.natCast_ediv, Int.natCast_pow]; rfl
  rw [e, show (1 : Int) = ((1 : Nat) : Int) from rfl, u64_and_nat _ _ (Nat.lt_of_le_of_lt (Nat.div_le_self _ _) (by omega)) (by omega), Nat.and_one_is_mod]
theorem bit_val (s j : Nat) : (if s.testBit j then 1 else 0) = s / 2 ^ j % 2 := by
  rw [Nat.testBit_eq_decide_div_mod_eq]
  by_cases h : s / 2 ^ j % 2 = 1
  · simp [h]
  · simp [h]; omega
end Go.Proofs.Ytbleeejhejkkcaa
