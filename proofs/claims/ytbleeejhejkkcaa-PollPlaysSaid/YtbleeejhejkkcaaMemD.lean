/- What With and Without do, the program's and the reference's. -/
import Derived.Test.YtbleeejhejkkcaaMemC
namespace Go.Proofs.Ytbleeejhejkkcaa
open Go.RowKit
set_option maxHeartbeats 4000000
set_option maxRecDepth 100000
set_option linter.unusedVariables false

theorem or_lt7 (s k : Nat) (hs : s < 128) (hk : k < 7) : s ||| 1 <<< k < 128 := by
  refine Nat.or_lt_two_pow (n := 7) hs ?_
  rw [Nat.one_shiftLeft]
  exact Nat.pow_lt_pow_right (by omega) hk
theorem andNot_bits : ∀ s, s < 128 → ∀ k, k < 7 → (s &&& (18446744073709551615 - 1 <<< k) < 128 ∧ ∀ i, i < 7 → (s &&& (18446744073709551615 - 1 <<< k)).testBit i = (s.testBit i && !decide (k = i))) := by decide +kernel
theorem bit_andNot (s k : Nat) (c : Int) (hs : s < 128) (hk : k < 7) (hc : c = ((1 <<< k : Nat) : Int)) : bits .andNot .u64 (s : Int) c = ((s &&& (18446744073709551615 - 1 <<< k) : Nat) : Int) := by
  subst hc
  refine u64_andNot_nat _ _ (by omega) ?_
  rw [Nat.one_shiftLeft]
  exact Nat.lt_of_lt_of_le (Nat.pow_lt_pow_right (by omega) hk) (by decide)
theorem with_of (l : List Int) (k : Nat) (h1 : Row.soundB l = true) (h2 : k < 7) (h3 : l.contains (k : Int) = false) : withL l k = Row.ofN (Row.setN l ||| 1 <<< k) ∧ withE l k = 0 := by
  rw [Row.with_row]
  constructor
  · rw [withL, if_pos ⟨h1, by omega, h3⟩]; rfl
  · rw [withE, if_pos ⟨h1, by omega⟩, h3]; rfl
theorem less_of (l : List Int) (k : Nat) (h1 : Row.soundB l = true) (h2 : k < 7) (h3 : l.contains (k : Int) = true) (h4 : l.length ≠ 1) : lessL l k = Row.ofN (Row.setN l &&& (18446744073709551615 - 1 <<< k)) ∧ lessE l k = 0 := by
  rw [Row.without_row l k _ (andNot_bits _ (Row.setN_lt l) k h2).2]
  constructor
  · rw [lessL, if_pos ⟨h1, by omega, h3, h4⟩]; rfl
  · rw [lessE, if_pos ⟨h1, by omega⟩, if_pos h3, if_neg h4]

end Go.Proofs.Ytbleeejhejkkcaa
