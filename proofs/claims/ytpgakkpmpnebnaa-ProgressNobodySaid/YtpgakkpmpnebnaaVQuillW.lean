/- What the calls of quill's Writer do. -/
import Derived.Test.YtpgakkpmpnebnaaOwn
import Derived.Test.YtpgakkpmpnebnaaVQuillR2
import Derived.Deep.RegionHeld3
import Derived.Deep.RegionLaw
import Derived.Laws.ShiftsVarLaws
namespace Go.Proofs.Ytpgakkpmpnebnaa
open Go.RowKit
set_option maxHeartbeats 2000000
set_option maxRecDepth 100000

/-- The digits of n to the base 256, the greatest first (at most f). -/
def dg : Nat → Nat → List UInt8
  | 0, _ => []
  | f + 1, n => if n = 0 then [] else dg f (n / 256) ++ [UInt8.ofNat (n % 256)]
def dig (n : Nat) : List UInt8 := dg 8 n
def encN (mark n : Nat) : List UInt8 := UInt8.ofNat (mark + (dig n).length) :: dig n

theorem dg_len : ∀ f n, (dg f n).length ≤ f
  | 0, _ => by simp [dg]
  | f + 1, n => by
    unfold dg
    split
    · simp
    · have := dg_len f (n / 256)
      simp; omega
theorem dg_more : ∀ f n, n < 256 ^ f → dg (f + 1) n = dg f n
  | 0, n, h => by
    have : n = 0 := by simpa using h
    subst this; simp [dg]
  | f + 1, n, h => by
    rw [dg]
    split
    · rename_i h0; simp [dg, h0]
    · rename_i h0
      have hd : n / 256 < 256 ^ f := by rw [Nat.pow_succ] at h; omega
      rw [dg_more f (n / 256) hd]
      conv => rhs; rw [dg, if_neg h0]
theorem dg_get : ∀ f n j, n < 256 ^ f → j < (dg f n).length → (dg f n).getD j 0 = UInt8.ofNat (n / 256 ^ ((dg f n).length - 1 - j) % 256)
  | 0, n, j, _, hj => by simp [dg] at hj
  | f + 1, n, j, h, hj => by
    unfold dg at hj ⊢
    split
    · rename_i h0; simp [h0] at hj
    · rename_i h0
      rw [if_neg h0] at hj
      have hd : n / 256 < 256 ^ f := by rw [Nat.pow_succ] at h; omega
      simp only [List.length_append, List.length_singleton] at hj ⊢
      by_cases hl : j < (dg f (n / 256)).length
      · have ih := dg_get f (n / 256) j hd hl
        have ea : (dg f (n / 256) ++ [UInt8.ofNat (n % 256)]).getD j 0 = (dg f (n / 256)).getD j 0 := by
          simp only [List.getD_eq_getElem?_getD]
          rw [List.getElem?_append_left hl]
        rw [ea, ih, Nat.div_div_eq_div_mul]
        congr 3
        rw [← Nat.pow_succ']
        congr 1
        omega
      · have hj' : j = (dg f (n / 256)).length := by omega
        subst hj'
        simp

/-- How many digits. -/
theorem dg_size : ∀ f k n, n / 256 ^ k < 256 ^ f → n < 256 ^ (f + k) → (n / 256 ^ k ≠ 0 ∨ k = 0 ∨ n / 256 ^ (k - 1) ≠ 0) → (dg (f + k) n).length = k + (dg f (n / 256 ^ k)).length := by
  intro f k
  induction k with
  | zero => intro n _ _ _; simp
  | succ k ih =>
    intro n h1 h2 h3
    have e : n / 256 ^ (k + 1) = n / 256 / 256 ^ k := by rw [Nat.div_div_eq_div_mul, ← Nat.pow_succ']
    have hn0 : n ≠ 0 := by
      rcases h3 with h3 | h3 | h3
      · intro h; subst h; simp at h3
      · omega
      · intro h; subst h; simp at h3
    rw [show f + (k + 1) = (f + k) + 1 by omega, dg, if_neg hn0, List.length_append, List.length_singleton]
    rw [e] at h1 ⊢
    rw [ih (n / 256) h1 (by rw [show f + (k + 1) = f + k + 1 by omega, Nat.pow_succ] at h2; omega) ?_]
    · omega
    · rcases h3 with h3 | h3 | h3
      · rw [e] at h3; exact .inl h3
      · omega
      · rcases Nat.eq_zero_or_pos k with rfl | hk
        · exact .inr (.inl rfl)
        · refine .inr (.inr ?_)
          rw [show k + 1 - 1 = (k - 1) + 1 by omega, Nat.pow_succ', ← Nat.div_div_eq_div_mul] at h3
          exact h3

theorem dig_size (n k : Nat) (hn : n < 256 ^ 8) (hk : k ≤ 8) (h0 : n / 256 ^ k = 0) (h1 : k = 0 ∨ n / 256 ^ (k - 1) ≠ 0) : (dig n).length = k := by
  have := dg_size (8 - k) k n (by rw [h0]; exact Nat.pow_pos (by decide)) (by rw [Nat.sub_add_cancel hk]; exact hn) (by
    rcases h1 with h1 | h1
    · exact .inr (.inl h1)
    · exact .inr (.inr h1))
  rw [Nat.sub_add_cancel hk, h0] at this
  unfold dig
  rw [this]
  have e : dg (8 - k) 0 = [] := by cases 8 - k <;> simp [dg]
  rw [e]; simp
theorem dig_getD (n j : Nat) (hn : n < 256 ^ 8) (hj : j < (dig n).length) : (dig n).getD j 0 = UInt8.ofNat (n / 256 ^ ((dig n).length - 1 - j) % 256) := dg_get 8 n j hn hj
theorem dig_le (n : Nat) : (dig n).length ≤ 8 := dg_len 8 n

theorem byte_at (n j k : Nat) (hk : (dig n).length = k) (hn : n < 256 ^ 8) (hj : j < k) : (Value.int .u8 (IntKind.u8.wrap ((n : Int) / 2 ^ (8 * ((k : Int) - 1 - j)).toNat))) = B8 ((dig n).getD j 0) := by
  subst hk
  rw [dig_getD n j hn hj, B8, IntKind.wrap_u8]
  have e : (8 * (((dig n).length : Int) - 1 - j)).toNat = 8 * ((dig n).length - 1 - j) := by omega
  have e2 : ((2 : Int) ^ (8 * ((dig n).length - 1 - j))) = ((256 ^ ((dig n).length - 1 - j) : Nat) : Int) := by
    rw [Int.natCast_pow]
    rw [Int.pow_mul]; rfl
  rw [e, e2]
  congr 1
  rw [UInt8.toNat_ofNat']
  omega

end Go.Proofs.Ytpgakkpmpnebnaa
