/- What the reference's Row does; With and Without. What With and Without do, the program's and the reference's. What With and Without do, the program's and the reference's. What the reference's Num, Int, Flag, Text write (chapter 1): the same bytes. -/
import Derived.Test.YtpgakkpmpnebnaaVMemB
import Derived.Test.YtpgakkpmpnebnaaVQuillY
section
namespace Go.Proofs.Ytpgakkpmpnebnaa
open Go.RowKit
set_option maxHeartbeats 2000000
set_option maxRecDepth 100000
set_option linter.unusedVariables false

def rowB (l : List Int) (less more : Int) (i : Nat) : Bool := decide ((i : Int) = more) || (!decide ((i : Int) = less) && l.contains (i : Int))
/-- Two results: a slice that reads as xs, or none, and a number. -/
def NewTwo (w : World) (xs : List Value) (v : Value) (e : Ending) (w' : World) : Prop :=
  ∃ A c, e = .returned (.tuple #[.slice A xs.length c, v]) ∧ xs.length ≤ c ∧ c ≤ maxLen ∧ Rd w' (fun k => w.heap.size ≤ k) A xs.length xs ∧ Touch (fun _ => False) w w'
theorem NewTwo.none {w w' : World} {v : Value} (t : Touch (fun _ => False) w w') : NewTwo w [] v (.returned (.tuple #[.slice none 0 0, v])) w' := ⟨Option.none, 0, rfl, Nat.le_refl _, by simp, Rd.nil _ _ _, t⟩
theorem NewTwo.of {w w1 w2 : World} {xs : List Value} {v : Value} {A : Option Addr} {c : Nat} {e : Ending} (t1 : Touch (fun _ => False) w w1) (he : e = .returned (.tuple #[.slice A xs.length c, v])) (h1 : xs.length ≤ c) (h2 : c ≤ maxLen) (hr : Rd w2 (fun k => w1.heap.size ≤ k) A xs.length xs) (t2 : Touch (fun _ => False) w1 w2) : NewTwo w xs v e w2 :=
  ⟨A, c, he, h1, h2, hr.mono (fun _ hk => Nat.le_trans t1.size hk), t1.trans t2 (fun _ _ e => e)⟩

/-- With, Without: the answer's row and number. -/
def withL (l : List Int) (n : Int) : List Int := if Row.soundB l = true ∧ (0 ≤ n ∧ n < 7) ∧ l.contains n = false then Row.rowOf (rowB l (-1) n) else []
def withE (l : List Int) (n : Int) : Int := if Row.soundB l = true ∧ (0 ≤ n ∧ n < 7) then if l.contains n = true then 32 else 0 else 2
def lessL (l : List Int) (n : Int) : List Int := if Row.soundB l = true ∧ (0 ≤ n ∧ n < 7) ∧ l.contains n = true ∧ l.length ≠ 1 then Row.rowOf (rowB l n (-1)) else []
def lessE (l : List Int) (n : Int) : Int := if Row.soundB l = true ∧ (0 ≤ n ∧ n < 7) then if l.contains n = true then if l.length = 1 then 33 else 0 else 31 else 2
end Go.Proofs.Ytpgakkpmpnebnaa
end

section
namespace Go.Proofs.Ytpgakkpmpnebnaa
open Go.RowKit
set_option maxHeartbeats 4000000
set_option maxRecDepth 100000
set_option linter.unusedVariables false

theorem or_lt7 (s k : Nat) (hs : s < 128) (hk : k < 7) : s ||| 1 <<< k < 128 := by
  refine Nat.or_lt_two_pow (n := 7) hs ?_
  rw [Nat.one_shiftLeft]
  exact Nat.pow_lt_pow_right (by omega) hk
theorem andNot_bits : ∀ s, s < 128 → ∀ k, k < 7 → (s &&& (18446744073709551615 - 1 <<< k) < 128 ∧ ∀ i, i < 7 → (s &&& (18446744073709551615 - 1 <<< k)).testBit i = (s.testBit i && !decide (k = i))) := by decide +kernel
theorem bit_andNot (s k : Nat) (c : Int) (hs : s < 128) (hk : k < 7) (hc : c = ((1 <<< k : Nat) : Int)) : bits .andNot .u64 (s : Int) c = ((s &&& (18446744073709551615 - 1 <<< k) : Nat) : Int) := by
  subst hc
  refine u64_andNot_nat _ _ (by omega) ?_
  rw [Nat.one_shiftLeft]
  exact Nat.lt_of_lt_of_le (Nat.pow_lt_pow_right (by omega) hk) (by decide)
theorem with_of (l : List Int) (k : Nat) (h1 : Row.soundB l = true) (h2 : k < 7) (h3 : l.contains (k : Int) = false) : withL l k = Row.ofN (Row.setN l ||| 1 <<< k) ∧ withE l k = 0 := by
  rw [Row.with_row]
  constructor
  · rw [withL, if_pos ⟨h1, by omega, h3⟩]; rfl
  · rw [withE, if_pos ⟨h1, by omega⟩, h3]; rfl
theorem less_of (l : List Int) (k : Nat) (h1 : Row.soundB l = true) (h2 : k < 7) (h3 : l.contains (k : Int) = true) (h4 : l.length ≠ 1) : lessL l k = Row.ofN (Row.setN l &&& (18446744073709551615 - 1 <<< k)) ∧ lessE l k = 0 := by
  rw [Row.without_row l k _ (andNot_bits _ (Row.setN_lt l) k h2).2]
  constructor
  · rw [lessL, if_pos ⟨h1, by omega, h3, h4⟩]; rfl
  · rw [lessE, if_pos ⟨h1, by omega⟩, if_pos h3, if_neg h4]

end Go.Proofs.Ytpgakkpmpnebnaa
end

section
namespace Go.Proofs.Ytpgakkpmpnebnaa
open Go.RowKit
set_option maxHeartbeats 4000000
set_option maxRecDepth 100000
set_option linter.unusedVariables false

end Go.Proofs.Ytpgakkpmpnebnaa
end

section
namespace Go.Proofs.Ytpgakkpmpnebnaa
open Go.RowKit
set_option maxHeartbeats 2000000
set_option maxRecDepth 100000

/-- A row of its own that is handed back. -/
def NewOwn (w : World) (xs : List UInt8) (e : Ending) (w' : World) : Prop :=
  ∃ v k, e = .returned v ∧ Own w' 5 1 v (some k) xs.length (xs.map B8) ∧ w.heap.size ≤ k ∧ Touch (fun _ => False) w w'

theorem Rd.src {w : World} {F : Nat → Prop} {A : Option Addr} {n c : Nat} {xs : List UInt8} (hr : Rd w F A n (xs.map B8)) (hA : A = none → c = 0) : Src Try.prog 1 88 (.slice A n c) n (xs.map B8) w := by
  have hn : n = xs.length := by have := hr.1; simpa using this.symm
  subst hn
  rcases A with _ | ad
  · have h0 : xs = [] := by
      rcases xs with _ | ⟨x, xs⟩
      · rfl
      · obtain ⟨_, _, e, _⟩ := hr.2 (by simp); cases e
    subst h0
    rw [hA rfl]
    exact Src.ofNil w Try.underlying88 0
  · exact Src.ofSlice w Try.underlying88 ad _ _ _ (by simp) hr.add (B8_one xs)
theorem Own.src {w : World} {v : Value} {r : Option Nat} {n : Nat} {xs : List UInt8} (h : Own w 5 1 v r n (xs.map B8)) : Src Try.prog 1 88 v n (xs.map B8) w := by
  obtain ⟨A, c, rfl, _, _, hA, hr⟩ := h.rd
  exact hr.src hA

def low (n : Nat) : Nat → List UInt8
  | 0 => []
  | k + 1 => UInt8.ofNat (n / 256 ^ k % 256) :: low n k
theorem low_length (n : Nat) : ∀ k, (low n k).length = k
  | 0 => rfl
  | k + 1 => by simp [low, low_length n k]
theorem low_getD (n : Nat) : ∀ k j, j < k → (low n k).getD j 0 = UInt8.ofNat (n / 256 ^ (k - 1 - j) % 256)
  | 0, j, h => by omega
  | k + 1, 0, _ => by simp [low]
  | k + 1, j + 1, h => by
    have := low_getD n k j (by omega)
    simp only [low, List.getD_cons_succ]
    rw [this]
    congr 4
    omega
theorem dig_low (n k : Nat) (hn : n < 256 ^ 8) (hk : (dig n).length = k) : low n k = dig n := by
  apply List.ext_getElem?
  intro j
  by_cases hj : j < k
  · have h1 := low_getD n k j hj
    have h2 := dig_getD n j hn (by omega)
    rw [hk] at h2
    rw [← h1] at h2
    simp only [List.getD_eq_getElem?_getD] at h2
    have a1 := List.getElem?_eq_getElem (l := low n k) (i := j) (by rw [low_length]; exact hj)
    have a2 := List.getElem?_eq_getElem (l := dig n) (i := j) (by rw [hk]; exact hj)
    rw [a1, a2] at h2
    simp at h2
    rw [a1, a2, h2]
  · rw [List.getElem?_eq_none (by rw [low_length]; omega), List.getElem?_eq_none (by omega)]

theorem Own.store0 {w : World} {e : TypeId} {g n : Nat} {v x : Value} {xs : List Value} (h : Own w e 1 v (some g) n (x :: xs)) (u : Value) : Own (w.setCell ⟨g, 0, none⟩ u) e 1 v (some g) n (u :: xs) := by
  obtain ⟨hl, h2⟩ := h
  refine ⟨by simpa using hl, ?_⟩
  rcases h2 with ⟨_, _, hr⟩ | ⟨g', cap, cur, hr, hv, hb, hn, hc, hs, ht⟩
  · cases hr
  · injection hr with hr; subst hr
    refine .inr ⟨g, cap, _, rfl, hv, hb.set_ 0 u, hn, hc, by simpa using hs, ?_⟩
    have hn0 : 0 < n := by simp at hl; omega
    obtain ⟨m, rfl⟩ : ∃ m, n = m + 1 := ⟨n - 1, by omega⟩
    simp only [Nat.mul_one] at *
    rw [Array.toList_setIfInBounds]
    rcases hcl : cur.toList with _ | ⟨y, ys⟩
    · rw [hcl] at ht; simp at ht
    · rw [hcl] at ht
      simp at ht ⊢
      exact ht.2

theorem byteCells_eq (s : ByteArray) : Go.byteCells s = s.data.toList.map B8 := rfl

end Go.Proofs.Ytpgakkpmpnebnaa
end
