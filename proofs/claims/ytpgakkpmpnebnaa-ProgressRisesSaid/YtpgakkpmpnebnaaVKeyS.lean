/- The plain law of an insertion sort; cmp.Less and bits.Len at small numbers. -/
import Derived.Test.YtpgakkpmpnebnaaVQuillY
namespace Go.Proofs.Ytpgakkpmpnebnaa
open Go.RowKit
set_option maxHeartbeats 4000000
set_option maxRecDepth 100000
set_option linter.unusedVariables false

theorem get_U64k {l : List Nat} {j : Nat} (hj : j < l.length) : (l.map U64)[j]? = some (U64 (l.getD j 0)) := by simp [List.getD, List.getElem?_eq_getElem hj]
/-- Sorted up to k, but for the one at j, which is no greater than those behind it. -/
def Ins (ys : List Nat) (k j : Nat) : Prop := (∀ p q, p < q → q ≤ k → p ≠ j → q ≠ j → ys.getD p 0 ≤ ys.getD q 0) ∧ ∀ q, j < q → q ≤ k → ys.getD j 0 ≤ ys.getD q 0
/-- Sorted below k. -/
def Srt (ys : List Nat) (k : Nat) : Prop := ∀ p q, p < q → q < k → ys.getD p 0 ≤ ys.getD q 0
theorem Srt.ins {ys : List Nat} {k : Nat} (h : Srt ys k) : Ins ys k k := ⟨fun p q h1 h2 _ h4 => h p q h1 (by omega), fun q h1 h2 => by omega⟩
theorem Ins.done {ys : List Nat} {k j : Nat} (h : Ins ys k j) (hj : j = 0 ∨ ys.getD (j - 1) 0 ≤ ys.getD j 0) : Srt ys (k + 1) := by
  intro p q h1 h2
  by_cases hp : p = j
  · subst hp; exact h.2 q h1 (by omega)
  · by_cases hq : q = j
    · subst hq
      rcases hj with h0 | h0
      · omega
      · by_cases hp1 : p = q - 1
        · subst hp1; exact h0
        · exact Nat.le_trans (h.1 p (q - 1) (by omega) (by omega) hp (by omega)) h0
    · exact h.1 p q h1 (by omega) hp hq
def swp (ys : List Nat) (j : Nat) : List Nat := (ys.set j (ys.getD (j - 1) 0)).set (j - 1) (ys.getD j 0)
theorem swp_len (ys : List Nat) (j : Nat) : (swp ys j).length = ys.length := by simp [swp]
theorem swp_get {ys : List Nat} {j : Nat} (hj : 0 < j) (hl : j < ys.length) (p : Nat) : (swp ys j).getD p 0 = if p = j - 1 then ys.getD j 0 else if p = j then ys.getD (j - 1) 0 else ys.getD p 0 := by
  simp only [swp, List.getD, List.getElem?_set]
  by_cases h1 : p = j - 1
  · subst h1
    rw [if_pos rfl, if_pos rfl, if_pos (by simp; omega)]
    rfl
  · rw [if_neg h1, if_neg (fun e => h1 e.symm)]
    by_cases h2 : p = j
    · subst h2; simp [hl]
    · rw [if_neg h2, if_neg (fun e => h2 e.symm)]
theorem Ins.step {ys : List Nat} {k j : Nat} (h : Ins ys k j) (hj : 0 < j) (hjk : j ≤ k) (hl : j < ys.length) (hlt : ys.getD j 0 < ys.getD (j - 1) 0) : Ins (swp ys j) k (j - 1) := by
  constructor
  · intro p q h1 h2 h3 h4
    rw [swp_get hj hl, swp_get hj hl, if_neg h3, if_neg h4]
    by_cases hp : p = j
    · rw [if_pos hp, if_neg (by omega)]
      exact h.1 (j - 1) q (by omega) h2 (by omega) (by omega)
    · rw [if_neg hp]
      by_cases hq : q = j
      · rw [if_pos hq]
        exact h.1 p (j - 1) (by omega) (by omega) hp (by omega)
      · rw [if_neg hq]; exact h.1 p q h1 h2 hp hq
  · intro q h1 h2
    rw [swp_get hj hl, swp_get hj hl, if_pos rfl, if_neg (by omega)]
    by_cases hq : q = j
    · rw [if_pos hq]; omega
    · rw [if_neg hq]; exact h.2 q (by omega) h2
theorem swp_perm {ys : List Nat} {j : Nat} (hj : 0 < j) (hl : j < ys.length) : (swp ys j).Perm ys := by
  have e : swp ys j = (ys.set (j - 1) (ys.getD j 0)).set j (ys.getD (j - 1) 0) := by
    rw [swp, List.set_comm _ _ (by omega)]
  rw [e]
  have h1 : ys.getD j 0 = ys[j]'hl := by simp [List.getD, List.getElem?_eq_getElem hl]
  have h2 : ys.getD (j - 1) 0 = ys[j - 1]'(by omega) := by simp [List.getD, List.getElem?_eq_getElem (show j - 1 < ys.length by omega)]
  rw [h1, h2]
  exact List.set_set_perm (by omega) hl
theorem srt_eq {xs ys : List Nat} (hp : ys.Perm xs) (hs : Srt ys ys.length) : ys = xs.mergeSort (fun x y => decide (x ≤ y)) := by
  have h1 : ys.Pairwise (fun x y => x ≤ y) := by
    rw [List.pairwise_iff_getElem]
    intro i j hi hj hij
    have := hs i j hij hj
    simpa [List.getD, List.getElem?_eq_getElem hi, List.getElem?_eq_getElem hj] using this
  have h2 : (xs.mergeSort (fun x y => decide (x ≤ y))).Pairwise (fun x y => x ≤ y) := by
    have := List.pairwise_mergeSort (le := fun x y : Nat => decide (x ≤ y)) (fun a b c h1 h2 => by simp at *; omega) (fun a b => by simp; omega) xs
    exact this.imp fun h => by simpa using h
  exact List.Perm.eq_of_pairwise (le := (· ≤ ·)) (fun a b _ _ h1 h2 => Nat.le_antisymm h1 h2) h1 h2 (hp.trans (List.mergeSort_perm xs _).symm)
theorem isnan_any (x : Nat) (w : World) : Calls Try.prog 171 #[.int .u64 x] w fun e w' => e = .returned (.bool false) ∧ w = w' := by
  go_enter Try.func171, Try.ntmps171
  go_wp2
  go_ret
  exact ⟨rfl, rfl⟩
theorem less_any (x y : Nat) (w : World) : Calls Try.prog 142 #[.int .u64 x, .int .u64 y] w fun e w' => e = .returned (.bool (decide (x < y))) ∧ w = w' := by
  by_cases h : x < y
  · have h' : (x : Int) < y := by omega
    rw [decide_eq_true h]
    go_enter Try.func142, Try.ntmps142
    go_wp2_with (go_at_call 171; go_must (refine (isnan_any x _).mono ?_); rintro e w1 ⟨rfl, rfl⟩)
    go_ret
    exact ⟨rfl, rfl⟩
  · have h' : ¬ (x : Int) < y := by omega
    rw [decide_eq_false h]
    go_enter Try.func142, Try.ntmps142
    go_wp2_with (go_at_call 171; go_must (refine (isnan_any x _).mono ?_); rintro e w1 ⟨rfl, rfl⟩)
    go_ret
    exact ⟨rfl, rfl⟩
end Go.Proofs.Ytpgakkpmpnebnaa
