/- The plain law of polls: rows of nodes by a test; the sort of a list without repeats. No program in sight. -/
import Derived.Test.YtpgakkpmpnebnaaMemL
namespace Go.Proofs.Ytpgakkpmpnebnaa
open Row
set_option linter.unusedVariables false
theorem sorted_uniq : ∀ (a b : List Int), a.Pairwise (· < ·) → b.Pairwise (· < ·) → (∀ x, x ∈ a ↔ x ∈ b) → a = b
  | [], [], _, _, _ => rfl
  | [], y :: b, _, _, h => absurd ((h y).2 (by simp)) (by simp)
  | x :: a, [], _, _, h => absurd ((h x).1 (by simp)) (by simp)
  | x :: a, y :: b, ha, hb, h => by
    obtain ⟨h1, h2⟩ := List.pairwise_cons.1 ha
    obtain ⟨h3, h4⟩ := List.pairwise_cons.1 hb
    have hxy : x = y := by
      rcases List.mem_cons.1 ((h x).1 (by simp)) with e | e
      · exact e
      · rcases List.mem_cons.1 ((h y).2 (by simp)) with e' | e'
        · exact e'.symm
        · have := h1 y e'; have := h3 x e; omega
    subst hxy
    congr 1
    refine sorted_uniq a b h2 h4 fun z => ⟨fun hz => ?_, fun hz => ?_⟩
    · rcases List.mem_cons.1 ((h z).1 (List.mem_cons_of_mem _ hz)) with e | e
      · subst e; have := h1 z hz; omega
      · exact e
    · rcases List.mem_cons.1 ((h z).2 (List.mem_cons_of_mem _ hz)) with e | e
      · subst e; have := h3 z hz; omega
      · exact e
theorem rowOf_mem (p : Nat → Bool) (k : Int) : k ∈ rowOf p ↔ ∃ i : Nat, i < 7 ∧ p i = true ∧ k = i := by
  simp only [rowOf, List.mem_map, List.mem_filter, List.mem_range]
  constructor
  · rintro ⟨i, ⟨h1, h2⟩, rfl⟩; exact ⟨i, h1, h2, rfl⟩
  · rintro ⟨i, h1, h2, rfl⟩; exact ⟨i, ⟨h1, h2⟩, rfl⟩
theorem rowOf_sorted (p : Nat → Bool) : (rowOf p).Pairwise (· < ·) := by
  refine List.Pairwise.map _ (fun (a b : Nat) h => by omega) ((List.pairwise_lt_range (n := 7)).filter p)
theorem sort_rowOf (l : List Int) (hn : l.Nodup) (p : Nat → Bool) (hm : ∀ k, k ∈ l ↔ ∃ i : Nat, i < 7 ∧ p i = true ∧ k = i) : l.mergeSort (fun x y => decide (x ≤ y)) = rowOf p := by
  refine sorted_uniq _ _ ?_ (rowOf_sorted p) (fun x => ?_)
  · have h1 := List.pairwise_mergeSort (le := fun x y : Int => decide (x ≤ y)) (by intro a b c; simp; omega) (by intro a b; simp; omega) l
    have h2 : (l.mergeSort (fun x y => decide (x ≤ y))).Nodup := (List.mergeSort_perm l _).nodup_iff.2 hn
    refine (h1.and h2).imp ?_
    rintro a b ⟨h3, h4⟩
    have := of_decide_eq_true h3
    omega
  · rw [rowOf_mem, ← hm, (List.mergeSort_perm l _).mem_iff]
theorem nodup_len (l : List Int) (hn : l.Nodup) (h : ∀ k ∈ l, 0 ≤ k ∧ k < 7) : l.length ≤ 7 := by
  have := sort_rowOf l hn (fun i => decide ((i : Int) ∈ l)) (fun k => ⟨fun hk => ⟨k.toNat, by have := h k hk; omega, by have := h k hk; rw [Int.toNat_of_nonneg this.1]; simpa using hk, by have := h k hk; omega⟩, fun ⟨i, _, h2, e⟩ => by subst e; simpa using h2⟩)
  have h2 : (l.mergeSort (fun x y => decide (x ≤ y))).length = l.length := List.length_mergeSort l
  rw [← h2, this, rowOf, List.length_map]
  exact Nat.le_trans (List.length_filter_le _ _) (by simp)
end Go.Proofs.Ytpgakkpmpnebnaa
