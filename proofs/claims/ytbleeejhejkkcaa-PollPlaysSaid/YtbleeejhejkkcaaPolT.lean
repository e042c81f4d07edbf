/- The plain law of a poll's votes beside the reference's. -/
import Derived.Test.YtbleeejhejkkcaaPolR
import Derived.Test.YtbleeejhejkkcaaPolO
namespace Go.Proofs.Ytbleeejhejkkcaa
open Go.RowKit
set_option linter.unusedVariables false
theorem who_contains {f : Int → Option Int} (hf : FNode f) (x k : Int) : (whoV f x).contains k = (f k == some x) := by
  by_cases h : 0 ≤ k ∧ k < 7
  · obtain ⟨i, rfl⟩ := Int.eq_ofNat_of_zero_le h.1
    exact who_mem f x i (by omega)
  · have h1 : f k ≠ some x := fun e => h (hf k x e)
    rw [show (f k == some x) = false by simpa using h1, Bool.eq_false_iff]
    intro hc
    rw [List.contains_iff_mem, whoV, Row.rowOf] at hc
    simp only [List.mem_map, List.mem_filter, List.mem_range] at hc
    obtain ⟨j, ⟨h2, h3⟩, e⟩ := hc
    exact h (by omega)
theorem noteB_eq {L : List Int} {f : Int → Option Int} (hn : FNode f) (hi : FIn L f) (k : Int) : rB L (whoV f 1) (whoV f 2) k = noteB L f k := by
  rw [rB, noteB, who_contains hn, who_contains hn]
  cases hf : f k with
  | none => simp
  | some v =>
    rcases (hi k v hf).2 with rfl | rfl <;> simp
theorem setI_who {f : Int → Option Int} {k v x : Int} (hf : f k = none ∨ f k = some 0) (hx : x ≠ 0) (hk : 0 ≤ k ∧ k < 7) : whoV (setI f k v) x = if v = x then Row.rowOf (rowB (whoV f x) (-1) k) else whoV f x := by
  have h0 : (f k == some x) = false := by
    rcases hf with h | h <;> rw [h]
    · rfl
    · simp [Ne.symm hx]
  split
  · rename_i e
    subst e
    rw [whoV]
    apply Row.rowOf_congr
    intro i hi
    rw [rowB, who_mem f v i hi]
    have hne : ¬ (i : Int) = -1 := by omega
    by_cases e : (i : Int) = k
    · simp [setI, e]
    · simp [setI, e, hne]
  · rename_i e
    rw [whoV, whoV]
    apply Row.rowOf_congr
    intro i hi
    by_cases e2 : (i : Int) = k
    · rw [e2, h0]; simp [setI, e]
    · simp [setI, e2]
theorem noteB_none {L : List Int} {f : Int → Option Int} {k : Int} (hL : ∀ x ∈ L, 0 ≤ x ∧ x < 7) (hb : noteB L f k = true) : (f k = none ∨ f k = some 0) ∧ 0 ≤ k ∧ k < 7 := by
  rw [noteB, Bool.and_eq_true, Bool.or_eq_true] at hb
  exact ⟨by simpa using hb.2, hL k (by simpa using hb.1)⟩
theorem who_yes {L : List Int} {f : Int → Option Int} (hL : ∀ x ∈ L, 0 ≤ x ∧ x < 7) (hn : FNode f) (hi : FIn L f) (k : Int) (ok : Bool) : rYes L (whoV f 1) (whoV f 2) k ok = whoV (noteF L f k ok) 1 := by
  rw [rYes, noteB_eq hn hi, noteF]
  cases hb : noteB L f k
  · simp
  · obtain ⟨h1, h2⟩ := noteB_none hL hb
    cases ok <;> simp [setI_who h1 (by decide : (1 : Int) ≠ 0) h2]
theorem who_no {L : List Int} {f : Int → Option Int} (hL : ∀ x ∈ L, 0 ≤ x ∧ x < 7) (hn : FNode f) (hi : FIn L f) (k : Int) (ok : Bool) : rNo L (whoV f 1) (whoV f 2) k ok = whoV (noteF L f k ok) 2 := by
  rw [rNo, noteB_eq hn hi, noteF]
  cases hb : noteB L f k
  · simp
  · obtain ⟨h1, h2⟩ := noteB_none hL hb
    cases ok <;> simp [setI_who h1 (by decide : (2 : Int) ≠ 0) h2]
theorem who_cnt {L : List Int} {f : Int → Option Int} (hL : Row.soundB L = true) (hn : FNode f) (hi : FIn L f) (x : Int) : L.countP (fun k => (whoV f x).contains k) = (whoV f x).length := by
  rw [Row.countP_row hL, who_count]
  refine List.countP_congr fun i hi' => ?_
  have hi7 := List.mem_range.1 hi'
  rw [who_mem f x i hi7, Bool.and_eq_true]
  exact ⟨fun h => h.2, fun h => ⟨(hi i x (by simpa using h)).1, h⟩⟩
theorem state_eq {L : List Int} {f : Int → Option Int} (hL : Row.soundB L = true) (hn : FNode f) (hi : FIn L f) : rstV L (whoV f 1) (whoV f 2) = stateV L f := by
  have h1 := who_cnt hL hn hi 1
  have h2 := who_cnt hL hn hi 2
  have h3 : L.countP (fun k => (canL L (whoV f 2)).contains k) + (whoV f 2).length = L.length := by
    have e : L.countP (fun k => (canL L (whoV f 2)).contains k) = L.countP (fun k => !(whoV f 2).contains k) := by
      refine List.countP_congr fun k hk => ?_
      rw [List.contains_iff_mem, canL, List.mem_filter]
      exact ⟨fun h => h.2, fun h => ⟨hk, h⟩⟩
    rw [e, ← h2]
    have := List.length_eq_countP_add_countP (fun k => (whoV f 2).contains k) (l := L)
    have e2 : L.countP (fun a => decide (¬ (whoV f 2).contains a = true)) = L.countP (fun k => !(whoV f 2).contains k) := by
      refine List.countP_congr fun k _ => ?_
      simp
    rw [e2] at this
    omega
  unfold rstV stateV reachB
  rw [hL, h1, Bool.true_and, Bool.true_and]
  simp only [decide_eq_true_eq]
  by_cases c1 : L.length < 2 * (whoV f 1).length
  · have c3 : L.length / 2 + 1 ≤ (whoV f 1).length := by omega
    simp only [if_pos c1, if_pos c3]
  · have c3 : ¬ L.length / 2 + 1 ≤ (whoV f 1).length := by omega
    by_cases c2 : L.length < 2 * L.countP (fun k => (canL L (whoV f 2)).contains k)
    · have c4 : ¬ (L.length : Int) - (whoV f 2).length < (L.length / 2 + 1 : Nat) := by omega
      simp only [if_neg c1, if_neg c3, if_pos c2, if_neg c4]
    · have c4 : (L.length : Int) - (whoV f 2).length < (L.length / 2 + 1 : Nat) := by omega
      simp only [if_neg c1, if_neg c3, if_neg c2, if_pos c4]
end Go.Proofs.Ytbleeejhejkkcaa
