/- The plain law of rows of members, on: counts, quorums. No program in sight. -/
import Derived.Test.YtbleeejhejkkcaaMemL
namespace Go.Proofs.Ytbleeejhejkkcaa.Row

theorem count_take (p : Int → Bool) (l : List Int) (j : Nat) (hj : j < l.length) : (l.take (j + 1)).countP p = (l.take j).countP p + if p (l.getD j 0) then 1 else 0 := by
  rw [List.take_succ_eq_append_getElem hj, List.countP_append]
  simp [List.getD, List.getElem?_eq_getElem hj]
theorem getD_mem {l : List Int} {j : Nat} (hj : j < l.length) : l.getD j 0 ∈ l := by
  simp [List.getD, List.getElem?_eq_getElem hj]
/-- How many of seven stand in one alone, counted up to k. -/
def aloneK (a b : List Int) (k : Nat) : Nat := ((List.range k).filter fun (i : Nat) => a.contains (i : Int) != b.contains (i : Int)).length
theorem aloneK_succ (a b : List Int) (k : Nat) : aloneK a b (k + 1) = aloneK a b k + if a.contains (k : Int) != b.contains (k : Int) then 1 else 0 := by
  rw [aloneK, List.range_succ, List.filter_append, List.length_append, aloneK]
  congr 1
  simp only [List.filter_cons, List.filter_nil]
  split <;> rfl
theorem aloneK_7 (a b : List Int) : aloneK a b 7 = alone a b := rfl
theorem aloneK_le (a b : List Int) (k : Nat) : aloneK a b k ≤ k := by
  rw [aloneK]
  exact Nat.le_trans (List.length_filter_le _ _) (by simp)
theorem within_eq (s : Nat) (x : Int) (h : 0 ≤ x ∧ x < 7) : (ofN s).contains x = s.testBit x.toNat := by
  rw [Bool.eq_iff_iff, List.contains_iff_mem, mem_ofN]
  constructor
  · rintro ⟨i, _, hb, rfl⟩; simpa using hb
  · intro hb; exact ⟨x.toNat, by omega, hb, by omega⟩
theorem count_within (s : Nat) (l : List Int) : (soundB l && decide (l.length < 2 * l.countP (fun x => s.testBit x.toNat))) = (soundB l && decide (l.length < 2 * l.countP (fun x => (ofN s).contains x))) := by
  cases hb : soundB l
  · rfl
  · have h := ((sound_iff l).1 hb).2.2
    have e : l.countP (fun x => s.testBit x.toNat) = l.countP (fun x => (ofN s).contains x) := by
      apply List.countP_congr
      intro x hx
      rw [within_eq s x (h x hx)]
    rw [e]
end Go.Proofs.Ytbleeejhejkkcaa.Row
