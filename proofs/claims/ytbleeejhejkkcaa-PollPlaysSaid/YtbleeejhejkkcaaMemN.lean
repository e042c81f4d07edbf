/- The plain law of quorums that meet. No program in sight. -/
import Derived.Test.YtbleeejhejkkcaaMemM
namespace Go.Proofs.Ytbleeejhejkkcaa.Row

theorem count_four (A B X Y : Nat → Bool) : ∀ L : List Nat, (∀ i ∈ L, (A i && B i && (X i && Y i)) = false) →
    2 * (L.countP (fun i => A i && X i) + L.countP (fun i => B i && Y i)) ≤ L.countP A + L.countP B + L.countP (fun i => A i != B i)
  | [], _ => by simp
  | a :: L, h => by
    have ih := count_four A B X Y L fun i hi => h i (List.mem_cons_of_mem _ hi)
    have ha := h a (by simp)
    simp only [List.countP_cons]
    cases hA : A a <;> cases hB : B a <;> cases hX : X a <;> cases hY : Y a <;> simp_all <;> omega
theorem countP_row {l : List Int} (h : soundB l = true) (p : Int → Bool) : l.countP p = (List.range 7).countP (fun (i : Nat) => l.contains (i : Int) && p (i : Int)) := by
  have e := sound_eq h
  have e2 : ofN (setN l) = rowOf (fun i => l.contains (i : Int)) := by
    rw [ofN_rowOf]; apply rowOf_congr; intro i hi; rw [setN_bit]; simp [hi]
  have e3 : l.countP p = (rowOf (fun i => l.contains (i : Int))).countP p := by rw [← e2, ← e]
  rw [e3, rowOf, List.countP_map, List.countP_filter]
  congr 1
  funext i
  simp only [Function.comp]
  exact Bool.and_comm _ _
theorem length_row {l : List Int} (h : soundB l = true) : l.length = (List.range 7).countP (fun (i : Nat) => l.contains (i : Int)) := by
  have := countP_row h (fun _ => true)
  simpa using this
/-- Of two rows that are near, quorums meet. -/
theorem meets {a b : List Int} {x y : Nat} (ha : soundB a = true) (hb : soundB b = true) (hn : alone a b ≤ 1) (hx : a.length < 2 * a.countP (fun n => x.testBit n.toNat)) (hy : b.length < 2 * b.countP (fun n => y.testBit n.toNat)) :
    a.any (fun n => b.contains n && (x &&& y).testBit n.toNat) = true := by
  rcases h : a.any (fun n => b.contains n && (x &&& y).testBit n.toNat) with _ | _
  · exfalso
    have h4 := count_four (fun i => a.contains (i : Int)) (fun i => b.contains (i : Int)) (fun i => x.testBit i) (fun i => y.testBit i) (List.range 7) (fun i _ => by
      rw [Bool.eq_false_iff]
      intro hc
      simp only [Bool.and_eq_true] at hc
      have hm : (i : Int) ∈ a := by simpa using hc.1.1
      have := List.any_eq_false.1 h _ hm
      apply this
      simp only [Bool.and_eq_true, Int.toNat_natCast, Nat.testBit_and]
      exact ⟨hc.1.2, hc.2.1, hc.2.2⟩)
    have l1 := length_row ha
    have l2 := length_row hb
    have c1 := countP_row ha (fun n => x.testBit n.toNat)
    have c2 := countP_row hb (fun n => y.testBit n.toNat)
    simp only [Int.toNat_natCast] at c1 c2
    rw [alone, ← List.countP_eq_length_filter] at hn
    omega
  · rfl
theorem any_take (p : Int → Bool) (l : List Int) (j : Nat) (hj : j < l.length) : (l.take (j + 1)).any p = ((l.take j).any p || p (l.getD j 0)) := by
  rw [List.take_succ_eq_append_getElem hj, List.any_append]
  simp [List.getD, List.getElem?_eq_getElem hj]
end Go.Proofs.Ytbleeejhejkkcaa.Row
