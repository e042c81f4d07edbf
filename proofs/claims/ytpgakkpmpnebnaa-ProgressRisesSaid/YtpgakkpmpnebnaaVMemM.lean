/- A struct's cells as one array in a plan that forks: held loads, stores alone. The plain law of rows of members, on: counts, quorums. No program in sight. -/
import Derived.Test.YtpgakkpmpnebnaaPlanF
import Derived.Test.YtpgakkpmpnebnaaVRowE
import Derived.Test.YtpgakkpmpnebnaaMemL
section
namespace Go.Proofs.Ytpgakkpmpnebnaa
open Go.RowKit
theorem Touch.swapN {S : Nat → Prop} {w : World} (h : S w.heap.size) (cs cs' : Array Value) (t t' : TypeId) : Touch S (w.alloc (.cells cs t)) (w.alloc (.cells cs' t')) :=
  ⟨rfl, rfl, rfl, by simp, fun k hk hn => by
    simp at hk
    have hne : k ≠ w.heap.size := fun e => hn (e ▸ h)
    rw [Below.heap_alloc _ _ _ (by omega), Below.heap_alloc _ _ _ (by omega)]⟩
namespace PF
section
variable {ops : Array Oper} {o : Oper} {a : Act} {w : World} {Q : Exit → Act → World → Prop} {E : Act → World → Prop} {T : Nat → Prop}
theorem plan_hC {t : TypeId} {n : Nat} (R : RowT t n) {i : Nat} {rest : List Stp} (x : Operand) (b k : Nat) (cs : Array Value) (hn : cs.size = n) (hc : ∀ w', Touch T w w' → w'.rangeAt b k cs.toList) (hi : ops[i]? = some o) (ho : o.op = .load t x) (hw : Region.wanted o (yielded ops a.tmps) = true) (hx : a.eval x = .pointer (some ⟨b, k, none⟩))
    (h : wpPlan Try.prog ops Q E T rest (a.put o.dst (.agg cs)) w) : wpPlan Try.prog ops Q E T ((1, i) :: rest) a w := by
  obtain ⟨d, h1, h2⟩ := R.d
  refine plan_h hi hw (fun w' ht => ?_) h
  unfold execOp
  simp only [ho, hx, Instr.loadAt, Instr.sureAddr, Sem.run_bind, Sem.run_pure, Result.andThen_ok, run_loadVar_mid (P := Try.prog) w' b k t cs.toList d (hc w' ht) h1 h2 (by rw [R.z]; simp [hn])]
theorem plan_aM {t : TypeId} {n : Nat} (R : RowT t n) {i : Nat} {rest : List Stp} (x y : Operand) (b k : Nat) (cs : Array Value) (TY : TypeId) (C : Array Value) (hb : Blk w b TY C) (hC : k + n ≤ C.size) (hn : cs.size = n) (h1 : cs.all (·.oneCell') = true) (hS : T b) (hi : ops[i]? = some o) (ho : o.op = .store t x y) (hw : Region.wanted o (yielded ops a.tmps) = true) (hx : a.eval x = .pointer (some ⟨b, k, none⟩)) (hy : a.eval y = .agg cs)
    (h : ∀ w', Blk w' b TY (setAll C k cs.toList) → Touch (fun q => q = b) w w' → w'.heap.size = w.heap.size → wpPlan Try.prog ops Q E T rest (a.put o.dst undef) w') : wpPlan Try.prog ops Q E T ((2, i) :: rest) a w := by
  refine plan_a1 hi hw fun K hK => ?_
  have hth : w.there b k cs.size := fun j hj => by
    have e := hb.cell (k + j)
    have hf := hb.frozen (k + j)
    rw [Array.getElem?_eq_getElem (by omega)] at e
    exact ⟨by rw [e]; rfl, hf⟩
  have hB := hb.setCells cs.toList k
  have hT : Touch (fun q => q = b) w (w.setCells b k cs.toList) := Touch.setCells cs.toList k w (Touch.refl _ _) (fun _ => rfl)
  refine wp_store_mid t x y ho b k cs hx hy hth (by rw [R.z]; simp [hn]) h1 ?_
  exact hK _ _ ⟨hT.mono (fun q _ e => e ▸ hS), h _ hB hT (setCells_hsize _ _ _)⟩
end
end PF
end Go.Proofs.Ytpgakkpmpnebnaa
end

section
namespace Go.Proofs.Ytpgakkpmpnebnaa.Row

theorem count_take (p : Int → Bool) (l : List Int) (j : Nat) (hj : j < l.length) : (l.take (j + 1)).countP p = (l.take j).countP p + if p (l.getD j 0) then 1 else 0 := by
  rw [List.take_succ_eq_append_getElem hj, List.countP_append]
  simp [List.getD, List.getElem?_eq_getElem hj]
theorem getD_mem {l : List Int} {j : Nat} (hj : j < l.length) : l.getD j 0 ∈ l := by
  simp [List.getD, List.getElem?_eq_getElem hj]
/-- How many of seven stand in one alone, counted up to k. -/
def aloneK (a b : List Int) (k : Nat) : Nat := ((List.range k).filter fun (i : Nat) => a.contains (i : Int) != b.contains (i : Int)).length
theorem aloneK_succ (a b : List Int) (k : Nat) : aloneK a b (k + 1) = aloneK a b k + if a.contains (k : Int) != b.contains (k : Int) then 1 else 0 := by
  rw [aloneK, List.range_succ, List.filter_append, List.length_append, aloneK]
  congr 1
  simp only [List.filter_cons, List.filter_nil]
  split <;> rfl
theorem aloneK_7 (a b : List Int) : aloneK a b 7 = alone a b := rfl
theorem aloneK_le (a b : List Int) (k : Nat) : aloneK a b k ≤ k := by
  rw [aloneK]
  exact Nat.le_trans (List.length_filter_le _ _) (by simp)
theorem within_eq (s : Nat) (x : Int) (h : 0 ≤ x ∧ x < 7) : (ofN s).contains x = s.testBit x.toNat := by
  rw [Bool.eq_iff_iff, List.contains_iff_mem, mem_ofN]
  constructor
  · rintro ⟨i, _, hb, rfl⟩; simpa using hb
  · intro hb; exact ⟨x.toNat, by omega, hb, by omega⟩
theorem count_within (s : Nat) (l : List Int) : (soundB l && decide (l.length < 2 * l.countP (fun x => s.testBit x.toNat))) = (soundB l && decide (l.length < 2 * l.countP (fun x => (ofN s).contains x))) := by
  cases hb : soundB l
  · rfl
  · have h := ((sound_iff l).1 hb).2.2
    have e : l.countP (fun x => s.testBit x.toNat) = l.countP (fun x => (ofN s).contains x) := by
      apply List.countP_congr
      intro x hx
      rw [within_eq s x (h x hx)]
    rw [e]
end Go.Proofs.Ytpgakkpmpnebnaa.Row
end
