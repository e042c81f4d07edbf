/- A struct's cells as one array in a plan that forks: held loads, stores alone. -/
import Derived.Test.YtpgakkpmpnebnaaPlanF
import Derived.Test.YtpgakkpmpnebnaaVRowE
namespace Go.Proofs.Ytpgakkpmpnebnaa
open Go.RowKit
theorem Touch.swapN {S : Nat → Prop} {w : World} (h : S w.heap.size) (cs cs' : Array Value) (t t' : TypeId) : Touch S (w.alloc (.cells cs t)) (w.alloc (.cells cs' t')) :=
  ⟨rfl, rfl, rfl, by simp, fun k hk hn => by
    simp at hk
    have hne : k ≠ w.heap.size := fun e => hn (e ▸ h)
    rw [Below.heap_alloc _ _ _ (by omega), Below.heap_alloc _ _ _ (by omega)]⟩
namespace PF
section
variable {ops : Array Oper} {o : Oper} {a : Act} {w : World} {Q : Exit → Act → World → Prop} {E : Act → World → Prop} {T : Nat → Prop}
theorem plan_hC {t : TypeId} {n : Nat} (R : RowT t n) {i : Nat} {rest : List Stp} (x : Operand) (b k : Nat) (cs : Array Value) (hn : cs.size = n) (hc : ∀ w', Touch T w w' → w'.rangeAt b k cs.toList) (hi : ops[i]? = some o) (ho : o.op = .load t x) (hw : Region.wanted o (yielded ops a.tmps) = true) (hx : a.eval x = .pointer (some ⟨b, k, none⟩))
    (h : wpPlan Try.prog ops Q E T rest (a.put o.dst (.agg cs)) w) : wpPlan Try.prog ops Q E T ((1, i) :: rest) a w := by
  obtain ⟨d, h1, h2⟩ := R.d
  refine plan_h hi hw (fun w' ht => ?_) h
  unfold execOp
  simp only [ho, hx, Instr.loadAt, Instr.sureAddr, Sem.run_bind, Sem.run_pure, Result.andThen_ok, run_loadVar_mid (P := Try.prog) w' b k t cs.toList d (hc w' ht) h1 h2 (by rw [R.z]; simp [hn])]
theorem plan_aM {t : TypeId} {n : Nat} (R : RowT t n) {i : Nat} {rest : List Stp} (x y : Operand) (b k : Nat) (cs : Array Value) (TY : TypeId) (C : Array Value) (hb : Blk w b TY C) (hC : k + n ≤ C.size) (hn : cs.size = n) (h1 : cs.all (·.oneCell') = true) (hS : T b) (hi : ops[i]? = some o) (ho : o.op = .store t x y) (hw : Region.wanted o (yielded ops a.tmps) = true) (hx : a.eval x = .pointer (some ⟨b, k, none⟩)) (hy : a.eval y = .agg cs)
    (h : ∀ w', Blk w' b TY (setAll C k cs.toList) → Touch (fun q => q = b) w w' → w'.heap.size = w.heap.size → wpPlan Try.prog ops Q E T rest (a.put o.dst undef) w') : wpPlan Try.prog ops Q E T ((2, i) :: rest) a w := by
  refine plan_a1 hi hw fun K hK => ?_
  have hth : w.there b k cs.size := fun j hj => by
    have e := hb.cell (k + j)
    have hf := hb.frozen (k + j)
    rw [Array.getElem?_eq_getElem (by omega)] at e
    exact ⟨by rw [e]; rfl, hf⟩
  have hB := hb.setCells cs.toList k
  have hT : Touch (fun q => q = b) w (w.setCells b k cs.toList) := Touch.setCells cs.toList k w (Touch.refl _ _) (fun _ => rfl)
  refine wp_store_mid t x y ho b k cs hx hy hth (by rw [R.z]; simp [hn]) h1 ?_
  exact hK _ _ ⟨hT.mono (fun q _ e => e ▸ hS), h _ hB hT (setCells_hsize _ _ _)⟩
end
end PF
end Go.Proofs.Ytpgakkpmpnebnaa
