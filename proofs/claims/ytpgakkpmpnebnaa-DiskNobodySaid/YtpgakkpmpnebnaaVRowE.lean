/- Structs by value with their cells as one array: a parameter's own block, a result in a cell, a part stored into a block that is known whole. -/
import Derived.Test.YtpgakkpmpnebnaaVRowD
import Derived.Great.BuildSlice
namespace Go.Proofs.Ytpgakkpmpnebnaa
open Go.RowKit
section
variable {w : World} {b k n : Nat} {t T : TypeId} {cs C : Array Value}
theorem RowT.read {t : TypeId} {n : Nat} (h : RowT t n) {w : World} {b o : Nat} {cs : Array Value} (hn : cs.size = n) (hc : w.rangeAt b o cs.toList) : (loadVar t ⟨b, o, none⟩).run Try.prog w = .ok (.agg cs) w := by
  obtain ⟨d, h1, h2⟩ := h.d
  have := run_loadVar_mid (P := Try.prog) w b o t cs.toList d hc h1 h2 (by rw [h.z]; simp [hn])
  simpa using this
/-- Results: a struct in a cell and a plain one beside it. -/
theorem results_cell2 {fn : Func} {tmps : Array Value} (a u : Nat) (R : RowT t n) (hn : cs.size = n) (hc : w.rangeAt b k cs.toList) (h : fn.results = #[.cell a t, .tmp u]) (ha : tmps.getD a undef = .pointer (some ⟨b, k, none⟩)) :
    (results fn tmps).run Try.prog w = .ok (.tuple #[.agg cs, tmps.getD u undef]) w := by
  have := R.read hn hc
  rw [Array.getD_eq_getD_getElem?] at ha
  simp [results, h, ha, asAddr, this]
theorem results_cell1 {fn : Func} {tmps : Array Value} (a : Nat) (R : RowT t n) (hn : cs.size = n) (hc : w.rangeAt b k cs.toList) (h : fn.results = #[.cell a t]) (ha : tmps.getD a undef = .pointer (some ⟨b, k, none⟩)) :
    (results fn tmps).run Try.prog w = .ok (.agg cs) w := by
  have := R.read hn hc
  rw [Array.getD_eq_getD_getElem?] at ha
  simp [results, h, ha, asAddr, this]
end
section
variable {ops : Array Oper} {rest : List Oper} {o : Oper} {a : Act} {w : World} {Q : Exit → Act → World → Prop}
theorem setCells_hsize {g : Nat} : ∀ (vs : List Value) (o : Nat) (w : World), (w.setCells g o vs).heap.size = w.heap.size
  | [], _, _ => rfl
  | v :: r, o, w => by rw [World.setCells, setCells_hsize r]; simp [World.setCell]
/-- A zero struct made: the build comes up alone, so that the store behind it is an arm's. -/
theorem buildZ {t : TypeId} {cs : Array Value} (hz : Try.prog.built t [] = some cs) (hg : o.guard = none) (ho : o.op = .build t #[]) (h : wpList Try.prog ops Q rest (a.put o.dst (.agg cs)) w) : wpList Try.prog ops Q (o :: rest) a w :=
  wpList_buildTo hg t #[] ho _ rfl cs (by simpa using hz) h
/-- A part stored into a block that is known whole. -/
theorem storeP {t : TypeId} {n : Nat} (R : RowT t n) (x y : Operand) (ho : o.op = .store t x y) (hw : Region.wanted o (yielded ops a.tmps) = true) (b k : Nat) (hx : a.eval x = .pointer (some ⟨b, k, none⟩)) (cs : Array Value) (hy : a.eval y = .agg cs) (T : TypeId) (C : Array Value) (hb : Blk w b T C) (hC : k + n ≤ C.size) (hn : cs.size = n) (h1 : cs.all (·.oneCell') = true)
    (h : ∀ w', Blk w' b T (setAll C k cs.toList) → Touch (fun q => q = b) w w' → w'.heap.size = w.heap.size → wpList Try.prog ops Q rest (a.put o.dst undef) w') : wpList Try.prog ops Q (o :: rest) a w := by
  refine BigFrame.wpList_want hw ?_
  intro K hK
  have hth : w.there b k cs.size := fun j hj => by
    have e := hb.cell (k + j)
    have hf := hb.frozen (k + j)
    rw [Array.getElem?_eq_getElem (by omega)] at e
    exact ⟨by rw [e]; rfl, hf⟩
  have hB := hb.setCells cs.toList k
  have hT : Touch (fun q => q = b) w (w.setCells b k cs.toList) := Touch.setCells cs.toList k w (Touch.refl _ _) (fun _ => rfl)
  refine wp_store_mid t x y ho b k cs hx hy hth (by rw [R.z]; simp [hn]) h1 ?_
  exact hK _ _ (h _ hB hT (setCells_hsize _ _ _))
/-- A known block's whole value is loaded; stored. -/
theorem Blk.ld {T t : TypeId} {n b : Nat} {C : Array Value} (hb : Blk w b T C) (R : RowT t n) (hn : C.size = n) (x : Operand) (ho : o.op = .load t x) (hw : Region.wanted o (yielded ops a.tmps) = true) (hx : a.eval x = .pointer (some ⟨b, 0, none⟩))
    (h : wpList Try.prog ops Q rest (a.put o.dst (.agg C)) w) : wpList Try.prog ops Q (o :: rest) a w := loadC R x ho hw b 0 hx C hn hb.whole h
theorem Blk.st {T t : TypeId} {n b : Nat} {C cs : Array Value} (hb : Blk w b T C) (R : RowT t n) (hC : C.size = n) (hn : cs.size = n) (h1 : cs.all (·.oneCell') = true) (x y : Operand) (ho : o.op = .store t x y) (hw : Region.wanted o (yielded ops a.tmps) = true) (hx : a.eval x = .pointer (some ⟨b, 0, none⟩)) (hy : a.eval y = .agg cs)
    (h : ∀ w', Blk w' b T cs → Touch (fun q => q = b) w w' → wpList Try.prog ops Q rest (a.put o.dst undef) w') : wpList Try.prog ops Q (o :: rest) a w := storeM R x y ho hw b hx cs hy T C hb hC hn h1 h
/-- The same alone in a plan. -/
theorem plan_aM {S : Nat → Prop} {t : TypeId} {n : Nat} (R : RowT t n) {i : Nat} {rest : List Stp} (hi : ops[i]? = some o) (hw : Region.wanted o (yielded ops a.tmps) = true) (x y : Operand) (ho : o.op = .store t x y) (b k : Nat) (hx : a.eval x = .pointer (some ⟨b, k, none⟩)) (cs : Array Value) (hy : a.eval y = .agg cs) (T : TypeId) (C : Array Value) (hb : Blk w b T C) (hC : k + n ≤ C.size) (hn : cs.size = n) (h1 : cs.all (·.oneCell') = true) (hS : S b)
    (h : ∀ w', Blk w' b T (setAll C k cs.toList) → Touch (fun q => q = b) w w' → w'.heap.size = w.heap.size → wpPlan Try.prog ops Q S rest (a.put o.dst undef) w') : wpPlan Try.prog ops Q S ((2, i) :: rest) a w := by
  refine plan_a1 hi hw fun K hK => ?_
  have hth : w.there b k cs.size := fun j hj => by
    have e := hb.cell (k + j)
    have hf := hb.frozen (k + j)
    rw [Array.getElem?_eq_getElem (by omega)] at e
    exact ⟨by rw [e]; rfl, hf⟩
  have hB := hb.setCells cs.toList k
  have hT : Touch (fun q => q = b) w (w.setCells b k cs.toList) := Touch.setCells cs.toList k w (Touch.refl _ _) (fun _ => rfl)
  refine wp_store_mid t x y ho b k cs hx hy hth (by rw [R.z]; simp [hn]) h1 ?_
  exact hK _ _ ⟨hT.mono (fun q _ e => e ▸ hS), h _ hB hT (setCells_hsize _ _ _)⟩
end
end Go.Proofs.Ytpgakkpmpnebnaa
