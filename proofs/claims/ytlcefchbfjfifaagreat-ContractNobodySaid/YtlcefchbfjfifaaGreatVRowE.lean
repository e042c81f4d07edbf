/- Structs by value with their cells as one array: loads, stores into a new block, as one step each. A struct's cells stored at once into a block that is known whole. Structs by value with their cells as one array: a parameter's own block, a result in a cell, a part stored into a block that is known whole. -/
import Derived.Test.YtlcefchbfjfifaaGreatProg
import Derived.Test.YtlcefchbfjfifaaGreatVCells
import Derived.Test.YtlcefchbfjfifaaGreatVPlan
import Derived.Deep.MidRow
import Derived.Deep.WholeRow
import Derived.BigFrame
import Derived.Test.YtlcefchbfjfifaaGreatVOwn
import Derived.Great.BuildSlice
section
namespace Go.Proofs.YtlcefchbfjfifaaGreat
open Go.RowKit
/-- A type whose values are n cells. -/
structure RowT (t : TypeId) (n : Nat) : Prop where
  d : ∃ d, Tryz.prog.underlying t = some d ∧ d.isRow = true
  z : (Tryz.prog.info? t).map (·.size) = some n
theorem RowT.load {t : TypeId} {n : Nat} (h : RowT t n) {w : World} {b o : Nat} {cs : Array Value} (hn : cs.size = n) (hc : w.rangeAt b o cs.toList) : (Instr.loadAt t (.pointer (some ⟨b, o, none⟩))).run Tryz.prog w = .ok (.agg cs) w := by
  obtain ⟨d, h1, h2⟩ := h.d
  have := run_loadAt_mid (P := Tryz.prog) w b o t cs.toList d hc h1 h2 (by rw [h.z]; simp [hn])
  simpa using this
theorem RowT.new {t : TypeId} {n : Nat} (h : RowT t n) (w : World) (c cs : Array Value) (hc : c.size = n) (hn : cs.size = n) (h1 : cs.all (·.oneCell') = true) :
    (Instr.storeAt t (.pointer (some ⟨w.heap.size, 0, none⟩)) (.agg cs)).run Tryz.prog (w.alloc (.cells c t)) = .ok () (w.alloc (.cells cs t)) :=
  run_storeAt_new w t c cs (by rw [h.z]; simp [hn]) (by omega) h1
theorem Blk.range {w : World} {g : Nat} {t : TypeId} {C : Array Value} (h : Blk w g t C) (o n : Nat) : w.rangeAt g o (C.extract o (o + n)).toList := World.rangeAt_of_block h o n
theorem Blk.whole {w : World} {g : Nat} {t : TypeId} {C : Array Value} (h : Blk w g t C) : w.rangeAt g 0 C.toList := by
  have := h.range 0 C.size
  simpa using this
section
variable {ops : Array Oper} {rest : List Oper} {o : Oper} {a : Act} {w : World} {Q : Exit → Act → World → Prop}
/-- A load. -/
theorem loadC {t : TypeId} {n : Nat} (R : RowT t n) (x : Operand) (ho : o.op = .load t x) (hw : Region.wanted o (yielded ops a.tmps) = true) (b k : Nat) (hx : a.eval x = .pointer (some ⟨b, k, none⟩)) (cs : Array Value) (hn : cs.size = n) (hc : w.rangeAt b k cs.toList)
    (h : wpList Tryz.prog ops Q rest (a.put o.dst (.agg cs)) w) : wpList Tryz.prog ops Q (o :: rest) a w := by
  obtain ⟨d, h1, h2⟩ := R.d
  refine BigFrame.wpList_want hw ?_
  intro K hK
  refine wp_load_mid t x ho b k hx cs.toList d hc h1 h2 (by rw [R.z]; simp [hn]) ?_
  exact hK _ _ (by simpa using h)
/-- A store of a whole value into the block that was made last. -/
theorem storeC {t : TypeId} {n : Nat} (R : RowT t n) (x y : Operand) (ho : o.op = .store t x y) (hw : Region.wanted o (yielded ops a.tmps) = true) (W : World) (c cs : Array Value) (hW : w = W.alloc (.cells c t)) (hx : a.eval x = .pointer (some ⟨W.heap.size, 0, none⟩)) (hy : a.eval y = .agg cs) (hcn : c.size = n) (hn : cs.size = n) (h1 : cs.all (·.oneCell') = true)
    (h : wpList Tryz.prog ops Q rest (a.put o.dst undef) (W.alloc (.cells cs t))) : wpList Tryz.prog ops Q (o :: rest) a w := by
  subst hW
  refine BigFrame.wpList_want hw ?_
  intro K hK
  unfold Oper.wp execOp
  simp only [ho, hx, hy, Instr.storeAt, Instr.sureAddr, Sem.run_bind, Sem.run_pure, Result.andThen_ok, run_storeVar_new (P := Tryz.prog) W t c cs (by rw [R.z]; simp [hn]) (by omega) h1]
  exact hK _ _ h
/-- A held load in a region walked by a plan. -/
theorem plan_hC {T : Nat → Prop} {t : TypeId} {n : Nat} (R : RowT t n) {i : Nat} {rest : List Stp} (hi : ops[i]? = some o) (x : Operand) (ho : o.op = .load t x) (hw : Region.wanted o (yielded ops a.tmps) = true) (b k : Nat) (hx : a.eval x = .pointer (some ⟨b, k, none⟩)) (cs : Array Value) (hn : cs.size = n)
    (hc : ∀ w', Touch T w w' → w'.rangeAt b k cs.toList) (h : wpPlan Tryz.prog ops Q T rest (a.put o.dst (.agg cs)) w) : wpPlan Tryz.prog ops Q T ((1, i) :: rest) a w := by
  obtain ⟨d, h1, h2⟩ := R.d
  refine plan_h hi hw (fun w' ht => ?_) h
  unfold execOp
  simp only [ho, hx, Instr.loadAt, Instr.sureAddr, Sem.run_bind, Sem.run_pure, Result.andThen_ok, run_loadVar_mid (P := Tryz.prog) w' b k t cs.toList d (hc w' ht) h1 h2 (by rw [R.z]; simp [hn])]
end
end Go.Proofs.YtlcefchbfjfifaaGreat
end

section
namespace Go.Proofs.YtlcefchbfjfifaaGreat
open Go.RowKit
theorem setAll_whole : ∀ (vs : List Value) (cs : Array Value), cs.size = vs.length → setAll cs 0 vs = vs.toArray := by
  have key : ∀ (vs : List Value) (o : Nat) (cs : Array Value), o + vs.length ≤ cs.size → ∀ k, (setAll cs o vs)[k]? = if o ≤ k ∧ k < o + vs.length then vs[k - o]? else cs[k]? := by
    intro vs
    induction vs with
    | nil => intro o cs h k; rw [setAll, if_neg (by simp <;> omega)]
    | cons v vs ih =>
      intro o cs h k
      simp only [List.length_cons] at h
      rw [setAll, ih (o + 1) (cs.setIfInBounds o v) (by simp; omega) k]
      by_cases h1 : k = o
      · subst h1
        rw [if_neg (by omega), if_pos (by simp)]
        simp [Array.getElem?_setIfInBounds]; omega
      · by_cases h2 : o + 1 ≤ k ∧ k < o + 1 + vs.length
        · rw [if_pos h2, if_pos (by simp; omega), show k - o = (k - (o + 1)) + 1 by omega, List.getElem?_cons_succ]
        · rw [if_neg h2, if_neg (by simp; omega)]
          simp [Ne.symm h1]
  intro vs cs h
  apply Array.ext_getElem?
  intro k
  rw [key vs 0 cs (by omega) k]
  by_cases hk : k < vs.length
  · rw [if_pos (by omega)]; simp
  · rw [if_neg (by omega)]
    rw [Array.getElem?_eq_none (by omega)]; simp; omega
section
variable {ops : Array Oper} {rest : List Oper} {o : Oper} {a : Act} {w : World} {Q : Exit → Act → World → Prop}
theorem storeM {t : TypeId} {n : Nat} (R : RowT t n) (x y : Operand) (ho : o.op = .store t x y) (hw : Region.wanted o (yielded ops a.tmps) = true) (b : Nat) (hx : a.eval x = .pointer (some ⟨b, 0, none⟩)) (cs : Array Value) (hy : a.eval y = .agg cs) (T : TypeId) (C : Array Value) (hb : Blk w b T C) (hC : C.size = n) (hn : cs.size = n) (h1 : cs.all (·.oneCell') = true)
    (h : ∀ w', Blk w' b T cs → Touch (fun q => q = b) w w' → wpList Tryz.prog ops Q rest (a.put o.dst undef) w') : wpList Tryz.prog ops Q (o :: rest) a w := by
  refine BigFrame.wpList_want hw ?_
  intro K hK
  have hth : w.there b 0 cs.size := fun j hj => by
    have e := hb.cell j
    have hf := hb.frozen j
    simp only [Nat.zero_add] at *
    rw [Array.getElem?_eq_getElem (by omega)] at e
    exact ⟨by rw [e]; rfl, hf⟩
  have hB := hb.setCells cs.toList 0
  have hT : Touch (fun q => q = b) w (w.setCells b 0 cs.toList) := Touch.setCells cs.toList 0 w (Touch.refl _ _) (fun _ => rfl)
  rw [setAll_whole _ _ (by simp; omega)] at hB
  refine wp_store_mid t x y ho b 0 cs hx hy hth (by rw [R.z]; simp [hn]) h1 ?_
  exact hK _ _ (h _ (by simpa using hB) hT)
end
end Go.Proofs.YtlcefchbfjfifaaGreat
end

section
namespace Go.Proofs.YtlcefchbfjfifaaGreat
open Go.RowKit
section
variable {w : World} {b k n : Nat} {t T : TypeId} {cs C : Array Value}
theorem RowT.read {t : TypeId} {n : Nat} (h : RowT t n) {w : World} {b o : Nat} {cs : Array Value} (hn : cs.size = n) (hc : w.rangeAt b o cs.toList) : (loadVar t ⟨b, o, none⟩).run Tryz.prog w = .ok (.agg cs) w := by
  obtain ⟨d, h1, h2⟩ := h.d
  have := run_loadVar_mid (P := Tryz.prog) w b o t cs.toList d hc h1 h2 (by rw [h.z]; simp [hn])
  simpa using this
/-- Results: a struct in a cell and a plain one beside it. -/
theorem results_cell2 {fn : Func} {tmps : Array Value} (a u : Nat) (R : RowT t n) (hn : cs.size = n) (hc : w.rangeAt b k cs.toList) (h : fn.results = #[.cell a t, .tmp u]) (ha : tmps.getD a undef = .pointer (some ⟨b, k, none⟩)) :
    (results fn tmps).run Tryz.prog w = .ok (.tuple #[.agg cs, tmps.getD u undef]) w := by
  have := R.read hn hc
  rw [Array.getD_eq_getD_getElem?] at ha
  simp [results, h, ha, asAddr, this]
theorem results_cell1 {fn : Func} {tmps : Array Value} (a : Nat) (R : RowT t n) (hn : cs.size = n) (hc : w.rangeAt b k cs.toList) (h : fn.results = #[.cell a t]) (ha : tmps.getD a undef = .pointer (some ⟨b, k, none⟩)) :
    (results fn tmps).run Tryz.prog w = .ok (.agg cs) w := by
  have := R.read hn hc
  rw [Array.getD_eq_getD_getElem?] at ha
  simp [results, h, ha, asAddr, this]
end
section
variable {ops : Array Oper} {rest : List Oper} {o : Oper} {a : Act} {w : World} {Q : Exit → Act → World → Prop}
theorem setCells_hsize {g : Nat} : ∀ (vs : List Value) (o : Nat) (w : World), (w.setCells g o vs).heap.size = w.heap.size
  | [], _, _ => rfl
  | v :: r, o, w => by rw [World.setCells, setCells_hsize r]; simp [World.setCell]
/-- A zero struct made: the build comes up alone, so that the store behind it is an arm's. -/
theorem buildZ {t : TypeId} {cs : Array Value} (hz : Tryz.prog.built t [] = some cs) (hg : o.guard = none) (ho : o.op = .build t #[]) (h : wpList Tryz.prog ops Q rest (a.put o.dst (.agg cs)) w) : wpList Tryz.prog ops Q (o :: rest) a w :=
  wpList_buildTo hg t #[] ho _ rfl cs (by simpa using hz) h
/-- A part stored into a block that is known whole. -/
theorem storeP {t : TypeId} {n : Nat} (R : RowT t n) (x y : Operand) (ho : o.op = .store t x y) (hw : Region.wanted o (yielded ops a.tmps) = true) (b k : Nat) (hx : a.eval x = .pointer (some ⟨b, k, none⟩)) (cs : Array Value) (hy : a.eval y = .agg cs) (T : TypeId) (C : Array Value) (hb : Blk w b T C) (hC : k + n ≤ C.size) (hn : cs.size = n) (h1 : cs.all (·.oneCell') = true)
    (h : ∀ w', Blk w' b T (setAll C k cs.toList) → Touch (fun q => q = b) w w' → w'.heap.size = w.heap.size → wpList Tryz.prog ops Q rest (a.put o.dst undef) w') : wpList Tryz.prog ops Q (o :: rest) a w := by
  refine BigFrame.wpList_want hw ?_
  intro K hK
  have hth : w.there b k cs.size := fun j hj => by
    have e := hb.cell (k + j)
    have hf := hb.frozen (k + j)
    rw [Array.getElem?_eq_getElem (by omega)] at e
    exact ⟨by rw [e]; rfl, hf⟩
  have hB := hb.setCells cs.toList k
  have hT : Touch (fun q => q = b) w (w.setCells b k cs.toList) := Touch.setCells cs.toList k w (Touch.refl _ _) (fun _ => rfl)
  refine wp_store_mid t x y ho b k cs hx hy hth (by rw [R.z]; simp [hn]) h1 ?_
  exact hK _ _ (h _ hB hT (setCells_hsize _ _ _))
/-- A known block's whole value is loaded; stored. -/
theorem Blk.ld {T t : TypeId} {n b : Nat} {C : Array Value} (hb : Blk w b T C) (R : RowT t n) (hn : C.size = n) (x : Operand) (ho : o.op = .load t x) (hw : Region.wanted o (yielded ops a.tmps) = true) (hx : a.eval x = .pointer (some ⟨b, 0, none⟩))
    (h : wpList Tryz.prog ops Q rest (a.put o.dst (.agg C)) w) : wpList Tryz.prog ops Q (o :: rest) a w := loadC R x ho hw b 0 hx C hn hb.whole h
theorem Blk.st {T t : TypeId} {n b : Nat} {C cs : Array Value} (hb : Blk w b T C) (R : RowT t n) (hC : C.size = n) (hn : cs.size = n) (h1 : cs.all (·.oneCell') = true) (x y : Operand) (ho : o.op = .store t x y) (hw : Region.wanted o (yielded ops a.tmps) = true) (hx : a.eval x = .pointer (some ⟨b, 0, none⟩)) (hy : a.eval y = .agg cs)
    (h : ∀ w', Blk w' b T cs → Touch (fun q => q = b) w w' → wpList Tryz.prog ops Q rest (a.put o.dst undef) w') : wpList Tryz.prog ops Q (o :: rest) a w := storeM R x y ho hw b hx cs hy T C hb hC hn h1 h
/-- The same alone in a plan. -/
theorem plan_aM {S : Nat → Prop} {t : TypeId} {n : Nat} (R : RowT t n) {i : Nat} {rest : List Stp} (hi : ops[i]? = some o) (hw : Region.wanted o (yielded ops a.tmps) = true) (x y : Operand) (ho : o.op = .store t x y) (b k : Nat) (hx : a.eval x = .pointer (some ⟨b, k, none⟩)) (cs : Array Value) (hy : a.eval y = .agg cs) (T : TypeId) (C : Array Value) (hb : Blk w b T C) (hC : k + n ≤ C.size) (hn : cs.size = n) (h1 : cs.all (·.oneCell') = true) (hS : S b)
    (h : ∀ w', Blk w' b T (setAll C k cs.toList) → Touch (fun q => q = b) w w' → w'.heap.size = w.heap.size → wpPlan Tryz.prog ops Q S rest (a.put o.dst undef) w') : wpPlan Tryz.prog ops Q S ((2, i) :: rest) a w := by
  refine plan_a1 hi hw fun K hK => ?_
  have hth : w.there b k cs.size := fun j hj => by
    have e := hb.cell (k + j)
    have hf := hb.frozen (k + j)
    rw [Array.getElem?_eq_getElem (by omega)] at e
    exact ⟨by rw [e]; rfl, hf⟩
  have hB := hb.setCells cs.toList k
  have hT : Touch (fun q => q = b) w (w.setCells b k cs.toList) := Touch.setCells cs.toList k w (Touch.refl _ _) (fun _ => rfl)
  refine wp_store_mid t x y ho b k cs hx hy hth (by rw [R.z]; simp [hn]) h1 ?_
  exact hK _ _ ⟨hT.mono (fun q _ e => e ▸ hS), h _ hB hT (setCells_hsize _ _ _)⟩
end
end Go.Proofs.YtlcefchbfjfifaaGreat
end
