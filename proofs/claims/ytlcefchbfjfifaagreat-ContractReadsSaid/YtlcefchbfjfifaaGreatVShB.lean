/- Structs by value with their cells as one array: loads, stores into a new block, as one step each. A struct's cells stored at once into a block that is known whole. Structs by value with their cells as one array: a parameter's own block, a result in a cell, a part stored into a block that is known whole. slices.Clone at levels; contract.Copy, contract.copied. -/
import Derived.Test.YtlcefchbfjfifaaGreatProg
import Derived.Test.YtlcefchbfjfifaaGreatVCells
import Derived.Test.YtlcefchbfjfifaaGreatVPlan
import Derived.Deep.MidRow
import Derived.Deep.WholeRow
import Derived.BigFrame
import Derived.Test.YtlcefchbfjfifaaGreatVOwn
import Derived.Great.BuildSlice
import Derived.Test.YtlcefchbfjfifaaGreatVChA
import Derived.Test.YtlcefchbfjfifaaGreatVCtD
section
namespace Go.Proofs.YtlcefchbfjfifaaGreat
open Go.RowKit
/-- A type whose values are n cells. -/
structure RowT (t : TypeId) (n : Nat) : Prop where
  d : ∃ d, Tryz.prog.underlying t = some d ∧ d.isRow = true
  z : (Tryz.prog.info? t).map (·.size) = some n
theorem RowT.load {t : TypeId} {n : Nat} (h : RowT t n) {w : World} {b o : Nat} {cs : Array Value} (hn : cs.size = n) (hc : w.rangeAt b o cs.toList) : (Instr.loadAt t (.pointer (some ⟨b, o, none⟩))).run Tryz.prog w = .ok (.agg cs) w := by
  obtain ⟨d, h1, h2⟩ := h.d
  have := run_loadAt_mid (P := Tryz.prog) w b o t cs.toList d hc h1 h2 (by rw [h.z]; simp [hn])
  simpa using this
theorem RowT.new {t : TypeId} {n : Nat} (h : RowT t n) (w : World) (c cs : Array Value) (hc : c.size = n) (hn : cs.size = n) (h1 : cs.all (·.oneCell') = true) :
    (Instr.storeAt t (.pointer (some ⟨w.heap.size, 0, none⟩)) (.agg cs)).run Tryz.prog (w.alloc (.cells c t)) = .ok () (w.alloc (.cells cs t)) :=
  run_storeAt_new w t c cs (by rw [h.z]; simp [hn]) (by omega) h1
theorem Blk.range {w : World} {g : Nat} {t : TypeId} {C : Array Value} (h : Blk w g t C) (o n : Nat) : w.rangeAt g o (C.extract o (o + n)).toList := World.rangeAt_of_block h o n
theorem Blk.whole {w : World} {g : Nat} {t : TypeId} {C : Array Value} (h : Blk w g t C) : w.rangeAt g 0 C.toList := by
  have := h.range 0 C.size
  simpa using this
section
variable {ops : Array Oper} {rest : List Oper} {o : Oper} {a : Act} {w : World} {Q : Exit → Act → World → Prop}
/-- A load. -/
theorem loadC {t : TypeId} {n : Nat} (R : RowT t n) (x : Operand) (ho : o.op = .load t x) (hw : Region.wanted o (yielded ops a.tmps) = true) (b k : Nat) (hx : a.eval x = .pointer (some ⟨b, k, none⟩)) (cs : Array Value) (hn : cs.size = n) (hc : w.rangeAt b k cs.toList)
    (h : wpList Tryz.prog ops Q rest (a.put o.dst (.agg cs)) w) : wpList Tryz.prog ops Q (o :: rest) a w := by
  obtain ⟨d, h1, h2⟩ := R.d
  refine BigFrame.wpList_want hw ?_
  intro K hK
  refine wp_load_mid t x ho b k hx cs.toList d hc h1 h2 (by rw [R.z]; simp [hn]) ?_
  exact hK _ _ (by simpa using h)
/-- A store of a whole value into the block that was made last. -/
theorem storeC {t : TypeId} {n : Nat} (R : RowT t n) (x y : Operand) (ho : o.op = .store t x y) (hw : Region.wanted o (yielded ops a.tmps) = true) (W : World) (c cs : Array Value) (hW : w = W.alloc (.cells c t)) (hx : a.eval x = .pointer (some ⟨W.heap.size, 0, none⟩)) (hy : a.eval y = .agg cs) (hcn : c.size = n) (hn : cs.size = n) (h1 : cs.all (·.oneCell') = true)
    (h : wpList Tryz.prog ops Q rest (a.put o.dst undef) (W.alloc (.cells cs t))) : wpList Tryz.prog ops Q (o :: rest) a w := by
  subst hW
  refine BigFrame.wpList_want hw ?_
  intro K hK
  unfold Oper.wp execOp
  simp only [ho, hx, hy, Instr.storeAt, Instr.sureAddr, Sem.run_bind, Sem.run_pure, Result.andThen_ok, run_storeVar_new (P := Tryz.prog) W t c cs (by rw [R.z]; simp [hn]) (by omega) h1]
  exact hK _ _ h
/-- A held load in a region walked by a plan. -/
theorem plan_hC {T : Nat → Prop} {t : TypeId} {n : Nat} (R : RowT t n) {i : Nat} {rest : List Stp} (hi : ops[i]? = some o) (x : Operand) (ho : o.op = .load t x) (hw : Region.wanted o (yielded ops a.tmps) = true) (b k : Nat) (hx : a.eval x = .pointer (some ⟨b, k, none⟩)) (cs : Array Value) (hn : cs.size = n)
    (hc : ∀ w', Touch T w w' → w'.rangeAt b k cs.toList) (h : wpPlan Tryz.prog ops Q T rest (a.put o.dst (.agg cs)) w) : wpPlan Tryz.prog ops Q T ((1, i) :: rest) a w := by
  obtain ⟨d, h1, h2⟩ := R.d
  refine plan_h hi hw (fun w' ht => ?_) h
  unfold execOp
  simp only [ho, hx, Instr.loadAt, Instr.sureAddr, Sem.run_bind, Sem.run_pure, Result.andThen_ok, run_loadVar_mid (P := Tryz.prog) w' b k t cs.toList d (hc w' ht) h1 h2 (by rw [R.z]; simp [hn])]
end
end Go.Proofs.YtlcefchbfjfifaaGreat
end

section
namespace Go.Proofs.YtlcefchbfjfifaaGreat
open Go.RowKit
theorem setAll_whole : ∀ (vs : List Value) (cs : Array Value), cs.size = vs.length → setAll cs 0 vs = vs.toArray := by
  have key : ∀ (vs : List Value) (o : Nat) (cs : Array Value), o + vs.length ≤ cs.size → ∀ k, (setAll cs o vs)[k]? = if o ≤ k ∧ k < o + vs.length then vs[k - o]? else cs[k]? := by
    intro vs
    induction vs with
    | nil => intro o cs h k; rw [setAll, if_neg (by simp <;> omega)]
    | cons v vs ih =>
      intro o cs h k
      simp only [List.length_cons] at h
      rw [setAll, ih (o + 1) (cs.setIfInBounds o v) (by simp; omega) k]
      by_cases h1 : k = o
      · subst h1
        rw [if_neg (by omega), if_pos (by simp)]
        simp [Array.getElem?_setIfInBounds]; omega
      · by_cases h2 : o + 1 ≤ k ∧ k < o + 1 + vs.length
        · rw [if_pos h2, if_pos (by simp; omega), show k - o = (k - (o + 1)) + 1 by omega, List.getElem?_cons_succ]
        · rw [if_neg h2, if_neg (by simp; omega)]
          simp [Ne.symm h1]
  intro vs cs h
  apply Array.ext_getElem?
  intro k
  rw [key vs 0 cs (by omega) k]
  by_cases hk : k < vs.length
  · rw [if_pos (by omega)]; simp
  · rw [if_neg (by omega)]
    rw [Array.getElem?_eq_none (by omega)]; simp; omega
section
variable {ops : Array Oper} {rest : List Oper} {o : Oper} {a : Act} {w : World} {Q : Exit → Act → World → Prop}
theorem storeM {t : TypeId} {n : Nat} (R : RowT t n) (x y : Operand) (ho : o.op = .store t x y) (hw : Region.wanted o (yielded ops a.tmps) = true) (b : Nat) (hx : a.eval x = .pointer (some ⟨b, 0, none⟩)) (cs : Array Value) (hy : a.eval y = .agg cs) (T : TypeId) (C : Array Value) (hb : Blk w b T C) (hC : C.size = n) (hn : cs.size = n) (h1 : cs.all (·.oneCell') = true)
    (h : ∀ w', Blk w' b T cs → Touch (fun q => q = b) w w' → wpList Tryz.prog ops Q rest (a.put o.dst undef) w') : wpList Tryz.prog ops Q (o :: rest) a w := by
  refine BigFrame.wpList_want hw ?_
  intro K hK
  have hth : w.there b 0 cs.size := fun j hj => by
    have e := hb.cell j
    have hf := hb.frozen j
    simp only [Nat.zero_add] at *
    rw [Array.getElem?_eq_getElem (by omega)] at e
    exact ⟨by rw [e]; rfl, hf⟩
  have hB := hb.setCells cs.toList 0
  have hT : Touch (fun q => q = b) w (w.setCells b 0 cs.toList) := Touch.setCells cs.toList 0 w (Touch.refl _ _) (fun _ => rfl)
  rw [setAll_whole _ _ (by simp; omega)] at hB
  refine wp_store_mid t x y ho b 0 cs hx hy hth (by rw [R.z]; simp [hn]) h1 ?_
  exact hK _ _ (h _ (by simpa using hB) hT)
end
end Go.Proofs.YtlcefchbfjfifaaGreat
end

section
namespace Go.Proofs.YtlcefchbfjfifaaGreat
open Go.RowKit
section
variable {w : World} {b k n : Nat} {t T : TypeId} {cs C : Array Value}
theorem RowT.read {t : TypeId} {n : Nat} (h : RowT t n) {w : World} {b o : Nat} {cs : Array Value} (hn : cs.size = n) (hc : w.rangeAt b o cs.toList) : (loadVar t ⟨b, o, none⟩).run Tryz.prog w = .ok (.agg cs) w := by
  obtain ⟨d, h1, h2⟩ := h.d
  have := run_loadVar_mid (P := Tryz.prog) w b o t cs.toList d hc h1 h2 (by rw [h.z]; simp [hn])
  simpa using this
/-- Results: a struct in a cell and a plain one beside it. -/
theorem results_cell2 {fn : Func} {tmps : Array Value} (a u : Nat) (R : RowT t n) (hn : cs.size = n) (hc : w.rangeAt b k cs.toList) (h : fn.results = #[.cell a t, .tmp u]) (ha : tmps.getD a undef = .pointer (some ⟨b, k, none⟩)) :
    (results fn tmps).run Tryz.prog w = .ok (.tuple #[.agg cs, tmps.getD u undef]) w := by
  have := R.read hn hc
  rw [Array.getD_eq_getD_getElem?] at ha
  simp [results, h, ha, asAddr, this]
theorem results_cell1 {fn : Func} {tmps : Array Value} (a : Nat) (R : RowT t n) (hn : cs.size = n) (hc : w.rangeAt b k cs.toList) (h : fn.results = #[.cell a t]) (ha : tmps.getD a undef = .pointer (some ⟨b, k, none⟩)) :
    (results fn tmps).run Tryz.prog w = .ok (.agg cs) w := by
  have := R.read hn hc
  rw [Array.getD_eq_getD_getElem?] at ha
  simp [results, h, ha, asAddr, this]
end
section
variable {ops : Array Oper} {rest : List Oper} {o : Oper} {a : Act} {w : World} {Q : Exit → Act → World → Prop}
theorem setCells_hsize {g : Nat} : ∀ (vs : List Value) (o : Nat) (w : World), (w.setCells g o vs).heap.size = w.heap.size
  | [], _, _ => rfl
  | v :: r, o, w => by rw [World.setCells, setCells_hsize r]; simp [World.setCell]
/-- A zero struct made: the build comes up alone, so that the store behind it is an arm's. -/
theorem buildZ {t : TypeId} {cs : Array Value} (hz : Tryz.prog.built t [] = some cs) (hg : o.guard = none) (ho : o.op = .build t #[]) (h : wpList Tryz.prog ops Q rest (a.put o.dst (.agg cs)) w) : wpList Tryz.prog ops Q (o :: rest) a w :=
  wpList_buildTo hg t #[] ho _ rfl cs (by simpa using hz) h
/-- A part stored into a block that is known whole. -/
theorem storeP {t : TypeId} {n : Nat} (R : RowT t n) (x y : Operand) (ho : o.op = .store t x y) (hw : Region.wanted o (yielded ops a.tmps) = true) (b k : Nat) (hx : a.eval x = .pointer (some ⟨b, k, none⟩)) (cs : Array Value) (hy : a.eval y = .agg cs) (T : TypeId) (C : Array Value) (hb : Blk w b T C) (hC : k + n ≤ C.size) (hn : cs.size = n) (h1 : cs.all (·.oneCell') = true)
    (h : ∀ w', Blk w' b T (setAll C k cs.toList) → Touch (fun q => q = b) w w' → w'.heap.size = w.heap.size → wpList Tryz.prog ops Q rest (a.put o.dst undef) w') : wpList Tryz.prog ops Q (o :: rest) a w := by
  refine BigFrame.wpList_want hw ?_
  intro K hK
  have hth : w.there b k cs.size := fun j hj => by
    have e := hb.cell (k + j)
    have hf := hb.frozen (k + j)
    rw [Array.getElem?_eq_getElem (by omega)] at e
    exact ⟨by rw [e]; rfl, hf⟩
  have hB := hb.setCells cs.toList k
  have hT : Touch (fun q => q = b) w (w.setCells b k cs.toList) := Touch.setCells cs.toList k w (Touch.refl _ _) (fun _ => rfl)
  refine wp_store_mid t x y ho b k cs hx hy hth (by rw [R.z]; simp [hn]) h1 ?_
  exact hK _ _ (h _ hB hT (setCells_hsize _ _ _))
/-- A known block's whole value is loaded; stored. -/
theorem Blk.ld {T t : TypeId} {n b : Nat} {C : Array Value} (hb : Blk w b T C) (R : RowT t n) (hn : C.size = n) (x : Operand) (ho : o.op = .load t x) (hw : Region.wanted o (yielded ops a.tmps) = true) (hx : a.eval x = .pointer (some ⟨b, 0, none⟩))
    (h : wpList Tryz.prog ops Q rest (a.put o.dst (.agg C)) w) : wpList Tryz.prog ops Q (o :: rest) a w := loadC R x ho hw b 0 hx C hn hb.whole h
theorem Blk.st {T t : TypeId} {n b : Nat} {C cs : Array Value} (hb : Blk w b T C) (R : RowT t n) (hC : C.size = n) (hn : cs.size = n) (h1 : cs.all (·.oneCell') = true) (x y : Operand) (ho : o.op = .store t x y) (hw : Region.wanted o (yielded ops a.tmps) = true) (hx : a.eval x = .pointer (some ⟨b, 0, none⟩)) (hy : a.eval y = .agg cs)
    (h : ∀ w', Blk w' b T cs → Touch (fun q => q = b) w w' → wpList Tryz.prog ops Q rest (a.put o.dst undef) w') : wpList Tryz.prog ops Q (o :: rest) a w := storeM R x y ho hw b hx cs hy T C hb hC hn h1 h
/-- The same alone in a plan. -/
theorem plan_aM {S : Nat → Prop} {t : TypeId} {n : Nat} (R : RowT t n) {i : Nat} {rest : List Stp} (hi : ops[i]? = some o) (hw : Region.wanted o (yielded ops a.tmps) = true) (x y : Operand) (ho : o.op = .store t x y) (b k : Nat) (hx : a.eval x = .pointer (some ⟨b, k, none⟩)) (cs : Array Value) (hy : a.eval y = .agg cs) (T : TypeId) (C : Array Value) (hb : Blk w b T C) (hC : k + n ≤ C.size) (hn : cs.size = n) (h1 : cs.all (·.oneCell') = true) (hS : S b)
    (h : ∀ w', Blk w' b T (setAll C k cs.toList) → Touch (fun q => q = b) w w' → w'.heap.size = w.heap.size → wpPlan Tryz.prog ops Q S rest (a.put o.dst undef) w') : wpPlan Tryz.prog ops Q S ((2, i) :: rest) a w := by
  refine plan_a1 hi hw fun K hK => ?_
  have hth : w.there b k cs.size := fun j hj => by
    have e := hb.cell (k + j)
    have hf := hb.frozen (k + j)
    rw [Array.getElem?_eq_getElem (by omega)] at e
    exact ⟨by rw [e]; rfl, hf⟩
  have hB := hb.setCells cs.toList k
  have hT : Touch (fun q => q = b) w (w.setCells b k cs.toList) := Touch.setCells cs.toList k w (Touch.refl _ _) (fun _ => rfl)
  refine wp_store_mid t x y ho b k cs hx hy hth (by rw [R.z]; simp [hn]) h1 ?_
  exact hK _ _ ⟨hT.mono (fun q _ e => e ▸ hS), h _ hB hT (setCells_hsize _ _ _)⟩
end
end Go.Proofs.YtlcefchbfjfifaaGreat
end

section
namespace Go.Proofs.YtlcefchbfjfifaaGreat
open Go.RowKit Cal
set_option maxHeartbeats 4000000
set_option maxRecDepth 100000
set_option linter.unusedVariables false
attribute [local irreducible] wpPlan

theorem lvclone_any (F : Nat → Prop) (A : Option Addr) (c : Nat) (l : List Sp) (w : World) (h : SpR w F A l.length l) (hn : l.length ≤ 1000000) :
    Calls Tryz.prog 40 #[.slice A l.length c] w (NewSpan w l) := by
  rcases A with _ | ad
  · obtain ⟨h0, rfl⟩ := h.isN
    clear h hn h0
    have hbin : ∀ w, (binOp .eql 22 (.slice none 0 c) (.slice none 0 0)).run Tryz.prog w = .ok (.bool true) w := fun w => by first | rfl | simp [go_sem]
    simp only [List.length_nil]
    go_enter Tryz.func40, Tryz.ntmps40
    go_wp2
    go_ret
    exact ⟨none, 0, rfl, Nat.le_refl _, by simp, fun _ => rfl, SpR.nil _ _ _, Touch.refl _ _⟩
  · have Hn := Lib.hid (show ∀ j u, (l.flatMap spC)[j]? = some u → (w.alloc (.cells #[] 68)).cell? (ad.add j) = some u from fun j u hj => (World.cell?_alloc_lt _ _ _ (World.block_lt_of_cell? w _ (h.isS j u hj))).trans (h.isS j u hj))
    have h1 := Lib.hid (spC_one l)
    have hfl := Lib.hid (show (l.flatMap spC).length = l.length * 2 from h.2.1)
    obtain ⟨i0, hi, hz0, hz1, hz2⟩ := info_parts infoLv
    have HO := Lib.hid (show Own (w.alloc (.cells #[] 68)) 68 2 (.slice (some ⟨w.heap.size, 0, none⟩) 0 0) (some w.heap.size) 0 [] from by simpa using Own.lit w 68 2 #[] 0 (by simp) (by simp))
    clear h
    generalize hm : l.length = m at *
    have hbin : ∀ w, (binOp .eql 22 (.slice (some ad) m c) (.slice none 0 0)).run Tryz.prog w = .ok (.bool false) w := fun w => by first | rfl | simp [go_sem]
    have HM := Lib.hid hm
    clear hm
    go_enter Tryz.func40, Tryz.ntmps40
    go_wp2_with (at_builtin; go_must (refine wpList_own_append rfl _ _ 22 22 rfl 68 i0 (.agg #[.int .i64 0, .int .i64 0]) 2 16 Tryz.underlying22 hi hz0 hz1 hz2 rfl _ (some w.heap.size) 0 [] rfl (by exact HO.out) _ m (l.flatMap spC) rfl (by exact Src.ofSlice _ Tryz.underlying22 ad m c _ hfl.out Hn.out h1.out) (by simp only [maxLen]; omega) (by omega) ?_); intro v1 r1 w1 ho1 ht1 hr1; have HR1 := Lib.hid (And.intro ho1 (And.intro ht1 hr1)); clear ho1 ht1 hr1)
    go_ret
    obtain ⟨ho1, ht1, hr1⟩ := HR1.out
    obtain ⟨A', c', hv, k1, k2, k3, k4⟩ := ho1.spR (l := l) (by simp) (by simp [HM.out])
    rw [Nat.zero_add, ← HM.out] at k4 hv k1
    refine ⟨A', c', by rw [← hv]; rfl, k1, k2, k3, k4.mono (fun q hq => ?_), ((Touch.refl _ w).alloc _).trans ht1 (fun q hq e => ?_)⟩
    · rcases hr1 with e | ⟨q', e, hq'⟩
      · rw [e] at hq; injection hq with hq; omega
      · rw [e] at hq; injection hq with hq; simp at hq'; omega
    · injection e with e; omega
def conA (c : Co) (A : Option Addr) (n : Nat) : Array Value := #[.int .i64 c.cal, .slice A c.lv.length n, .int .i64 c.rt, .int .i64 c.bk]
/-- A contract copied. -/
def CopK (c : Co) (w : World) (e : Ending) (w' : World) : Prop :=
  ∃ A n, e = .returned (.agg (conA c A n)) ∧ SpR w' (fun k => w.heap.size ≤ k ∧ k < w'.heap.size) A c.lv.length c.lv ∧ Touch (fun _ => False) w w'
theorem rowCo : RowT 24 4 := ⟨⟨_, Tryz.underlying24, rfl⟩, by kernel_rfl⟩
theorem rowCa : RowT 51 3 := ⟨⟨_, Tryz.underlying51, rfl⟩, by kernel_rfl⟩
def conZA : Array Value := conA conZ none 0
theorem conA_one (c : Co) (A : Option Addr) (n : Nat) : (conA c A n).all (·.oneCell') = true := by simp [conA, Value.oneCell']
theorem caA_one (c : Ca) (A B : Option Addr) (k m : Nat) : (caA c A B k m).all (·.oneCell') = true := by simp [caA, Value.oneCell']
theorem kcopy_any (F : Nat → Prop) (A : Option Addr) (n : Nat) (c : Co) (w : World) (hr : SpR w F A c.lv.length c.lv) (hl : c.lv.length ≤ 1000000) : Calls Tryz.prog 13 #[.agg (conA c A n)] w (CopK c w) := by
  have HC := Lib.hid (fun w1 (t : Touch (fun _ => False) w w1) => lvclone_any F A n c.lv w1 (hr.touch t (fun _ _ e => e)) hl)
  unfold NewSpan at HC
  obtain ⟨W0, hW0⟩ : ∃ W0, W0 = (w.alloc (.cells (conA c A n) 24)).alloc (.cells #[.int .i64 0, .slice none 0 0, .int .i64 0, .int .i64 0] 24) := ⟨_, rfl⟩
  have hT : Touch (fun _ => False) w W0 := hW0 ▸ ((Touch.refl _ w).alloc _).alloc _
  have HT := Lib.hid hT
  have HB := Lib.hid (show Blk W0 w.heap.size 24 (conA c A n) from hW0 ▸ (Blk.new w _ _).alloc _)
  have HZ := Lib.hid (show Blk W0 (w.heap.size + 1) 24 #[.int .i64 0, .slice none 0 0, .int .i64 0, .int .i64 0] from hW0 ▸ (by simpa using Blk.new (w.alloc (.cells (conA c A n) 24)) 24 #[.int .i64 0, .slice none 0 0, .int .i64 0, .int .i64 0]))
  have HW0 := Lib.hid hW0
  have hz0 : w.heap.size + 2 ≤ W0.heap.size := by rw [hW0]; simp
  have q1 := HB.out.cell 1
  rw [show (conA c A n)[1]? = some (.slice A c.lv.length n) from rfl, hW0] at q1
  have HK1 := Lib.hid (show (conA c A n)[1]? = some (.slice A c.lv.length n) from rfl)
  have HE := Lib.hid (fun A1 c1 => (show (conA c A n).setIfInBounds 1 (.slice A1 c.lv.length c1) = conA c A1 c1 by simp [conA]))
  have HZn := Lib.hid (show (#[.int .i64 0, .slice none 0 0, .int .i64 0, .int .i64 0] : Array Value).size = 4 from rfl)
  have HCn := Lib.hid (fun A1 c1 => (show (conA c A1 c1).size = 4 from rfl))
  have HC1 := Lib.hid (fun A1 c1 => conA_one c A1 c1)
  unfold CopK
  obtain ⟨CA, hCA⟩ : ∃ CA : Option Addr → Nat → Array Value, CA = conA c := ⟨_, rfl⟩
  rw [← hCA] at HB HW0 q1 HK1 HE HCn HC1 ⊢
  generalize CA A n = C0 at *
  have HS0 := Lib.hid hr
  generalize c.lv.length = ln at *
  clear hr hT hW0 hCA
  go_enter Tryz.func13, Tryz.ntmps13
  go_wp2_with (first
    | (go_at_call 40; rw [← HW0.out]; go_must (refine (HC.out _ (by exact HT.out)).mono ?_)
       rintro e w1 ⟨A1, c1, rfl, -, -, -, hs, t1⟩
       have HS := Lib.hid hs
       have HT1 := Lib.hid t1
       have hb := t1.blk HB.out (fun e => e)
       have hz := t1.blk HZ.out (fun e => e)
       have x1 := hb.cell 1
       have f1 := hb.frozen 1
       rw [HK1.out] at x1
       have hb1 := hb.set_ 1 (.slice A1 ln c1)
       rw [HE.out] at hb1
       have ts := (Touch.refl (fun q => q = w.heap.size) w1).set (b := w.heap.size) (o := 1) (fun _ => rfl) (.slice A1 ln c1)
       have HBs := Lib.hid hb1
       have HZs := Lib.hid (ts.blk hz (by omega))
       have HTs := Lib.hid ts
       have HN1 := Lib.hid (HCn.out A1 c1)
       have H11 := Lib.hid (HC1.out A1 c1)
       clear hs t1 hb hb1 hz ts)
    | ((with_reducible apply HBs.out.ld rowCo HN1.out); exact rfl; exact rfl; exact rfl)
    | ((with_reducible apply HZs.out.st rowCo HZn.out HN1.out H11.out); exact rfl; exact rfl; exact rfl; exact rfl
       intro w4 hb4 t4
       have HB4 := Lib.hid hb4
       have HT4 := Lib.hid t4
       clear hb4 t4))
  refine bodyPost_ret (results_cell1 2 rowCo HN1.out (HB4.out.whole) rfl rfl) rfl ?_
  have tt := (HTs.out.mono (S' := fun q => q = w.heap.size ∨ q = w.heap.size + 1) (fun _ _ e => .inl e)).trans HT4.out (fun _ _ e => .inr e)
  have z1 := HT1.out.size
  refine ⟨A1, c1, rfl, (HS.out.near.touch tt (fun q hq e => by have := hq.1; omega)).mono (fun q hq => ⟨by have := hq.1; omega, Nat.lt_of_lt_of_le hq.2 tt.size⟩), (HT.out.trans HT1.out (fun _ _ e => e)).trans tt (fun q hq e => by omega)⟩
end Go.Proofs.YtlcefchbfjfifaaGreat
end
