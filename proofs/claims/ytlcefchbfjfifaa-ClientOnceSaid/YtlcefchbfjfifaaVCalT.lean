/- Structs by value with their cells as one array: a parameter's own block, a result in a cell, a part stored into a block that is known whole. A calendar among the arguments, opened. A region that draws its order, in the round of a range over a function: walked by a plan. What calls leave as it lay. No program in sight. almanac.Free: what lies free of the closed spans, handed out one by one. almanac.Lost at a clock's weekly; calendar.Elapsed, Rest. calendar.Elapsed, Rest. slices.BinarySearch at int64; week.Nth. -/
import Derived.Test.YtlcefchbfjfifaaVCcA
import Derived.Great.BuildSlice
import Derived.Test.YtlcefchbfjfifaaVArgs
import Derived.Test.YtlcefchbfjfifaaVCalG
import Derived.Test.YtlcefchbfjfifaaVPlan
import Derived.RangeFuncNested
import Derived.RangeFuncBound
import Derived.RangeFuncCalls
import Derived.RangeFuncLeaves
import Derived.OwnWalkIn
import Derived.TacticsInMore
import Derived.LoopNIn
import Derived.LoopIn
import Derived.Test.YtlcefchbfjfifaaVCalJ
import Derived.Test.YtlcefchbfjfifaaVCalW
section
namespace Go.Proofs.Ytlcefchbfjfifaa
open Go.RowKit
section
variable {w : World} {b k n : Nat} {t T : TypeId} {cs C : Array Value}
theorem RowT.read {t : TypeId} {n : Nat} (h : RowT t n) {w : World} {b o : Nat} {cs : Array Value} (hn : cs.size = n) (hc : w.rangeAt b o cs.toList) : (loadVar t ⟨b, o, none⟩).run Try.prog w = .ok (.agg cs) w := by
  obtain ⟨d, h1, h2⟩ := h.d
  have := run_loadVar_mid (P := Try.prog) w b o t cs.toList d hc h1 h2 (by rw [h.z]; simp [hn])
  simpa using this
/-- Results: a struct in a cell and a plain one beside it. -/
theorem results_cell2 {fn : Func} {tmps : Array Value} (a u : Nat) (R : RowT t n) (hn : cs.size = n) (hc : w.rangeAt b k cs.toList) (h : fn.results = #[.cell a t, .tmp u]) (ha : tmps.getD a undef = .pointer (some ⟨b, k, none⟩)) :
    (results fn tmps).run Try.prog w = .ok (.tuple #[.agg cs, tmps.getD u undef]) w := by
  have := R.read hn hc
  rw [Array.getD_eq_getD_getElem?] at ha
  simp [results, h, ha, asAddr, this]
theorem results_cell1 {fn : Func} {tmps : Array Value} (a : Nat) (R : RowT t n) (hn : cs.size = n) (hc : w.rangeAt b k cs.toList) (h : fn.results = #[.cell a t]) (ha : tmps.getD a undef = .pointer (some ⟨b, k, none⟩)) :
    (results fn tmps).run Try.prog w = .ok (.agg cs) w := by
  have := R.read hn hc
  rw [Array.getD_eq_getD_getElem?] at ha
  simp [results, h, ha, asAddr, this]
end
section
variable {ops : Array Oper} {rest : List Oper} {o : Oper} {a : Act} {w : World} {Q : Exit → Act → World → Prop}
theorem setCells_hsize {g : Nat} : ∀ (vs : List Value) (o : Nat) (w : World), (w.setCells g o vs).heap.size = w.heap.size
  | [], _, _ => rfl
  | v :: r, o, w => by rw [World.setCells, setCells_hsize r]; simp [World.setCell]
/-- A zero struct made: the build comes up alone, so that the store behind it is an arm's. -/
theorem buildZ {t : TypeId} {cs : Array Value} (hz : Try.prog.built t [] = some cs) (hg : o.guard = none) (ho : o.op = .build t #[]) (h : wpList Try.prog ops Q rest (a.put o.dst (.agg cs)) w) : wpList Try.prog ops Q (o :: rest) a w :=
  wpList_buildTo hg t #[] ho _ rfl cs (by simpa using hz) h
/-- A part stored into a block that is known whole. -/
theorem storeP {t : TypeId} {n : Nat} (R : RowT t n) (x y : Operand) (ho : o.op = .store t x y) (hw : Region.wanted o (yielded ops a.tmps) = true) (b k : Nat) (hx : a.eval x = .pointer (some ⟨b, k, none⟩)) (cs : Array Value) (hy : a.eval y = .agg cs) (T : TypeId) (C : Array Value) (hb : Blk w b T C) (hC : k + n ≤ C.size) (hn : cs.size = n) (h1 : cs.all (·.oneCell') = true)
    (h : ∀ w', Blk w' b T (setAll C k cs.toList) → Touch (fun q => q = b) w w' → w'.heap.size = w.heap.size → wpList Try.prog ops Q rest (a.put o.dst undef) w') : wpList Try.prog ops Q (o :: rest) a w := by
  refine BigFrame.wpList_want hw ?_
  intro K hK
  have hth : w.there b k cs.size := fun j hj => by
    have e := hb.cell (k + j)
    have hf := hb.frozen (k + j)
    rw [Array.getElem?_eq_getElem (by omega)] at e
    exact ⟨by rw [e]; rfl, hf⟩
  have hB := hb.setCells cs.toList k
  have hT : Touch (fun q => q = b) w (w.setCells b k cs.toList) := Touch.setCells cs.toList k w (Touch.refl _ _) (fun _ => rfl)
  refine wp_store_mid t x y ho b k cs hx hy hth (by rw [R.z]; simp [hn]) h1 ?_
  exact hK _ _ (h _ hB hT (setCells_hsize _ _ _))
/-- A known block's whole value is loaded; stored. -/
theorem Blk.ld {T t : TypeId} {n b : Nat} {C : Array Value} (hb : Blk w b T C) (R : RowT t n) (hn : C.size = n) (x : Operand) (ho : o.op = .load t x) (hw : Region.wanted o (yielded ops a.tmps) = true) (hx : a.eval x = .pointer (some ⟨b, 0, none⟩))
    (h : wpList Try.prog ops Q rest (a.put o.dst (.agg C)) w) : wpList Try.prog ops Q (o :: rest) a w := loadC R x ho hw b 0 hx C hn hb.whole h
theorem Blk.st {T t : TypeId} {n b : Nat} {C cs : Array Value} (hb : Blk w b T C) (R : RowT t n) (hC : C.size = n) (hn : cs.size = n) (h1 : cs.all (·.oneCell') = true) (x y : Operand) (ho : o.op = .store t x y) (hw : Region.wanted o (yielded ops a.tmps) = true) (hx : a.eval x = .pointer (some ⟨b, 0, none⟩)) (hy : a.eval y = .agg cs)
    (h : ∀ w', Blk w' b T cs → Touch (fun q => q = b) w w' → wpList Try.prog ops Q rest (a.put o.dst undef) w') : wpList Try.prog ops Q (o :: rest) a w := storeM R x y ho hw b hx cs hy T C hb hC hn h1 h
/-- The same alone in a plan. -/
theorem plan_aM {S : Nat → Prop} {t : TypeId} {n : Nat} (R : RowT t n) {i : Nat} {rest : List Stp} (hi : ops[i]? = some o) (hw : Region.wanted o (yielded ops a.tmps) = true) (x y : Operand) (ho : o.op = .store t x y) (b k : Nat) (hx : a.eval x = .pointer (some ⟨b, k, none⟩)) (cs : Array Value) (hy : a.eval y = .agg cs) (T : TypeId) (C : Array Value) (hb : Blk w b T C) (hC : k + n ≤ C.size) (hn : cs.size = n) (h1 : cs.all (·.oneCell') = true) (hS : S b)
    (h : ∀ w', Blk w' b T (setAll C k cs.toList) → Touch (fun q => q = b) w w' → w'.heap.size = w.heap.size → wpPlan Try.prog ops Q S rest (a.put o.dst undef) w') : wpPlan Try.prog ops Q S ((2, i) :: rest) a w := by
  refine plan_a1 hi hw fun K hK => ?_
  have hth : w.there b k cs.size := fun j hj => by
    have e := hb.cell (k + j)
    have hf := hb.frozen (k + j)
    rw [Array.getElem?_eq_getElem (by omega)] at e
    exact ⟨by rw [e]; rfl, hf⟩
  have hB := hb.setCells cs.toList k
  have hT : Touch (fun q => q = b) w (w.setCells b k cs.toList) := Touch.setCells cs.toList k w (Touch.refl _ _) (fun _ => rfl)
  refine wp_store_mid t x y ho b k cs hx hy hth (by rw [R.z]; simp [hn]) h1 ?_
  exact hK _ _ ⟨hT.mono (fun q _ e => e ▸ hS), h _ hB hT (setCells_hsize _ _ _)⟩
end
end Go.Proofs.Ytlcefchbfjfifaa
end

section
namespace Go.Proofs.Ytlcefchbfjfifaa
open Go.RowKit Go.ChangeShapes Go.WideShapes Go.ChangeAt Go.Deep Cal
set_option maxHeartbeats 4000000
set_option maxRecDepth 100000
set_option linter.unusedVariables false
section
variable {H : Type} {enc : TypeId × Value → H} {w : World} {spare : Nat → Bool} {held : Bool}
theorem elem_i64c {P : Program} {e : TypeId} (he : P.underlying e = some (.int .i64)) {fuel : Nat} {cs : List Value} {x : DataW H × List MemPlace} (h : DataW.trod enc P w 0 spare held fuel e cs = some x) : ∃ n : Int, cs = [.int .i64 n] ∧ -9223372036854775808 ≤ n ∧ n ≤ 9223372036854775807 := by
  obtain ⟨n, rfl, _, hw⟩ := DataW.trod_int he h
  simp [Lit.wf, IntKind.min, IntKind.max, IntKind.signed, IntKind.bits] at hw
  exact ⟨n, rfl, by omega⟩
theorem elem_span {fuel : Nat} {cs : List Value} {x : DataW H × List MemPlace} (h : DataW.trod enc Try.prog w 0 spare held fuel 140 cs = some x) : ∃ s : Sp, cs = spC s ∧ True := by
  obtain ⟨ys, n, _, _, hlen, hyl, hf⟩ := DataW.trod_struct Try.underlying140 h
  rw [show Try.prog.cellsOf 140 = 2 from by kernel_rfl] at hlen
  match cs, hlen, ys, hyl with
  | [c0, c1], _, [y0, y1], _ =>
    have k0 := hf 0 _ rfl; have k1 := hf 1 _ rfl
    have z2 : Try.prog.cellsOf 2 = 1 := by kernel_rfl
    simp [z2] at k0 k1
    obtain ⟨n0, e0, o0⟩ := elem_i64c Try.underlying2 k0
    obtain ⟨n1, e1, o1⟩ := elem_i64c Try.underlying2 k1
    injection e0 with e0 _; injection e1 with e1 _
    subst e0 e1
    exact ⟨⟨n0, n1⟩, rfl, trivial⟩
/-- A field that is a row of spans. -/
theorem field_spans {fuel : Nat} {v : Value} {x : DataW H × List MemPlace} (h : DataW.trod enc Try.prog w 0 spare held fuel 28 [v] = some x) :
    ∃ A c, ∃ l : List Sp, v = .slice A l.length c ∧ SpR w (fun k => k < w.heap.size) A l.length l := by
  have hv : ∃ A n c, v = .slice A n c := by
    rcases open_slice Try.underlying28 h with ⟨hcs, _⟩ | ⟨a, len, cap, m, k, D, Pl, hcs, _⟩
    · injection hcs with hcs _; exact ⟨_, _, _, hcs⟩
    · injection hcs with hcs _; exact ⟨_, _, _, hcs⟩
  obtain ⟨A, n, c, rfl⟩ := hv
  obtain ⟨l, hl, ho, -, h1, h2, h3, h4⟩ := open_list spC (fun _ => True) (H := H) (enc := enc) (P := Try.prog) (w := w) (spare := spare) (held := held) (d := x.1) (ps := x.2) Try.underlying28 (sz := 2) (by kernel_rfl) (by decide) (fun _ _ _ hx => elem_span hx) A n c rfl ⟨fuel, by simpa [Value.cells] using h⟩
  subst hl
  exact ⟨A, c, l, rfl, rfl, h4⟩
theorem open_cal {fuel : Nat} {cs : List Value} {x : DataW H × List MemPlace} (h : DataW.trod enc Try.prog w 0 spare held fuel 30 cs = some x) :
    ∃ (a : Ca) (A B : Option Addr) (c m : Nat), cs = [.int .i64 a.off, .slice A a.wk.length c, .slice B a.cl.length m] ∧ CaR w (fun k => k < w.heap.size) a A B ∧ -9223372036854775808 ≤ a.off ∧ a.off ≤ 9223372036854775807 := by
  obtain ⟨ys, n, _, _, hlen, hyl, hf⟩ := DataW.trod_struct Try.underlying30 h
  rw [show Try.prog.cellsOf 30 = 3 from by kernel_rfl] at hlen
  match cs, hlen, ys, hyl with
  | [c0, c1, c2], _, [y0, y1, y2], _ =>
    have k0 := hf 0 _ rfl; have k1 := hf 1 _ rfl; have k2 := hf 2 _ rfl
    have z0 : Try.prog.cellsOf 2 = 1 := by kernel_rfl
    have z3 : Try.prog.cellsOf 28 = 1 := by kernel_rfl
    simp [z0, z3] at k0 k1 k2
    obtain ⟨n0, e0, o0⟩ := elem_i64c Try.underlying2 k0
    obtain ⟨A, c, l, rfl, q1⟩ := field_spans k1
    obtain ⟨B, m, l2, rfl, q2⟩ := field_spans k2
    injection e0 with e0 _
    subst e0
    exact ⟨⟨n0, l, l2⟩, A, B, c, m, rfl, ⟨q1, q2⟩, o0⟩
end
end Go.Proofs.Ytlcefchbfjfifaa
end

section
namespace Go.Proofs.Ytlcefchbfjfifaa
open Go
set_option linter.unusedVariables false
section
variable {P : Program} {ops : Array Oper} {Q : Exit → Act → World → Prop} {md : Region.Mode} {n l : Nat}

theorem rows_in {row : String} {args : Array Value} {w : World} {R : Value → World → Prop} (h : Rows P row args w R) : RowsIn (Fence.wide.inRound l) n P row args w R :=
  fun c cs _ => let ⟨v, w', r, s⟩ := h c cs; ⟨v, w', r, by rw [fenced_inRound]; exact stepsIn_wide.2 s⟩
theorem upon_in {o : Oper} {a : Act} {K : Act → World → Prop} {r : Result Next} (h : o.upon P a K Q r) : o.uponIn (Fence.wide.inRound l) n P a K Q r := by
  cases r with
  | ok x w' =>
    cases x <;> first
      | exact h.elim
      | exact h
      | exact ⟨fun e => by simp [Fence.wide] at e, CallsIn.inRound l (callsIn_wide.2 h)⟩
      | exact ⟨fun e => by simp [Fence.wide] at e, rows_in h⟩
  | halt x w' => cases x <;> first | exact h | exact h.elim
/-- No operation lays a deferred call. -/
def noDefer (ops : Array Oper) : Bool := ops.all fun o => match o.op with | .defer _ => false | _ => true
theorem noDefer_spec (h : noDefer ops = true) {i : Nat} {o : Oper} (ho : ops[i]? = some o) : ∀ c, o.op ≠ .defer c := by
  intro c hc
  obtain ⟨hi, he⟩ := Array.getElem?_eq_some_iff.1 ho
  have := (Array.all_eq_true.1 h) i hi
  rw [he, hc] at this
  cases this
theorem wpOp_in (hL : ¬ LetsOut Q) (hd : noDefer ops = true) {i : Nat} {K : Act → World → Prop} {a : Act} {w : World} (h : wpOp P ops Q i K a w) : wpOpIn (Fence.wide.inRound l) n P ops Q i K a w := by
  unfold wpOp at h
  unfold wpOpIn
  cases ho : ops[i]? with
  | none => rw [ho] at h; exact h
  | some o =>
    rw [ho] at h
    simp only at h ⊢
    split
    · rename_i hw
      simp only [hw, if_true] at h
      refine ⟨fun _ _ => trivial, ?_⟩
      rw [show (Fence.wide.inRound l).round = some l from rfl, Oper.semAt_some l _ _ (noDefer_spec hd ho)]
      exact upon_in (h.resolve_right (fun e => hL e.2))
    · rename_i hw
      simp only [hw] at h
      exact ⟨fun _ _ => trivial, h⟩
theorem wpOp_mono' {i : Nat} {a : Act} {w : World} {K K' : Act → World → Prop} (h : ∀ a w, K a w → K' a w) (hh : wpOp P ops Q i K a w) : wpOp P ops Q i K' a w := wpOp_mono h hh
theorem wpAny_in (hL : ¬ LetsOut Q) (hd : noDefer ops = true) : ∀ (f : Nat) (listed : Array Bool) (a : Act) (w : World), wpAny P md ops Q f listed a w → wpAnyIn (Fence.wide.inRound l) n P md ops Q f listed a w
  | 0, _, _, _, h => h
  | f + 1, listed, a, w, h => ⟨h.1, fun i hi => wpOp_in hL hd (wpOp_mono (fun a' w' h' => wpAny_in hL hd f _ a' w' h') (h.2 i hi))⟩
/-- The beginning, in a round. -/
theorem wpIn_region_plan {id : Nat} {a : Act} {w : World} {L : List Oper} (plan : List Stp) (T : Nat → Prop) (hm : P.follows .mixedOrders = true) (hB : planB L.toArray plan = true) (hd : noDefer L.toArray = true) (hL : ¬ LetsOut Q)
    (hQ : ∀ c a d v w, Q (.panic c) (Act.put a d v) w → Q (.panic c) a w) (h : wpPlan P L.toArray Q T plan a w.drew) : (Code.region id L.toArray true).wpIn (Fence.wide.inRound l) n P Q a w := by
  simp only [planB, Bool.and_eq_true, beq_iff_eq] at hB
  obtain ⟨⟨hsel, hlen⟩, hB⟩ := hB
  refine wpIn_region_any hm (wpAny_in hL hd _ _ _ _ (wpMix_sound (T := T) (fl := flOf plan) (lt := ltOf plan) _ _ _ _ ?_))
  rw [← hlen]
  have := wpPlan_sound (md := .any) hQ hsel plan (Array.replicate L.toArray.size false) a w.drew hB h
  simpa [hlen] using this
end
theorem Touch.others {S : Nat → Prop} {W W' : World} (h : Touch S W W') (hS : ∀ k, S k → ∃ o, W.heap[k]? = some o ∧ o.isCells = true) : KeepsOthers W W' :=
  ⟨h.size, fun k o hk ho => by
    refine (h.block k (Array.getElem?_eq_some_iff.1 hk).1 (fun e => ?_)).trans hk
    obtain ⟨o', h1, h2⟩ := hS k e
    rw [hk] at h1
    injection h1 with h1
    subst h1
    rw [ho] at h2; cases h2⟩
theorem Touch.othersB {S : Nat → Prop} {W W' : World} (h : Touch S W W') (hS : ∀ k, S k → ∃ g t cs, k = g ∧ Blk W g t cs) : KeepsOthers W W' :=
  h.others (fun k e => by obtain ⟨g, t, cs, rfl, hb⟩ := hS k e; exact ⟨_, hb, rfl⟩)
theorem Touch.grown {W W' : World} (h : Touch (fun _ => False) W W') : W.grownBy W' none := ⟨h.os, h.tape, h.output, h.size, fun k hk _ => h.block k hk (fun e => e)⟩
/-- What a range over a function does beside the rounds, as a touch. -/
theorem Touch.of_row {W W' : World} {B : Nat} {row : Option Nat} (h : W.grownBy W' row) (hr : ∀ r, row = some r → B ≤ r) : Touch (fun k => B ≤ k) W W' :=
  ⟨h.os, h.tape, h.output, h.size, fun k hk hn => h.block k hk (fun e => hn (hr k e.symm))⟩
/-- Cells lie as they lay, but for the blocks in T. -/
def KeepT (T : Nat → Prop) (W W' : World) : Prop := W.heap.size ≤ W'.heap.size ∧ ∀ k o, W.heap[k]? = some o → o.isCells = true → ¬ T k → W'.heap[k]? = some o
theorem KeepT.refl (T : Nat → Prop) (W : World) : KeepT T W W := ⟨Nat.le_refl _, fun _ _ h _ _ => h⟩
theorem KeepT.t {T : Nat → Prop} {A B C : World} (h : KeepT T A B) (h' : KeepT T B C) : KeepT T A C := ⟨Nat.le_trans h.1 h'.1, fun k o hk hc hn => h'.2 k o (h.2 k o hk hc hn) hc hn⟩
theorem KeepT.b {T : Nat → Prop} {B : Nat} (W : World) (l : Nat) (o o' : Obj) (_ : B ≤ l) (h : W.heap[l]? = some o) (ho : o.isCells = false) (_ : o.isWalk = false) : KeepT T W (W.putObj l o') :=
  ⟨by simp, fun k q hk hc hn => (World.putObj_heap_other (fun e => by subst e; rw [hk] at h; injection h with h; subst h; rw [hc] at ho; cases ho)).trans hk⟩
theorem KeepT.of_touch {T S : Nat → Prop} {W W' : World} (h : Touch S W W') (hS : ∀ k, S k → T k) : KeepT T W W' :=
  ⟨h.size, fun k o hk hc hn => (h.block k (Array.getElem?_eq_some_iff.1 hk).1 (fun e => hn (hS k e))).trans hk⟩
theorem KeepT.cell {T : Nat → Prop} {W W' : World} (h : KeepT T W W') {g i : Nat} (hg : ¬ T g) {v : Value} (hc : W.cell? ⟨g, i, none⟩ = some v) : W'.cell? ⟨g, i, none⟩ = some v := by
  obtain ⟨o, ho, hcs⟩ := cells_of_cell hc
  exact (World.cell?_of_block (w := W) (a := ⟨g, i, none⟩) ((h.2 g o ho hcs hg).trans ho.symm)).trans hc
theorem KeepT.blk {T : Nat → Prop} {W W' : World} (h : KeepT T W W') {g : Nat} {t : TypeId} {cs : Array Value} (hb : Blk W g t cs) (hg : ¬ T g) : Blk W' g t cs := h.2 g _ hb rfl hg
end Go.Proofs.Ytlcefchbfjfifaa
end

section
namespace Go.Proofs.Ytlcefchbfjfifaa
open Go.RowKit Cal
attribute [local go_sem] Oper.semAt_some
set_option maxHeartbeats 4000000
set_option maxRecDepth 100000
set_option linter.unusedVariables false
attribute [local irreducible] wpPlan

/-- A span that is handed out. -/
abbrev FSp := { s : Sp // 0 ≤ s.f ∧ s.f < s.t ∧ s.t ≤ 1125899906842624 }
def encSp (s : FSp) : Array Value := #[.agg #[.int .i64 s.1.f, .int .i64 s.1.t]]
theorem AlAt.keep {w w' : World} {g : Nat} {cl : List Sp} {B : Option Addr} {m : Nat} {M T : Nat → Prop} (h : AlAt w g cl B m M) (hg : ¬ T g) (hM : ∀ k, M k → ¬ T k) (hk : KeepT T w w') : AlAt w' g cl B m M := by
  refine ⟨hk.blk h.blk hg, h.row.1, h.row.2.1, fun hn => ?_⟩
  obtain ⟨g', off, e, hl, hm, hc⟩ := h.row.2.2 hn
  exact ⟨g', off, e, Nat.lt_of_lt_of_le hl hk.1, hm, fun j u hj => hk.cell (hM _ hm) (hc j u hj)⟩
end Go.Proofs.Ytlcefchbfjfifaa
end

section
namespace Go.Proofs.Ytlcefchbfjfifaa
open Go.RowKit Cal
set_option maxHeartbeats 4000000
set_option maxRecDepth 100000
set_option linter.unusedVariables false
attribute [local irreducible] wpPlan

end Go.Proofs.Ytlcefchbfjfifaa
end

section
namespace Go.Proofs.Ytlcefchbfjfifaa
open Go.RowKit Cal
set_option maxHeartbeats 4000000
set_option maxRecDepth 100000
set_option linter.unusedVariables false
attribute [local irreducible] wpPlan

theorem CkAt.drew {w : World} {k a p b : Nat} {c : Ca} {G : Nat → Prop} (h : CkAt w k a p b c G) : CkAt w.drew k a p b c G := h.none ((Touch.refl _ _).drew)
def Ck2 (k a p b : Nat) (c : Ca) (G : Nat → Prop) (r : Int × Int) (w : World) (e : Ending) (w' : World) : Prop := CkV k a p b c G (.tuple #[.int .i64 r.1, .int .i64 r.2]) w e w'
theorem Ck2.same {k a p b : Nat} {c : Ca} {G : Nat → Prop} {R r : Int × Int} {x y : Int} {w : World} (h : CkAt w k a p b c G) (h1 : Hid (R = r)) (h2 : x = r.1) (h3 : y = r.2) : Ck2 k a p b c G R w (.returned (.tuple #[.int .i64 x, .int .i64 y])) w := by
  rw [h1.out, Ck2, h2, h3]
  exact ⟨rfl, h.more (Touch.refl (fun _ => False) _) (fun e => e) (fun _ _ e => e), Touch.refl _ _⟩
theorem Ck2.of {k a p b : Nat} {c : Ca} {G : Nat → Prop} {R r : Int × Int} {x y : Int} {w w' : World} (h1 : Hid (R = r)) (h2 : x = r.1) (h3 : y = r.2) (h : CkAt w' k a p b c (More G w w')) (ht : Touch (fun q => q = b) w w') : Ck2 k a p b c G R w (.returned (.tuple #[.int .i64 x, .int .i64 y])) w' := by
  rw [h1.out, Ck2, h2, h3]
  exact ⟨rfl, h, ht⟩
end Go.Proofs.Ytlcefchbfjfifaa
end

section
namespace Go.Proofs.Ytlcefchbfjfifaa
open Go.RowKit Cal
set_option maxHeartbeats 4000000
set_option maxRecDepth 100000
set_option linter.unusedVariables false
attribute [local irreducible] wpPlan

def Bs64P (xs : List Int) (x : Int) (w : World) (e : Ending) (w' : World) : Prop :=
  ∃ (i : Nat) (bl : Bool), i ≤ xs.length ∧ (∀ (j : Nat) (y : Int), xs[j]? = some y → (j < i ↔ y < x)) ∧ e = .returned (.tuple #[.int .i64 i, .bool bl]) ∧ w = w'
def NthR (g : Nat) (wk : List Sp) (b : Nat) (G : Nat → Prop) (n : Int) (w : World) (e : Ending) (w' : World) : Prop :=
  ∃ t, e = .returned (.tuple #[.int .i64 t, .int .i64 0]) ∧ 0 ≤ t ∧ t ≤ 2251799813685248 ∧ hasB wk (t % 604800) = true ∧ U wk t = n ∧ PnAt w' g wk b (More G w w') ∧ Touch (fun q => q = b) w w'
theorem nth_quot {wk : List Sp} (hw : Week wk) {n L : Int} (h0 : 0 ≤ n) (hy : 0 < len wk) (hL0 : 0 ≤ L) (hn : n < U wk L) : 0 ≤ n / len wk ∧ n / len wk ≤ L / 604800 ∧ 0 ≤ n % len wk ∧ n % len wk < len wk := by
  have h1 := within_bd hw.1 (a := 0) (b := L % 604800) (by omega)
  have h2 : within wk 0 (L % 604800) ≤ len wk := by
    have h3 := within_bd hw.1 (a := L % 604800) (b := 604800) (by omega)
    have key : ∀ (l : List Sp) (e x : Int), Row e l → 0 ≤ x → ∀ m : Nat, within l 0 x ≤ within l 0 (x + m) := by
      intro l e x hl hx m
      induction m with
      | zero => simp
      | succ m ih =>
        have := within_step l e 0 (x + m) hl (by omega)
        rw [show x + ((m + 1 : Nat) : Int) = x + m + 1 by omega, this]
        split <;> omega
    have := key wk 0 (L % 604800) hw.1 (by omega) (604800 - L % 604800).toNat
    rw [show L % 604800 + ((604800 - L % 604800).toNat : Int) = 604800 by omega] at this
    rw [hw.len_eq]; exact this
  refine ⟨Int.ediv_nonneg h0 (by omega), ?_, Int.emod_nonneg _ (by omega), Int.emod_lt_of_pos _ hy⟩
  have h4 : n < (L / 604800 + 1) * len wk := by
    unfold U at hn
    rw [Int.add_mul]; omega
  have h5 : n / len wk < L / 604800 + 1 := Int.ediv_lt_of_lt_mul hy h4
  omega
theorem sums_mono {wk : List Sp} (hw : Week wk) : ∀ (i j : Nat) (y z : Int), (sumsN wk wk.length)[i]? = some y → (sumsN wk wk.length)[j]? = some z → i < j → y ≤ z := by
  intro i j y z hi hj hij
  have hjl := (List.getElem?_eq_some_iff.1 hj).1
  rw [sumsN_len] at hjl
  rw [sumsN_get wk _ i (by omega)] at hi
  rw [sumsN_get wk _ j (by omega)] at hj
  injection hi with hi
  injection hj with hj
  subst hi hj
  have e : wk.take j = wk.take i ++ (wk.drop i).take (j - i) := by
    rw [show j = i + (j - i) by omega, List.take_add]; congr 2; omega
  rw [e, longS_append]
  have := longS_nn ((wk.drop i).take (j - i)) (fun s hs => (Row.mem hw.1 s (List.mem_of_mem_drop (List.mem_of_mem_take hs))).2.1)
  omega
/-- What Nth's arithmetic comes to. -/
theorem nth_plain {wk : List Sp} (hw : Week wk) {n L : Int} (h0 : 0 ≤ n) (hy : 0 < len wk) (hL0 : 0 ≤ L) (hL : L ≤ 2251799813685248) (hn : n < U wk L) {i : Nat} (hi : i ≤ wk.length + 1) (hs : ∀ (j : Nat) (y : Int), (sumsN wk wk.length)[j]? = some y → (j < i ↔ y < n % len wk + 1)) :
    1 ≤ i ∧ ∃ s, wk[i - 1]? = some s ∧ 0 ≤ s.f ∧ s.f ≤ 604800 ∧ 0 ≤ longS (wk.take (i - 1)) ∧ longS (wk.take (i - 1)) ≤ n % len wk ∧ (∀ t, t = n / len wk * 604800 + s.f + n % len wk - longS (wk.take (i - 1)) → 0 ≤ t ∧ t ≤ 2251799813685248 ∧ hasB wk (t % 604800) = true ∧ U wk t = n) := by
  obtain ⟨q0, q1, r0, r1⟩ := nth_quot hw h0 hy hL0 hn
  have hN : NthP wk (n % len wk) i := ⟨hi, fun j hj => by
    have := hs j _ (sumsN_get wk wk.length j hj)
    omega⟩
  obtain ⟨i1, s, hs1, k1, k2, k3, k4, k5, k6⟩ := nth_week hw r0 r1 hN
  have hst := Row.getE hw.1 hs1
  have hsw := hw.2.2 _ (List.mem_of_getElem? hs1)
  have hb := sums_bd hw (i - 1)
  refine ⟨i1, s, hs1, k4, by omega, hb.1, k1, fun t ht => ?_⟩
  have e1 : t % 604800 = s.f + n % len wk - longS (wk.take (i - 1)) := by omega
  have e2 : t / 604800 = n / len wk := by omega
  have hU : U wk t = n := by
    unfold U
    rw [e1, e2, k6]
    have := Int.mul_ediv_add_emod n (len wk)
    rw [Int.mul_comm] at this
    exact this
  have ht0 : 0 ≤ t := by omega
  refine ⟨ht0, ?_, by rw [e1]; exact k5, hU⟩
  rcases Int.lt_or_le t L with h | h
  · omega
  · have e3 := cnt_of (p := fun u => hasB wk (u % 604800)) (U wk) h (fun u h1 h2 => U_step hw (by omega))
    have e4 := cnt_pos (p := fun u => hasB wk (u % 604800)) h
    omega
end Go.Proofs.Ytlcefchbfjfifaa
end
