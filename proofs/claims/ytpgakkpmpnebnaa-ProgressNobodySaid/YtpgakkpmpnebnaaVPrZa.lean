/- Progress: no table: a nil one, one that no call made. -/
import Derived.Test.YtpgakkpmpnebnaaVPrH
namespace Go.Proofs.Ytpgakkpmpnebnaa
open Go.RowKit Go.Maps Prg
attribute [local go_sem] Oper.semAt_some
set_option maxHeartbeats 4000000
set_option maxRecDepth 100000
set_option linter.unusedVariables false

section
variable {F : Fence} {nF : Nat} {ops : Array Oper} {rest : List Oper} {o : Oper} {a : Act} {w : World} {Q : Exit → Act → World → Prop}
theorem run_range_nil {t k e : TypeId} (ht : Try.prog.underlying t = some (.map k e)) (w : World) : (Instr.range t (.map none)).run Try.prog w = .ok (.pointer (some ⟨w.heap.size, 0, none⟩)) (w.alloc (.mapIter none 0 #[] 0)) := by
  simp [Instr.range, run_underlying ht, go_sem]
theorem run_next_nil {r : Nat} {w : World} (ty : TypeId) (h : w.heap[r]? = some (.mapIter none 0 #[] 0)) : (Instr.next (.pointer (some ⟨r, 0, none⟩)) false ty).run Try.prog w = .ok (.tuple #[.bool false]) w := by
  simp only [Instr.next, getObj, Sem.run_bind, Sem.run, h, Result.andThen]
  rfl
theorem rangeN (hg : o.guard = none) (m : Operand) (t : TypeId) (hop : o.op = Op.range t m) {k e : TypeId} (ht : Try.prog.underlying t = some (.map k e)) (hm : a.eval m = .map none)
    (hK : wpList Try.prog ops Q rest (a.put o.dst (.pointer (some ⟨w.heap.size, 0, none⟩))) (w.alloc (.mapIter none 0 #[] 0))) : wpList Try.prog ops Q (o :: rest) a w := by
  refine wpList_plain hg fun K' hK' => ?_
  unfold Oper.wp
  simp [execOp, hop, hm, run_range_nil ht, Result.andThen]
  exact hK' _ _ hK
theorem nextN (hg : o.guard = none) (it : Operand) (hop : o.op = Op.next it false) (r : Nat) (hit : a.eval it = .pointer (some ⟨r, 0, none⟩)) (hr : w.heap[r]? = some (.mapIter none 0 #[] 0))
    (hK : wpList Try.prog ops Q rest (a.put o.dst (.tuple #[.bool false])) w) : wpList Try.prog ops Q (o :: rest) a w := by
  refine wpList_plain hg fun K' hK' => ?_
  unfold Oper.wp
  simp [execOp, hop, hit, run_next_nil _ hr, Result.andThen]
  exact hK' _ _ hK
theorem rangeNIn (hg : o.guard = none) (m : Operand) (t : TypeId) (hop : o.op = Op.range t m) {k e : TypeId} (ht : Try.prog.underlying t = some (.map k e)) (hm : a.eval m = .map none)
    (hK : wpListIn F nF Try.prog ops Q rest (a.put o.dst (.pointer (some ⟨w.heap.size, 0, none⟩))) (w.alloc (.mapIter none 0 #[] 0))) : wpListIn F nF Try.prog ops Q (o :: rest) a w := by
  refine wpListIn_plain hg fun K' hK' => ?_
  unfold Oper.wpIn
  refine ⟨by simp [Oper.about, hop], ?_⟩
  rw [Oper.semAt_plain F _ _ (by rw [hop]; intro c hc'; cases hc')]
  simp [execOp, hop, hm, run_range_nil ht, Result.andThen]
  exact hK' _ _ hK
theorem nextNIn (hg : o.guard = none) (it : Operand) (hop : o.op = Op.next it false) (r : Nat) (hit : a.eval it = .pointer (some ⟨r, 0, none⟩)) (hr : w.heap[r]? = some (.mapIter none 0 #[] 0))
    (hK : wpListIn F nF Try.prog ops Q rest (a.put o.dst (.tuple #[.bool false])) w) : wpListIn F nF Try.prog ops Q (o :: rest) a w := by
  refine wpListIn_plain hg fun K' hK' => ?_
  unfold Oper.wpIn
  refine ⟨by simp [Oper.about, hop], ?_⟩
  rw [Oper.semAt_plain F _ _ (by rw [hop]; intro c hc'; cases hc')]
  simp [execOp, hop, hit, run_next_nil _ hr, Result.andThen]
  exact hK' _ _ hK
end
theorem heap_iter (w : World) (o : Obj) : (w.alloc o).heap[w.heap.size]? = some o := heap_alloc_new w o
/-- No keys. -/
theorem mkIterNo (Bm : Nat) (w : World) (hBm : Bm < w.heap.size) (hm : w.cell? ⟨Bm, 0, none⟩ = some (.map none)) :
    SeqStops Fence.wide 3 Try.prog 105 #[.pointer (some ⟨Bm, 0, none⟩)] I64 (fun ss => ss = []) (fun _ => True) 0 w := fun l J Jx W hW hJ hJx hY h0 => by
  have hm' : W.cell? ⟨Bm, 0, none⟩ = some (.map none) := (hW.cell (p := ⟨Bm, 0, none⟩) hBm).trans hm
  clear hm
  refine callsIn_of_wp Try.func105 rfl trivial ?_ rfl
  simp only [Try.ntmps105, List.size_toArray, List.length_cons, List.length_nil, Nat.reduceAdd, Nat.reduceSub, Array.replicate_succ, Array.replicate_zero, List.push_toArray, List.append_toArray, List.nil_append, List.cons_append]
  gi_wp2_with (first
    | (gi_at_range; refine rangeNIn rfl _ 52 rfl Try.underlying52 rfl ?_)
    | gi_in)
  go_frame
  gi_loopw [3] (fun _ wr => wr = W.alloc (.mapIter none 0 #[] 0)) (fun _ _ => 1)
  case atStart => rfl
  case round =>
    subst hrel
    gi_wp2_with (first
      | (gi_at_next; refine nextNIn rfl _ rfl W.heap.size rfl (heap_iter W _) ?_)
      | gi_in)
    go_end0
    exact ⟨⟨_, rfl⟩, .inl ⟨[], rfl, hJ [] W _ none h0 (World.grownBy_alloc W _ none) (fun r e => by cases e)⟩⟩
/-- No table. -/
def NoTb (v : Value) (w : World) : Prop := v = .pointer none ∨ ∃ g, v = .pointer (some ⟨g, 0, none⟩) ∧ Blk w g 54 #[.map none]
theorem NoTb.touch {v : Value} {w w' : World} {S : Nat → Prop} (h : NoTb v w) (tt : Touch S w w') (hS : ∀ k, k < w.heap.size → ¬ S k) : NoTb v w' := by
  rcases h with h | ⟨g, h, hb⟩
  · exact .inl h
  · exact .inr ⟨g, h, tt.blk hb (hS g hb.lt)⟩
theorem NoTb.none_ {v : Value} {w w' : World} (h : NoTb v w) (tt : Touch (fun _ => False) w w') : NoTb v w' := h.touch tt (fun _ _ e => e)
theorem noline_any (v : Value) (n : Int) (w : World) (h : NoTb v w) (hn : inI n) : Calls Try.prog 60 #[v, .int .i64 n] w fun e w' => e = .returned (.pointer none) ∧ w = w' := by
  rcases h with rfl | ⟨g, rfl, hb⟩
  · go_enter Try.func60, Try.ntmps60
    go_wp2
    go_ret
    exact ⟨rfl, rfl⟩
  · have c0 := hb.cell 0
    simp at c0
    have hlk : (Instr.lookup 52 (.map none) (.int .i64 n) false).run Try.prog w = .ok (.pointer none) w := by
      have := Maps.look_nil (w := w) false lawI Try.underlying52 (zeroPL w) (keyI hn)
      simpa using this
    clear hb
    go_enter Try.func60, Try.ntmps60
    go_wp2
    go_ret
    exact ⟨rfl, rfl⟩
theorem noLine_any (v : Value) (n : Int) (w : World) (h : NoTb v w) (hn : inI n) : Calls Try.prog 18 #[v, .int .i64 n] w fun e w' => e = .returned (.tuple #[.agg (lnC (lineV noneT n)), .bool (noneT n).isSome]) ∧ Touch (fun _ => False) w w' := by
  have HT := Lib.hid ((Touch.refl (fun _ => False) w).alloc (.cells (lnC Ln.z) 43))
  have HN := Lib.hid (noline_any v n _ (h.none_ HT.out) hn)
  clear h
  go_enter Try.func18, Try.ntmps18
  go_wp2_with (go_at_call 60; go_must (refine HN.out.mono ?_); rintro e w1 ⟨rfl, rfl⟩)
  exact bodyPost_ret (v := .tuple #[.agg #[.int .u64 0, .int .u64 0, .int .u64 0, .bool false], .bool false]) (by simp [results, Try.results18, go_sem]) rfl ⟨rfl, HT.out⟩
theorem NoTb.lineC {v : Value} {w : World} (h : NoTb v w) : LineC v noneT w := fun w' t' n hn => noLine_any v n w' (h.none_ t') hn
theorem noTook_any (v : Value) (n : Int) (i : Nat) (w : World) (h : NoTb v w) (hn : inI n) : Calls Try.prog 25 #[v, .int .i64 n, .int .u64 i] w fun e w' => e = .returned (.bool false) ∧ Touch (fun _ => False) w w' := by
  have HN := Lib.hid (noline_any v n w h hn)
  clear h
  go_enter Try.func25, Try.ntmps25
  go_wp2_with (go_at_call 60; go_must (refine HN.out.mono ?_); rintro e w1 ⟨rfl, rfl⟩)
  go_ret
  exact ⟨rfl, Touch.refl _ _⟩
theorem noRefused_any (v : Value) (n : Int) (i : Nat) (w : World) (h : NoTb v w) (hn : inI n) : Calls Try.prog 26 #[v, .int .i64 n, .int .u64 i] w fun e w' => e = .returned (.bool false) ∧ Touch (fun _ => False) w w' := by
  have HN := Lib.hid (noline_any v n w h hn)
  clear h
  go_enter Try.func26, Try.ntmps26
  go_wp2_with (go_at_call 60; go_must (refine HN.out.mono ?_); rintro e w1 ⟨rfl, rfl⟩)
  go_ret
  exact ⟨rfl, Touch.refl _ _⟩
theorem noHeard_any (v : Value) (n : Int) (i : Nat) (w : World) (h : NoTb v w) (hn : inI n) : Calls Try.prog 27 #[v, .int .i64 n, .int .u64 i] w fun e w' => e = .returned (.bool false) ∧ Touch (fun _ => False) w w' := by
  have HN := Lib.hid (noline_any v n w h hn)
  clear h
  go_enter Try.func27, Try.ntmps27
  go_wp2_with (go_at_call 60; go_must (refine HN.out.mono ?_); rintro e w1 ⟨rfl, rfl⟩)
  go_ret
  exact ⟨rfl, Touch.refl _ _⟩
theorem noSet_any (v : Value) (A : Option Addr) (k c : Nat) (i : Nat) (w : World) (h : NoTb v w) : Calls Try.prog 28 #[v, .slice A k c, .int .u64 i] w fun e w' => e = .returned (.bool false) ∧ Touch (fun _ => False) w w' := by
  have hbin : ∀ w, (binOp .eql 52 (.map none) (.map none)).run Try.prog w = .ok (.bool true) w := fun w => by first | rfl | simp [go_sem]
  rcases h with rfl | ⟨g, rfl, hb⟩
  · go_enter Try.func28, Try.ntmps28
    go_wp2
    go_ret
    exact ⟨rfl, (Touch.refl _ w).alloc _⟩
  · have c0 := (hb.alloc (.cells #[.slice A k c] 23)).cell 0
    simp at c0
    have hgl := hb.lt
    clear hb
    go_enter Try.func28, Try.ntmps28
    go_wp2
    go_ret
    exact ⟨rfl, (Touch.refl _ w).alloc _⟩
theorem noNodes_any (v : Value) (w : World) (h : NoTb v w) : Calls Try.prog 24 #[v] w fun e w' => (∃ A c, e = .returned (.slice A 0 c)) ∧ Touch (fun _ => False) w w' := by
  rcases h with rfl | ⟨g, rfl, hb⟩
  · go_enter Try.func24, Try.ntmps24
    go_wp2
    go_ret
    exact ⟨⟨none, 0, rfl⟩, Touch.refl _ _⟩
  · have c0 := hb.cell 0
    simp at c0
    have HT := Lib.hid ((Touch.refl (fun _ => False) w).alloc (.cells #[.map none] 52))
    have HK := Lib.hid (mkeysPg_any none w)
    have hseq := mkIterNo w.heap.size (w.alloc (.cells #[.map none] 52)) (by simp) (by simp)
    have HS := Lib.hid (sortedI_in 105 #[.pointer (some ⟨w.heap.size, 0, none⟩)] (enters_of Try.func105 (by kernel_rfl) rfl) (fun ss => ss = []) 0 (by omega) (fun ss h => by subst h; simp) _ hseq)
    clear hb hseq
    go_enter Try.func24, Try.ntmps24
    go_wp2_with (first
      | (go_at_call 69; go_must (refine HK.out.mono ?_); rintro e w1 ⟨rfl, rfl⟩)
      | (go_at_call 68; go_must (refine HS.out.mono ?_); rintro e w2 ⟨A, c, zs, rfl, ⟨ss, rfl, hz⟩, h2, h3, h4, h5⟩
         have HZ := Lib.hid (show zs.length = 0 by rw [hz]; simp)
         have HX := Lib.hid h5
         clear h2 h3 h4 h5 hz))
    go_ret
    exact ⟨⟨A, c, by rw [← HZ.out]; rfl⟩, HT.out.trans HX.out (fun _ _ e => e)⟩
theorem noLive_any (F0 : Nat → Prop) (A : Option Addr) (c : Nat) (members : List Int) (v : Value) (self : Int) (w : World) (h : NoTb v w) (hr : Rd w F0 A members.length (members.map I64)) (hsm : members.length ≤ 1000000) :
    Calls Try.prog 29 #[v, .slice A members.length c, .int .i64 self] w fun e w' => e = .returned (.bool (liveB noneT members self)) ∧ Touch (fun _ => False) w w' := by
  have hT := ((Touch.refl (fun _ => False) w).alloc (.cells #[v] 28)).alloc (.cells #[.int .i64 self] 3)
  have HT0 := Lib.hid hT
  have HB1 := Lib.hid ((Blk.new w 28 #[v]).alloc (.cells #[.int .i64 self] 3))
  have HB2 := Lib.hid (show Blk ((w.alloc (.cells #[v] 28)).alloc (.cells #[.int .i64 self] 3)) (w.heap.size + 1) 3 #[.int .i64 self] by simpa using Blk.new (w.alloc (.cells #[v] 28)) 3 #[.int .i64 self])
  have HRc := Lib.hid (mreachedL_any F0 A c members v noneT self w.heap.size (w.heap.size + 1) _ (hr.touch hT (fun _ _ e => e)) hsm HB1.out HB2.out (h.lineC.touch hT))
  obtain ⟨lb, hlb⟩ : ∃ lb, lb = liveB noneT members self := ⟨_, rfl⟩
  rw [← hlb] at HRc ⊢
  have HH := Lib.hid (h.none_ hT)
  clear hr hT hlb
  rcases h with rfl | ⟨g, rfl, hb⟩
  · go_enter Try.func29, Try.ntmps29
    go_wp2_with (go_at_call 73; go_must (refine HRc.out.mono ?_); rintro e w1 ⟨rfl, t1⟩; have HT1 := Lib.hid (HT0.out.trans t1 (fun _ _ e => e)); have c1 := (t1.blk HB1.out (fun e => e)).cell 0; simp at c1; clear t1)
    go_ret
    exact ⟨rfl, HT1.out⟩
  · have HG := Lib.hid (HT0.out.blk hb (fun e => e))
    clear hb
    go_enter Try.func29, Try.ntmps29
    go_wp2_with (first
      | (go_at_call 73; go_must (refine HRc.out.mono ?_); rintro e w1 ⟨rfl, t1⟩; have HT1 := Lib.hid (HT0.out.trans t1 (fun _ _ e => e)); have c1 := (t1.blk HB1.out (fun e => e)).cell 0; simp at c1; have q0 := (t1.blk HG.out (fun e => e)).cell 0; simp at q0; clear t1)
      | (at_range; refine rangeN rfl _ 52 rfl Try.underlying52 rfl ?_))
    go_frame
    go_loopw [9] (fun _ wr => wr = w1.alloc (.mapIter none 0 #[] 0)) (fun _ _ => 1)
    case atStart => rfl
    case round =>
      subst hrel
      go_wp2_with (at_next; refine nextN rfl _ rfl w1.heap.size rfl (heap_iter w1 _) ?_)
      go_ret
      exact ⟨rfl, HT1.out.alloc _⟩
end Go.Proofs.Ytpgakkpmpnebnaa
