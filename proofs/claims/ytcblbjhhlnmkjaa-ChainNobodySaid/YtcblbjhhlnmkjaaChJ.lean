/- Package chain by a nil clock. (written by genchJ.py) -/
import Derived.Test.YtcblbjhhlnmkjaaChB
import Derived.Test.YtcblbjhhlnmkjaaCbO
namespace Go.Proofs.Ytcblbjhhlnmkjaa
open Go.RowKit Cal
set_option maxHeartbeats 4000000
set_option maxRecDepth 100000
set_option linter.unusedVariables false

theorem nosat_any (lv fr le du now : Int) (w : World) : Calls Try.prog 92 #[.agg #[.int .i64 lv, .int .i64 fr, .int .i64 le, .int .i64 du], .pointer none, .int .i64 now] w (fun e w' => e = .returned (.tuple #[.agg #[.int .i64 0, .int .i64 0, .int .i64 0, .int .i64 0], .int .i64 1]) ∧ Touch (fun _ => False) w w') := by
  have HT0 := Lib.hid (show Touch (fun _ => False) w ((w.alloc (.cells #[.int .i64 lv, .int .i64 fr, .int .i64 le, .int .i64 du] 48)).alloc (.cells #[.int .i64 0, .int .i64 0, .int .i64 0, .int .i64 0] 48)) from ((Touch.refl (fun _ => False) w).alloc (.cells #[.int .i64 lv, .int .i64 fr, .int .i64 le, .int .i64 du] 48)).alloc (.cells #[.int .i64 0, .int .i64 0, .int .i64 0, .int .i64 0] 48))
  have HBX0_0 := Lib.hid (show Blk ((w.alloc (.cells #[.int .i64 lv, .int .i64 fr, .int .i64 le, .int .i64 du] 48)).alloc (.cells #[.int .i64 0, .int .i64 0, .int .i64 0, .int .i64 0] 48)) w.heap.size 48 #[.int .i64 lv, .int .i64 fr, .int .i64 le, .int .i64 du] by simpa using (Blk.new w 48 #[.int .i64 lv, .int .i64 fr, .int .i64 le, .int .i64 du]).alloc (.cells #[.int .i64 0, .int .i64 0, .int .i64 0, .int .i64 0] 48))
  have HBX1_0 := Lib.hid (show Blk ((w.alloc (.cells #[.int .i64 lv, .int .i64 fr, .int .i64 le, .int .i64 du] 48)).alloc (.cells #[.int .i64 0, .int .i64 0, .int .i64 0, .int .i64 0] 48)) (w.heap.size + 1) 48 #[.int .i64 0, .int .i64 0, .int .i64 0, .int .i64 0] by simpa using Blk.new (w.alloc (.cells #[.int .i64 lv, .int .i64 fr, .int .i64 le, .int .i64 du] 48)) 48 #[.int .i64 0, .int .i64 0, .int .i64 0, .int .i64 0])
  go_enter Try.func92, Try.ntmps92
  go_wp2_with (first
    | (go_at_call 120; go_must (refine ((nodue_any none _ _ _ (.inl rfl))).mono ?_); rintro e w1 ⟨rfl, t1⟩; have hz1 := t1.size; (try simp at hz1); have HT1 := Lib.hid ((HT0.out).trans t1 (fun _ _ e => e)); have hb := t1.blk (HBX0_0.out) (fun e => e); have cX0_0 := hb.cell 0; have cX0_1 := hb.cell 1; have cX0_2 := hb.cell 2; have cX0_3 := hb.cell 3; simp at cX0_0 cX0_1 cX0_2 cX0_3; have HBX0_1 := Lib.hid hb; clear hb; have hb := t1.blk (HBX1_0.out) (fun e => e); have cX1_0 := hb.cell 0; have cX1_1 := hb.cell 1; have cX1_2 := hb.cell 2; have cX1_3 := hb.cell 3; simp at cX1_0 cX1_1 cX1_2 cX1_3; have HBX1_1 := Lib.hid hb; clear hb; have z0 := HBX1_1.out.frozen 0; have z1 := HBX1_1.out.frozen 1; have z2 := HBX1_1.out.frozen 2; have z3 := HBX1_1.out.frozen 3; clear t1))
  have hs := ((((HBX1_1.out).set_ 0 (.int .i64 0)).set_ 1 (.int .i64 0)).set_ 2 (.int .i64 0)).set_ 3 (.int .i64 0)
  have e0 := hs.cell 0; have e1 := hs.cell 1; have e2 := hs.cell 2; have e3 := hs.cell 3
  simp at e0 e1 e2 e3
  refine bodyPost_ret (v := .tuple #[.agg #[.int .i64 0, .int .i64 0, .int .i64 0, .int .i64 0], .int .i64 1]) (by simp [results, Try.results92, go_sem, e0, e1, e2, e3]) rfl ?_
  have tf := ((((Touch.refl (fun q => w.heap.size ≤ q) w1).set (b := w.heap.size + 1) (o := 0) (fun _ => by omega) (.int .i64 0)).set (b := w.heap.size + 1) (o := 1) (fun _ => by omega) (.int .i64 0)).set (b := w.heap.size + 1) (o := 2) (fun _ => by omega) (.int .i64 0)).set (b := w.heap.size + 1) (o := 3) (fun _ => by omega) (.int .i64 0)
  exact ⟨rfl, (HT1.out).trans tf (fun q hq e => by omega)⟩
theorem nofirst_any (F : Nat → Prop) (A : Option Addr) (n : Nat) (t : Co) (now : Int) (w : World) (hr : SpR w F A t.lv.length t.lv) (hg : goodB t = true) :
    Calls Try.prog 32 #[.pointer none, .agg #[.int .i64 t.cal, .slice A t.lv.length n, .int .i64 t.rt, .int .i64 t.bk], .int .i64 now] w (fun e w' => e = .returned (.tuple #[.agg #[.int .i64 0, .int .i64 0, .int .i64 0, .int .i64 0], .int .i64 1]) ∧ Touch (fun _ => False) w w') := by
  have HC := Lib.hid (fun w1 hr => kcheck_any F A n t w1 hr)
  have HR := Lib.hid hr
  rw [show goodE t = 0 by rw [goodE, hg]; rfl] at HC
  have hgl := good_hd hg
  have ha : t.lv[0]? = some (t.lv[0]'(by omega)) := List.getElem?_eq_getElem _
  obtain ⟨g, off, rfl, hgh, -, hc0, -⟩ := hr.at_ ha
  generalize t.lv[0]'_ = s0 at *
  obtain ⟨sf, st⟩ := s0
  obtain ⟨cal, lv, rt, bk⟩ := t
  simp only [Nat.zero_mul, Nat.add_zero] at *
  clear hr hg ha
  have HT0 := Lib.hid (show Touch (fun _ => False) w ((w.alloc (.cells #[.int .i64 cal, .slice (some ⟨g, off, none⟩) lv.length n, .int .i64 rt, .int .i64 bk] 28)).alloc (.cells #[.int .i64 0, .int .i64 0, .int .i64 0, .int .i64 0] 48)) from ((Touch.refl (fun _ => False) w).alloc (.cells #[.int .i64 cal, .slice (some ⟨g, off, none⟩) lv.length n, .int .i64 rt, .int .i64 bk] 28)).alloc (.cells #[.int .i64 0, .int .i64 0, .int .i64 0, .int .i64 0] 48))
  have HBX0_0 := Lib.hid (show Blk ((w.alloc (.cells #[.int .i64 cal, .slice (some ⟨g, off, none⟩) lv.length n, .int .i64 rt, .int .i64 bk] 28)).alloc (.cells #[.int .i64 0, .int .i64 0, .int .i64 0, .int .i64 0] 48)) w.heap.size 28 #[.int .i64 cal, .slice (some ⟨g, off, none⟩) lv.length n, .int .i64 rt, .int .i64 bk] by simpa using (Blk.new w 28 #[.int .i64 cal, .slice (some ⟨g, off, none⟩) lv.length n, .int .i64 rt, .int .i64 bk]).alloc (.cells #[.int .i64 0, .int .i64 0, .int .i64 0, .int .i64 0] 48))
  have HBX1_0 := Lib.hid (show Blk ((w.alloc (.cells #[.int .i64 cal, .slice (some ⟨g, off, none⟩) lv.length n, .int .i64 rt, .int .i64 bk] 28)).alloc (.cells #[.int .i64 0, .int .i64 0, .int .i64 0, .int .i64 0] 48)) (w.heap.size + 1) 48 #[.int .i64 0, .int .i64 0, .int .i64 0, .int .i64 0] by simpa using Blk.new (w.alloc (.cells #[.int .i64 cal, .slice (some ⟨g, off, none⟩) lv.length n, .int .i64 rt, .int .i64 bk] 28)) 48 #[.int .i64 0, .int .i64 0, .int .i64 0, .int .i64 0])
  go_enter Try.func32, Try.ntmps32
  go_wp2_with (first
    | (go_at_call 92; have HM2 := HT1; go_must (refine ((nosat_any _ _ _ _ _ _)).mono ?_); rintro e w2 ⟨rfl, t2⟩; have hz2 := t2.size; (try simp at hz2); have HT2 := Lib.hid ((HT1.out).trans t2 (fun _ _ e => e)); have hb := t2.blk (HBX0_1.out) (fun e => e); clear cX0_0 cX0_1 cX0_2 cX0_3; have cX0_0 := hb.cell 0; have cX0_1 := hb.cell 1; have cX0_2 := hb.cell 2; have cX0_3 := hb.cell 3; simp at cX0_0 cX0_1 cX0_2 cX0_3; have HBX0_2 := Lib.hid hb; clear hb; have hb := t2.blk (HBX1_1.out) (fun e => e); clear cX1_0 cX1_1 cX1_2 cX1_3; have cX1_0 := hb.cell 0; have cX1_1 := hb.cell 1; have cX1_2 := hb.cell 2; have cX1_3 := hb.cell 3; simp at cX1_0 cX1_1 cX1_2 cX1_3; have HBX1_2 := Lib.hid hb; clear hb; have z0 := HBX1_2.out.frozen 0; have z1 := HBX1_2.out.frozen 1; have z2 := HBX1_2.out.frozen 2; have z3 := HBX1_2.out.frozen 3; clear t2)
    | (go_at_call 79; go_must (refine ((HC.out _ (by exact HR.out.touch HT0.out (fun _ _ e => e)))).mono ?_); rintro e w1 ⟨rfl, t1⟩; have hz1 := t1.size; (try simp at hz1); have HT1 := Lib.hid ((HT0.out).trans t1 (fun _ _ e => e)); have hb := t1.blk (HBX0_0.out) (fun e => e); have cX0_0 := hb.cell 0; have cX0_1 := hb.cell 1; have cX0_2 := hb.cell 2; have cX0_3 := hb.cell 3; simp at cX0_0 cX0_1 cX0_2 cX0_3; have HBX0_1 := Lib.hid hb; clear hb; have hb := t1.blk (HBX1_0.out) (fun e => e); have cX1_0 := hb.cell 0; have cX1_1 := hb.cell 1; have cX1_2 := hb.cell 2; have cX1_3 := hb.cell 3; simp at cX1_0 cX1_1 cX1_2 cX1_3; have HBX1_1 := Lib.hid hb; clear hb; have l0 : w1.cell? ⟨g, off, none⟩ = some (.int .i64 sf) := (HT1.out.cell (p := ⟨g, off, none⟩) hgh (fun e => e)).trans hc0; have hl0 : (0 : Int) < lv.length := (by omega); clear t1))
  have hs := ((((HBX1_2.out).set_ 0 (.int .i64 0)).set_ 1 (.int .i64 0)).set_ 2 (.int .i64 0)).set_ 3 (.int .i64 0)
  have e0 := hs.cell 0; have e1 := hs.cell 1; have e2 := hs.cell 2; have e3 := hs.cell 3
  simp at e0 e1 e2 e3
  refine bodyPost_ret (v := .tuple #[.agg #[.int .i64 0, .int .i64 0, .int .i64 0, .int .i64 0], .int .i64 1]) (by simp [results, Try.results32, go_sem, e0, e1, e2, e3]) rfl ?_
  have tf := ((((Touch.refl (fun q => w.heap.size ≤ q) w2).set (b := w.heap.size + 1) (o := 0) (fun _ => by omega) (.int .i64 0)).set (b := w.heap.size + 1) (o := 1) (fun _ => by omega) (.int .i64 0)).set (b := w.heap.size + 1) (o := 2) (fun _ => by omega) (.int .i64 0)).set (b := w.heap.size + 1) (o := 3) (fun _ => by omega) (.int .i64 0)
  exact ⟨rfl, (HT2.out).trans tf (fun q hq e => by omega)⟩
theorem nogo_any (now : Int) (w : World) : Calls Try.prog 29 #[.pointer none, .agg #[.int .i64 0, .int .i64 0, .int .i64 1, .int .i64 0], .int .i64 now] w (fun e w' => e = .returned (.tuple #[.agg #[.int .i64 0, .int .i64 0, .int .i64 0, .int .i64 0], .int .i64 1]) ∧ Touch (fun _ => False) w w') := by
  have HT0 := Lib.hid (show Touch (fun _ => False) w ((w.alloc (.cells #[.int .i64 0, .int .i64 0, .int .i64 1, .int .i64 0] 48)).alloc (.cells #[.int .i64 0, .int .i64 0, .int .i64 0, .int .i64 0] 48)) from ((Touch.refl (fun _ => False) w).alloc (.cells #[.int .i64 0, .int .i64 0, .int .i64 1, .int .i64 0] 48)).alloc (.cells #[.int .i64 0, .int .i64 0, .int .i64 0, .int .i64 0] 48))
  have HBX0_0 := Lib.hid (show Blk ((w.alloc (.cells #[.int .i64 0, .int .i64 0, .int .i64 1, .int .i64 0] 48)).alloc (.cells #[.int .i64 0, .int .i64 0, .int .i64 0, .int .i64 0] 48)) w.heap.size 48 #[.int .i64 0, .int .i64 0, .int .i64 1, .int .i64 0] by simpa using (Blk.new w 48 #[.int .i64 0, .int .i64 0, .int .i64 1, .int .i64 0]).alloc (.cells #[.int .i64 0, .int .i64 0, .int .i64 0, .int .i64 0] 48))
  have HBX1_0 := Lib.hid (show Blk ((w.alloc (.cells #[.int .i64 0, .int .i64 0, .int .i64 1, .int .i64 0] 48)).alloc (.cells #[.int .i64 0, .int .i64 0, .int .i64 0, .int .i64 0] 48)) (w.heap.size + 1) 48 #[.int .i64 0, .int .i64 0, .int .i64 0, .int .i64 0] by simpa using Blk.new (w.alloc (.cells #[.int .i64 0, .int .i64 0, .int .i64 1, .int .i64 0] 48)) 48 #[.int .i64 0, .int .i64 0, .int .i64 0, .int .i64 0])
  go_enter Try.func29, Try.ntmps29
  go_wp2_with (first
    | (go_at_call 92; have HM2 := HT1; go_must (refine ((nosat_any _ _ _ _ _ _)).mono ?_); rintro e w2 ⟨rfl, t2⟩; have hz2 := t2.size; (try simp at hz2); have HT2 := Lib.hid ((HT1.out).trans t2 (fun _ _ e => e)); have hb := t2.blk (HBX0_1.out) (fun e => e); clear cX0_0 cX0_1 cX0_2 cX0_3; have cX0_0 := hb.cell 0; have cX0_1 := hb.cell 1; have cX0_2 := hb.cell 2; have cX0_3 := hb.cell 3; simp at cX0_0 cX0_1 cX0_2 cX0_3; have HBX0_2 := Lib.hid hb; clear hb; have hb := t2.blk (HBX1_1.out) (fun e => e); clear cX1_0 cX1_1 cX1_2 cX1_3; have cX1_0 := hb.cell 0; have cX1_1 := hb.cell 1; have cX1_2 := hb.cell 2; have cX1_3 := hb.cell 3; simp at cX1_0 cX1_1 cX1_2 cX1_3; have HBX1_2 := Lib.hid hb; clear hb; have z0 := HBX1_2.out.frozen 0; have z1 := HBX1_2.out.frozen 1; have z2 := HBX1_2.out.frozen 2; have z3 := HBX1_2.out.frozen 3; clear t2)
    | (go_at_call 89; go_must (refine ((going_any 0 0 1 0 _)).mono ?_); rintro e w1 ⟨rfl, t1⟩; have hz1 := t1.size; (try simp at hz1); have HT1 := Lib.hid ((HT0.out).trans t1 (fun _ _ e => e)); have hb := t1.blk (HBX0_0.out) (fun e => e); have cX0_0 := hb.cell 0; have cX0_1 := hb.cell 1; have cX0_2 := hb.cell 2; have cX0_3 := hb.cell 3; simp at cX0_0 cX0_1 cX0_2 cX0_3; have HBX0_1 := Lib.hid hb; clear hb; have hb := t1.blk (HBX1_0.out) (fun e => e); have cX1_0 := hb.cell 0; have cX1_1 := hb.cell 1; have cX1_2 := hb.cell 2; have cX1_3 := hb.cell 3; simp at cX1_0 cX1_1 cX1_2 cX1_3; have HBX1_1 := Lib.hid hb; clear hb; clear t1))
  have hs := ((((HBX1_2.out).set_ 0 (.int .i64 0)).set_ 1 (.int .i64 0)).set_ 2 (.int .i64 0)).set_ 3 (.int .i64 0)
  have e0 := hs.cell 0; have e1 := hs.cell 1; have e2 := hs.cell 2; have e3 := hs.cell 3
  simp at e0 e1 e2 e3
  refine bodyPost_ret (v := .tuple #[.agg #[.int .i64 0, .int .i64 0, .int .i64 0, .int .i64 0], .int .i64 1]) (by simp [results, Try.results29, go_sem, e0, e1, e2, e3]) rfl ?_
  have tf := ((((Touch.refl (fun q => w.heap.size ≤ q) w2).set (b := w.heap.size + 1) (o := 0) (fun _ => by omega) (.int .i64 0)).set (b := w.heap.size + 1) (o := 1) (fun _ => by omega) (.int .i64 0)).set (b := w.heap.size + 1) (o := 2) (fun _ => by omega) (.int .i64 0)).set (b := w.heap.size + 1) (o := 3) (fun _ => by omega) (.int .i64 0)
  exact ⟨rfl, (HT2.out).trans tf (fun q hq e => by omega)⟩
theorem noplan_any15 (F : Nat → Prop) (A : Option Addr) (n : Nat) (t : Co) (now : Int) (w : World) (hr : SpR w F A t.lv.length t.lv) (hg : goodB t = true) :
    Calls Try.prog 36 #[.pointer none, .agg #[.int .i64 t.cal, .slice A t.lv.length n, .int .i64 t.rt, .int .i64 t.bk], .int .i64 now] w (fun e w' => e = .returned (.tuple #[.slice none 0 0, .int .i64 1]) ∧ Touch (fun _ => False) w w') := by
  have HF := Lib.hid (fun w1 hr => nofirst_any F A n t now w1 hr hg)
  have HR := Lib.hid hr
  clear hr hg
  have HT0 := Lib.hid (show Touch (fun _ => False) w (w.alloc (.cells #[.int .i64 t.cal, .slice A t.lv.length n, .int .i64 t.rt, .int .i64 t.bk] 28)) from (Touch.refl (fun _ => False) w).alloc (.cells #[.int .i64 t.cal, .slice A t.lv.length n, .int .i64 t.rt, .int .i64 t.bk] 28))
  have HBX0_0 := Lib.hid (show Blk (w.alloc (.cells #[.int .i64 t.cal, .slice A t.lv.length n, .int .i64 t.rt, .int .i64 t.bk] 28)) w.heap.size 28 #[.int .i64 t.cal, .slice A t.lv.length n, .int .i64 t.rt, .int .i64 t.bk] by simpa using Blk.new w 28 #[.int .i64 t.cal, .slice A t.lv.length n, .int .i64 t.rt, .int .i64 t.bk])
  go_enter Try.func36, Try.ntmps36
  go_wp2
  go_step3
  go_wp2_with (first
    | (go_at_call 32; go_must (refine ((HF.out _ (by exact HR.out.touch HT0.out (fun _ _ e => e)))).mono ?_); rintro e w1 ⟨rfl, t1⟩; have hz1 := t1.size; (try simp at hz1); have HT1 := Lib.hid ((HT0.out).trans t1 (fun _ _ e => e)); have hb := t1.blk (HBX0_0.out) (fun e => e); have cX0_0 : (w1.alloc (.cells #[.int .i64 0, .int .i64 0, .int .i64 0, .int .i64 0] 48)).cell? ⟨w.heap.size, 0, none⟩ = some (.int .i64 t.cal) := (hb.alloc _).cell 0; have cX0_1 : (w1.alloc (.cells #[.int .i64 0, .int .i64 0, .int .i64 0, .int .i64 0] 48)).cell? ⟨w.heap.size, 1, none⟩ = some (.slice A t.lv.length n) := (hb.alloc _).cell 1; have cX0_2 : (w1.alloc (.cells #[.int .i64 0, .int .i64 0, .int .i64 0, .int .i64 0] 48)).cell? ⟨w.heap.size, 2, none⟩ = some (.int .i64 t.rt) := (hb.alloc _).cell 2; have cX0_3 : (w1.alloc (.cells #[.int .i64 0, .int .i64 0, .int .i64 0, .int .i64 0] 48)).cell? ⟨w.heap.size, 3, none⟩ = some (.int .i64 t.bk) := (hb.alloc _).cell 3; have HBX0_1 := Lib.hid hb; clear hb; have hnX0_1 : ¬ w.heap.size = w1.heap.size := (by omega); clear t1))
  go_step3
  go_wp2_with fail
  go_loopw [9, 10] (fun e l wr => e = .int .i64 1 ∧ l = .slice none 0 0 ∧ Touch (fun _ => False) w wr) (fun _ _ _ => 0)
  case atStart => exact ⟨rfl, rfl, HT1.out.alloc _⟩
  case round =>
    obtain ⟨rfl, rfl, hT⟩ := hrel
    have HTr := Lib.hid hT
    clear hT
    go_wp2
    rw [Exit.noGoto_ret]
    go_ret2
    exact ⟨rfl, HTr.out⟩
end Go.Proofs.Ytcblbjhhlnmkjaa
