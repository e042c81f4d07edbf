/- The reference of chapter 15: begin, First, Stand, Go. (written by genchC.py) -/
import Derived.Test.YtcblbjhhlnmkjaaVChB
import Derived.Test.YtcblbjhhlnmkjaaCalF
namespace Go.Proofs.Ytcblbjhhlnmkjaa
open Go.RowKit Cal
set_option maxHeartbeats 4000000
set_option maxRecDepth 100000
set_option linter.unusedVariables false
attribute [local irreducible] wpPlan

theorem fbegin_any (F : Nat → Prop) (B D : Option Addr) (m l : Nat) (c : Ca) (lv le now : Int) (w : World) (hr : CaR w F c B D) (hc : c.Ok) (hy : le ≤ 9223372036854775807) :
    Calls Try.prog 93 #[.agg #[.int .i64 c.off, .slice B c.wk.length m, .slice D c.cl.length l], .int .i64 lv, .int .i64 le, .int .i64 now] w (ElS (begV c lv le now) w) := by
  have ht0 : Touch (fun _ => False) w ((w.alloc (.cells #[.int .i64 c.off, .slice B c.wk.length m, .slice D c.cl.length l] 25)).alloc (.cells #[.int .i64 0, .int .i64 0, .int .i64 0, .int .i64 0] 56)) := ((Touch.refl _ w).alloc _).alloc _
  have HT0 := Lib.hid ht0
  have HB0 := Lib.hid (show Blk ((w.alloc (.cells #[.int .i64 c.off, .slice B c.wk.length m, .slice D c.cl.length l] 25)).alloc (.cells #[.int .i64 0, .int .i64 0, .int .i64 0, .int .i64 0] 56)) w.heap.size 25 #[.int .i64 c.off, .slice B c.wk.length m, .slice D c.cl.length l] by simpa using (Blk.new w 25 #[.int .i64 c.off, .slice B c.wk.length m, .slice D c.cl.length l]).alloc (.cells #[.int .i64 0, .int .i64 0, .int .i64 0, .int .i64 0] 56))
  have HB1 := Lib.hid (show Blk ((w.alloc (.cells #[.int .i64 c.off, .slice B c.wk.length m, .slice D c.cl.length l] 25)).alloc (.cells #[.int .i64 0, .int .i64 0, .int .i64 0, .int .i64 0] 56)) (w.heap.size + 1) 56 #[.int .i64 0, .int .i64 0, .int .i64 0, .int .i64 0] by simpa using Blk.new (w.alloc (.cells #[.int .i64 c.off, .slice B c.wk.length m, .slice D c.cl.length l] 25)) 56 #[.int .i64 0, .int .i64 0, .int .i64 0, .int .i64 0])
  clear ht0
  have HR := Lib.hid hr
  have HV := Lib.hid (show begV c lv le now = if (c.due now le).2 = 0 then (⟨lv, now, le, (c.due now le).1⟩, 0) else (St.z, (c.due now le).2) from rfl)
  have HD := Lib.hid (fun w1 hr => fdue_any F B D m l c now le w1 hr hc hy)
  generalize c.due now le = d at *
  generalize begV c lv le now = r at *
  clear hr hc hy
  by_cases hd : d.2 = 0
  · have HW := Lib.hid (show r = (⟨lv, now, le, d.1⟩, 0) by rw [HV.out, if_pos hd])
    go_enter Try.func93, Try.ntmps93
    go_wp2_with (go_at_call 121; go_must (refine (HD.out _ (by exact HR.out.touch HT0.out (fun _ _ e => e))).mono ?_); rintro e w1 ⟨rfl, t1⟩; rw [hd]; have HT1 := Lib.hid (HT0.out.trans t1 (fun _ _ e => e)); have hz1 := t1.size; (try simp at hz1); have hb1 := t1.blk HB1.out (fun e => e); have p0 := hb1.cell 0; have p1 := hb1.cell 1; have p2 := hb1.cell 2; have p3 := hb1.cell 3; simp at p0 p1 p2 p3; have z0 := hb1.frozen 0; have z1 := hb1.frozen 1; have z2 := hb1.frozen 2; have z3 := hb1.frozen 3; have HB1_1 := Lib.hid hb1; clear hb1; clear t1)
    have hs := ((((HB1_1.out).set_ 0 (.int .i64 lv)).set_ 1 (.int .i64 now)).set_ 2 (.int .i64 le)).set_ 3 (.int .i64 d.1)
    have e0 := hs.cell 0; have e1 := hs.cell 1; have e2 := hs.cell 2; have e3 := hs.cell 3
    simp at e0 e1 e2 e3
    refine bodyPost_ret (v := .tuple #[.agg #[.int .i64 lv, .int .i64 now, .int .i64 le, .int .i64 d.1], .int .i64 0]) (by simp [results, Try.results93, go_sem, e0, e1, e2, e3]) rfl ?_
    have tf := ((((Touch.refl (fun q => w.heap.size ≤ q) w1).set (b := w.heap.size + 1) (o := 0) (fun _ => by omega) (.int .i64 lv)).set (b := w.heap.size + 1) (o := 1) (fun _ => by omega) (.int .i64 now)).set (b := w.heap.size + 1) (o := 2) (fun _ => by omega) (.int .i64 le)).set (b := w.heap.size + 1) (o := 3) (fun _ => by omega) (.int .i64 d.1)
    rw [HW.out]
    exact ⟨rfl, (HT1.out).trans tf (fun q hq e => by omega)⟩
  · have HW := Lib.hid (show r = (St.z, d.2) by rw [HV.out, if_neg hd])
    have hdb : (d.2 != 0) = true := by simpa using hd
    go_enter Try.func93, Try.ntmps93
    go_wp2_with (go_at_call 121; go_must (refine (HD.out _ (by exact HR.out.touch HT0.out (fun _ _ e => e))).mono ?_); rintro e w1 ⟨rfl, t1⟩; have HT1 := Lib.hid (HT0.out.trans t1 (fun _ _ e => e)); have hz1 := t1.size; (try simp at hz1); have hb1 := t1.blk HB1.out (fun e => e); have p0 := hb1.cell 0; have p1 := hb1.cell 1; have p2 := hb1.cell 2; have p3 := hb1.cell 3; simp at p0 p1 p2 p3; have z0 := hb1.frozen 0; have z1 := hb1.frozen 1; have z2 := hb1.frozen 2; have z3 := hb1.frozen 3; have HB1_1 := Lib.hid hb1; clear hb1; clear t1)
    have hs := ((((HB1_1.out).set_ 0 (.int .i64 0)).set_ 1 (.int .i64 0)).set_ 2 (.int .i64 0)).set_ 3 (.int .i64 0)
    have e0 := hs.cell 0; have e1 := hs.cell 1; have e2 := hs.cell 2; have e3 := hs.cell 3
    simp at e0 e1 e2 e3
    refine bodyPost_ret (v := .tuple #[.agg #[.int .i64 0, .int .i64 0, .int .i64 0, .int .i64 0], .int .i64 d.2]) (by simp [results, Try.results93, go_sem, e0, e1, e2, e3]) rfl ?_
    have tf := ((((Touch.refl (fun q => w.heap.size ≤ q) w1).set (b := w.heap.size + 1) (o := 0) (fun _ => by omega) (.int .i64 0)).set (b := w.heap.size + 1) (o := 1) (fun _ => by omega) (.int .i64 0)).set (b := w.heap.size + 1) (o := 2) (fun _ => by omega) (.int .i64 0)).set (b := w.heap.size + 1) (o := 3) (fun _ => by omega) (.int .i64 0)
    rw [HW.out]
    exact ⟨rfl, (HT1.out).trans tf (fun q hq e => by omega)⟩
theorem fstand_any (F : Nat → Prop) (B D : Option Addr) (m l : Nat) (c : Ca) (x : St) (now : Int) (w : World) (hr : CaR w F c B D) (hc : c.Ok) (hy : x.le ≤ 9223372036854775807) :
    Calls Try.prog 28 #[.agg #[.int .i64 c.off, .slice B c.wk.length m, .slice D c.cl.length l], .agg #[.int .i64 x.lv, .int .i64 x.fr, .int .i64 x.le, .int .i64 x.du], .int .i64 now] w (ElS (standV c x now) w) := by
  obtain ⟨lv, fr, le, du⟩ := x
  simp only at *
  have ht0 : Touch (fun _ => False) w (((w.alloc (.cells #[.int .i64 c.off, .slice B c.wk.length m, .slice D c.cl.length l] 25)).alloc (.cells #[.int .i64 lv, .int .i64 fr, .int .i64 le, .int .i64 du] 56)).alloc (.cells #[.int .i64 0, .int .i64 0, .int .i64 0, .int .i64 0] 56)) := (((Touch.refl _ w).alloc _).alloc _).alloc _
  have HT0 := Lib.hid ht0
  have HB0 := Lib.hid (show Blk (((w.alloc (.cells #[.int .i64 c.off, .slice B c.wk.length m, .slice D c.cl.length l] 25)).alloc (.cells #[.int .i64 lv, .int .i64 fr, .int .i64 le, .int .i64 du] 56)).alloc (.cells #[.int .i64 0, .int .i64 0, .int .i64 0, .int .i64 0] 56)) w.heap.size 25 #[.int .i64 c.off, .slice B c.wk.length m, .slice D c.cl.length l] by simpa using ((Blk.new w 25 #[.int .i64 c.off, .slice B c.wk.length m, .slice D c.cl.length l]).alloc (.cells #[.int .i64 lv, .int .i64 fr, .int .i64 le, .int .i64 du] 56)).alloc (.cells #[.int .i64 0, .int .i64 0, .int .i64 0, .int .i64 0] 56))
  have HB1 := Lib.hid (show Blk (((w.alloc (.cells #[.int .i64 c.off, .slice B c.wk.length m, .slice D c.cl.length l] 25)).alloc (.cells #[.int .i64 lv, .int .i64 fr, .int .i64 le, .int .i64 du] 56)).alloc (.cells #[.int .i64 0, .int .i64 0, .int .i64 0, .int .i64 0] 56)) (w.heap.size + 1) 56 #[.int .i64 lv, .int .i64 fr, .int .i64 le, .int .i64 du] by simpa using (Blk.new (w.alloc (.cells #[.int .i64 c.off, .slice B c.wk.length m, .slice D c.cl.length l] 25)) 56 #[.int .i64 lv, .int .i64 fr, .int .i64 le, .int .i64 du]).alloc (.cells #[.int .i64 0, .int .i64 0, .int .i64 0, .int .i64 0] 56))
  have HB2 := Lib.hid (show Blk (((w.alloc (.cells #[.int .i64 c.off, .slice B c.wk.length m, .slice D c.cl.length l] 25)).alloc (.cells #[.int .i64 lv, .int .i64 fr, .int .i64 le, .int .i64 du] 56)).alloc (.cells #[.int .i64 0, .int .i64 0, .int .i64 0, .int .i64 0] 56)) (w.heap.size + 2) 56 #[.int .i64 0, .int .i64 0, .int .i64 0, .int .i64 0] by simpa using Blk.new ((w.alloc (.cells #[.int .i64 c.off, .slice B c.wk.length m, .slice D c.cl.length l] 25)).alloc (.cells #[.int .i64 lv, .int .i64 fr, .int .i64 le, .int .i64 du] 56)) 56 #[.int .i64 0, .int .i64 0, .int .i64 0, .int .i64 0])
  clear ht0
  have HR := Lib.hid hr
  have HV := Lib.hid (show standV c ⟨lv, fr, le, du⟩ now = if du = 0 then (St.z, 33) else if du ≤ now then (St.z, 34) else if (c.rest fr le now).2 = 0 then (⟨lv, now, (c.rest fr le now).1, 0⟩, 0) else (St.z, (c.rest fr le now).2) from rfl)
  have HD := Lib.hid (fun w1 hr => frest_any F B D m l c fr le now w1 hr hc hy)
  generalize c.rest fr le now = d at *
  generalize standV c ⟨lv, fr, le, du⟩ now = r at *
  clear hr hc hy
  by_cases h0 : du = 0
  · have HW := Lib.hid (show r = (St.z, 33) by rw [HV.out, if_pos h0])
    clear HD
    subst h0
    go_enter Try.func28, Try.ntmps28
    go_wp2_with fail
    refine bodyPost_ret (v := .tuple #[.agg #[.int .i64 0, .int .i64 0, .int .i64 0, .int .i64 0], .int .i64 33]) (by simp [results, Try.results28, go_sem]) rfl ?_
    rw [HW.out]
    refine ⟨rfl, ?_⟩
    first
      | exact HT0.out
      | exact HT0.out.trans (((((Touch.refl (fun q => w.heap.size ≤ q) (((w.alloc (.cells #[.int .i64 c.off, .slice B c.wk.length m, .slice D c.cl.length l] 25)).alloc (.cells #[.int .i64 lv, .int .i64 fr, .int .i64 le, .int .i64 du] 56)).alloc (.cells #[.int .i64 0, .int .i64 0, .int .i64 0, .int .i64 0] 56))).set (b := w.heap.size + 2) (o := 0) (fun _ => by omega) (.int .i64 0)).set (b := w.heap.size + 2) (o := 1) (fun _ => by omega) (.int .i64 0)).set (b := w.heap.size + 2) (o := 2) (fun _ => by omega) (.int .i64 0)).set (b := w.heap.size + 2) (o := 3) (fun _ => by omega) (.int .i64 0)) (fun q hq e => by omega)
  by_cases h1 : du ≤ now
  · have HW := Lib.hid (show r = (St.z, 34) by rw [HV.out, if_neg h0, if_pos h1])
    clear HD
    go_enter Try.func28, Try.ntmps28
    go_wp2_with fail
    refine bodyPost_ret (v := .tuple #[.agg #[.int .i64 0, .int .i64 0, .int .i64 0, .int .i64 0], .int .i64 34]) (by simp [results, Try.results28, go_sem]) rfl ?_
    rw [HW.out]
    refine ⟨rfl, ?_⟩
    first
      | exact HT0.out
      | exact HT0.out.trans (((((Touch.refl (fun q => w.heap.size ≤ q) (((w.alloc (.cells #[.int .i64 c.off, .slice B c.wk.length m, .slice D c.cl.length l] 25)).alloc (.cells #[.int .i64 lv, .int .i64 fr, .int .i64 le, .int .i64 du] 56)).alloc (.cells #[.int .i64 0, .int .i64 0, .int .i64 0, .int .i64 0] 56))).set (b := w.heap.size + 2) (o := 0) (fun _ => by omega) (.int .i64 0)).set (b := w.heap.size + 2) (o := 1) (fun _ => by omega) (.int .i64 0)).set (b := w.heap.size + 2) (o := 2) (fun _ => by omega) (.int .i64 0)).set (b := w.heap.size + 2) (o := 3) (fun _ => by omega) (.int .i64 0)) (fun q hq e => by omega)
  have HV2 := Lib.hid (HV.out.trans ((if_neg h0).trans (if_neg h1)))
  clear HV
  by_cases hd : d.2 = 0
  · have HW := Lib.hid (HV2.out.trans (if_pos hd))
    go_enter Try.func28, Try.ntmps28
    go_wp2_with (go_at_call 91; go_must (refine (HD.out _ (by exact HR.out.touch HT0.out (fun _ _ e => e))).mono ?_); rintro e w1 ⟨rfl, t1⟩; rw [hd]; have HT1 := Lib.hid (HT0.out.trans t1 (fun _ _ e => e)); have hz1 := t1.size; (try simp at hz1); have hb1 := t1.blk HB1.out (fun e => e); have q0 := hb1.cell 0; have q1 := hb1.cell 1; have q2 := hb1.cell 2; have q3 := hb1.cell 3; simp at q0 q1 q2 q3; have HB1_1 := Lib.hid hb1; clear hb1; have hb2 := t1.blk HB2.out (fun e => e); have p0 := hb2.cell 0; have p1 := hb2.cell 1; have p2 := hb2.cell 2; have p3 := hb2.cell 3; simp at p0 p1 p2 p3; have z0 := hb2.frozen 0; have z1 := hb2.frozen 1; have z2 := hb2.frozen 2; have z3 := hb2.frozen 3; have HB2_1 := Lib.hid hb2; clear hb2; clear t1)
    have hs := ((((HB2_1.out).set_ 0 (.int .i64 lv)).set_ 1 (.int .i64 now)).set_ 2 (.int .i64 d.1)).set_ 3 (.int .i64 0)
    have e0 := hs.cell 0; have e1 := hs.cell 1; have e2 := hs.cell 2; have e3 := hs.cell 3
    simp at e0 e1 e2 e3
    refine bodyPost_ret (v := .tuple #[.agg #[.int .i64 lv, .int .i64 now, .int .i64 d.1, .int .i64 0], .int .i64 0]) (by simp [results, Try.results28, go_sem, e0, e1, e2, e3]) rfl ?_
    have tf := ((((Touch.refl (fun q => w.heap.size ≤ q) w1).set (b := w.heap.size + 2) (o := 0) (fun _ => by omega) (.int .i64 lv)).set (b := w.heap.size + 2) (o := 1) (fun _ => by omega) (.int .i64 now)).set (b := w.heap.size + 2) (o := 2) (fun _ => by omega) (.int .i64 d.1)).set (b := w.heap.size + 2) (o := 3) (fun _ => by omega) (.int .i64 0)
    rw [HW.out]
    exact ⟨rfl, (HT1.out).trans tf (fun q hq e => by omega)⟩
  · have HW := Lib.hid (HV2.out.trans (if_neg hd))
    have hdb : (d.2 != 0) = true := by simpa using hd
    go_enter Try.func28, Try.ntmps28
    go_wp2_with (go_at_call 91; go_must (refine (HD.out _ (by exact HR.out.touch HT0.out (fun _ _ e => e))).mono ?_); rintro e w1 ⟨rfl, t1⟩; have HT1 := Lib.hid (HT0.out.trans t1 (fun _ _ e => e)); have hz1 := t1.size; (try simp at hz1); have hb1 := t1.blk HB1.out (fun e => e); have q0 := hb1.cell 0; have q1 := hb1.cell 1; have q2 := hb1.cell 2; have q3 := hb1.cell 3; simp at q0 q1 q2 q3; have HB1_1 := Lib.hid hb1; clear hb1; have hb2 := t1.blk HB2.out (fun e => e); have p0 := hb2.cell 0; have p1 := hb2.cell 1; have p2 := hb2.cell 2; have p3 := hb2.cell 3; simp at p0 p1 p2 p3; have z0 := hb2.frozen 0; have z1 := hb2.frozen 1; have z2 := hb2.frozen 2; have z3 := hb2.frozen 3; have HB2_1 := Lib.hid hb2; clear hb2; clear t1)
    have hs := ((((HB2_1.out).set_ 0 (.int .i64 0)).set_ 1 (.int .i64 0)).set_ 2 (.int .i64 0)).set_ 3 (.int .i64 0)
    have e0 := hs.cell 0; have e1 := hs.cell 1; have e2 := hs.cell 2; have e3 := hs.cell 3
    simp at e0 e1 e2 e3
    refine bodyPost_ret (v := .tuple #[.agg #[.int .i64 0, .int .i64 0, .int .i64 0, .int .i64 0], .int .i64 d.2]) (by simp [results, Try.results28, go_sem, e0, e1, e2, e3]) rfl ?_
    have tf := ((((Touch.refl (fun q => w.heap.size ≤ q) w1).set (b := w.heap.size + 2) (o := 0) (fun _ => by omega) (.int .i64 0)).set (b := w.heap.size + 2) (o := 1) (fun _ => by omega) (.int .i64 0)).set (b := w.heap.size + 2) (o := 2) (fun _ => by omega) (.int .i64 0)).set (b := w.heap.size + 2) (o := 3) (fun _ => by omega) (.int .i64 0)
    rw [HW.out]
    exact ⟨rfl, (HT1.out).trans tf (fun q hq e => by omega)⟩
theorem fgo_any (F : Nat → Prop) (B D : Option Addr) (m l : Nat) (c : Ca) (x : St) (now : Int) (w : World) (hr : CaR w F c B D) (hc : c.Ok) (hy : x.le ≤ 9223372036854775807) :
    Calls Try.prog 30 #[.agg #[.int .i64 c.off, .slice B c.wk.length m, .slice D c.cl.length l], .agg #[.int .i64 x.lv, .int .i64 x.fr, .int .i64 x.le, .int .i64 x.du], .int .i64 now] w (ElS (goV c x now) w) := by
  obtain ⟨lv, fr, le, du⟩ := x
  simp only at *
  have ht0 : Touch (fun _ => False) w (((w.alloc (.cells #[.int .i64 c.off, .slice B c.wk.length m, .slice D c.cl.length l] 25)).alloc (.cells #[.int .i64 lv, .int .i64 fr, .int .i64 le, .int .i64 du] 56)).alloc (.cells #[.int .i64 0, .int .i64 0, .int .i64 0, .int .i64 0] 56)) := (((Touch.refl _ w).alloc _).alloc _).alloc _
  have HT0 := Lib.hid ht0
  have HB0 := Lib.hid (show Blk (((w.alloc (.cells #[.int .i64 c.off, .slice B c.wk.length m, .slice D c.cl.length l] 25)).alloc (.cells #[.int .i64 lv, .int .i64 fr, .int .i64 le, .int .i64 du] 56)).alloc (.cells #[.int .i64 0, .int .i64 0, .int .i64 0, .int .i64 0] 56)) w.heap.size 25 #[.int .i64 c.off, .slice B c.wk.length m, .slice D c.cl.length l] by simpa using ((Blk.new w 25 #[.int .i64 c.off, .slice B c.wk.length m, .slice D c.cl.length l]).alloc (.cells #[.int .i64 lv, .int .i64 fr, .int .i64 le, .int .i64 du] 56)).alloc (.cells #[.int .i64 0, .int .i64 0, .int .i64 0, .int .i64 0] 56))
  have HB1 := Lib.hid (show Blk (((w.alloc (.cells #[.int .i64 c.off, .slice B c.wk.length m, .slice D c.cl.length l] 25)).alloc (.cells #[.int .i64 lv, .int .i64 fr, .int .i64 le, .int .i64 du] 56)).alloc (.cells #[.int .i64 0, .int .i64 0, .int .i64 0, .int .i64 0] 56)) (w.heap.size + 1) 56 #[.int .i64 lv, .int .i64 fr, .int .i64 le, .int .i64 du] by simpa using (Blk.new (w.alloc (.cells #[.int .i64 c.off, .slice B c.wk.length m, .slice D c.cl.length l] 25)) 56 #[.int .i64 lv, .int .i64 fr, .int .i64 le, .int .i64 du]).alloc (.cells #[.int .i64 0, .int .i64 0, .int .i64 0, .int .i64 0] 56))
  have HB2 := Lib.hid (show Blk (((w.alloc (.cells #[.int .i64 c.off, .slice B c.wk.length m, .slice D c.cl.length l] 25)).alloc (.cells #[.int .i64 lv, .int .i64 fr, .int .i64 le, .int .i64 du] 56)).alloc (.cells #[.int .i64 0, .int .i64 0, .int .i64 0, .int .i64 0] 56)) (w.heap.size + 2) 56 #[.int .i64 0, .int .i64 0, .int .i64 0, .int .i64 0] by simpa using Blk.new ((w.alloc (.cells #[.int .i64 c.off, .slice B c.wk.length m, .slice D c.cl.length l] 25)).alloc (.cells #[.int .i64 lv, .int .i64 fr, .int .i64 le, .int .i64 du] 56)) 56 #[.int .i64 0, .int .i64 0, .int .i64 0, .int .i64 0])
  clear ht0
  have HR := Lib.hid hr
  have HV := Lib.hid (show goV c ⟨lv, fr, le, du⟩ now = if du ≠ 0 then (St.z, 33) else if le < 1 then (St.z, 2) else begV c lv le now from rfl)
  have HD := Lib.hid (fun w1 hr => fbegin_any F B D m l c lv le now w1 hr hc hy)
  generalize goV c ⟨lv, fr, le, du⟩ now = r at *
  generalize begV c lv le now = d at *
  clear hr hc hy
  by_cases h0 : du ≠ 0
  · have HW := Lib.hid (show r = (St.z, 33) by rw [HV.out, if_pos h0])
    have hdu : (du != 0) = true := by simpa using h0
    clear HD
    go_enter Try.func30, Try.ntmps30
    go_wp2_with fail
    refine bodyPost_ret (v := .tuple #[.agg #[.int .i64 0, .int .i64 0, .int .i64 0, .int .i64 0], .int .i64 33]) (by simp [results, Try.results30, go_sem]) rfl ?_
    rw [HW.out]
    refine ⟨rfl, ?_⟩
    first
      | exact HT0.out
      | exact HT0.out.trans (((((Touch.refl (fun q => w.heap.size ≤ q) (((w.alloc (.cells #[.int .i64 c.off, .slice B c.wk.length m, .slice D c.cl.length l] 25)).alloc (.cells #[.int .i64 lv, .int .i64 fr, .int .i64 le, .int .i64 du] 56)).alloc (.cells #[.int .i64 0, .int .i64 0, .int .i64 0, .int .i64 0] 56))).set (b := w.heap.size + 2) (o := 0) (fun _ => by omega) (.int .i64 0)).set (b := w.heap.size + 2) (o := 1) (fun _ => by omega) (.int .i64 0)).set (b := w.heap.size + 2) (o := 2) (fun _ => by omega) (.int .i64 0)).set (b := w.heap.size + 2) (o := 3) (fun _ => by omega) (.int .i64 0)) (fun q hq e => by omega)
  by_cases h1 : le < 1
  · have HW := Lib.hid (show r = (St.z, 2) by rw [HV.out, if_neg h0, if_pos h1])
    have h0 : du = 0 := by omega
    subst h0
    clear HD
    go_enter Try.func30, Try.ntmps30
    go_wp2_with fail
    refine bodyPost_ret (v := .tuple #[.agg #[.int .i64 0, .int .i64 0, .int .i64 0, .int .i64 0], .int .i64 2]) (by simp [results, Try.results30, go_sem]) rfl ?_
    rw [HW.out]
    refine ⟨rfl, ?_⟩
    first
      | exact HT0.out
      | exact HT0.out.trans (((((Touch.refl (fun q => w.heap.size ≤ q) (((w.alloc (.cells #[.int .i64 c.off, .slice B c.wk.length m, .slice D c.cl.length l] 25)).alloc (.cells #[.int .i64 lv, .int .i64 fr, .int .i64 le, .int .i64 du] 56)).alloc (.cells #[.int .i64 0, .int .i64 0, .int .i64 0, .int .i64 0] 56))).set (b := w.heap.size + 2) (o := 0) (fun _ => by omega) (.int .i64 0)).set (b := w.heap.size + 2) (o := 1) (fun _ => by omega) (.int .i64 0)).set (b := w.heap.size + 2) (o := 2) (fun _ => by omega) (.int .i64 0)).set (b := w.heap.size + 2) (o := 3) (fun _ => by omega) (.int .i64 0)) (fun q hq e => by omega)
  · have HW := Lib.hid (HV.out.trans ((if_neg h0).trans (if_neg h1)))
    have h0 : du = 0 := by omega
    subst h0
    go_enter Try.func30, Try.ntmps30
    go_wp2_with (go_at_call 93; go_must (refine (HD.out _ (by exact HR.out.touch HT0.out (fun _ _ e => e))).mono ?_); rintro e w1 ⟨rfl, t1⟩; have HT1 := Lib.hid (HT0.out.trans t1 (fun _ _ e => e)); have hz1 := t1.size; (try simp at hz1); have hb1 := t1.blk HB1.out (fun e => e); have q0 := hb1.cell 0; have q1 := hb1.cell 1; have q2 := hb1.cell 2; have q3 := hb1.cell 3; simp at q0 q1 q2 q3; have HB1_1 := Lib.hid hb1; clear hb1; have hb2 := t1.blk HB2.out (fun e => e); have p0 := hb2.cell 0; have p1 := hb2.cell 1; have p2 := hb2.cell 2; have p3 := hb2.cell 3; simp at p0 p1 p2 p3; have z0 := hb2.frozen 0; have z1 := hb2.frozen 1; have z2 := hb2.frozen 2; have z3 := hb2.frozen 3; have HB2_1 := Lib.hid hb2; clear hb2; clear t1)
    have hs := ((((HB2_1.out).set_ 0 (.int .i64 d.1.lv)).set_ 1 (.int .i64 d.1.fr)).set_ 2 (.int .i64 d.1.le)).set_ 3 (.int .i64 d.1.du)
    have e0 := hs.cell 0; have e1 := hs.cell 1; have e2 := hs.cell 2; have e3 := hs.cell 3
    simp at e0 e1 e2 e3
    refine bodyPost_ret (v := .tuple #[.agg #[.int .i64 d.1.lv, .int .i64 d.1.fr, .int .i64 d.1.le, .int .i64 d.1.du], .int .i64 d.2]) (by simp [results, Try.results30, go_sem, e0, e1, e2, e3]) rfl ?_
    have tf := ((((Touch.refl (fun q => w.heap.size ≤ q) w1).set (b := w.heap.size + 2) (o := 0) (fun _ => by omega) (.int .i64 d.1.lv)).set (b := w.heap.size + 2) (o := 1) (fun _ => by omega) (.int .i64 d.1.fr)).set (b := w.heap.size + 2) (o := 2) (fun _ => by omega) (.int .i64 d.1.le)).set (b := w.heap.size + 2) (o := 3) (fun _ => by omega) (.int .i64 d.1.du)
    rw [HW.out]
    exact ⟨rfl, (HT1.out).trans tf (fun q hq e => by omega)⟩
theorem ffirst_any (F : Nat → Prop) (B D : Option Addr) (m l : Nat) (c : Ca) (F2 : Nat → Prop) (A : Option Addr) (n : Nat) (t : Co) (now : Int) (w : World) (hr : CaR w F c B D) (hc : c.Ok) (hl : SpR w F2 A t.lv.length t.lv) :
    Calls Try.prog 33 #[.agg #[.int .i64 c.off, .slice B c.wk.length m, .slice D c.cl.length l], .agg #[.int .i64 t.cal, .slice A t.lv.length n, .int .i64 t.rt, .int .i64 t.bk], .int .i64 now] w (ElS (firstV c t now) w) := by
  have ht0 : Touch (fun _ => False) w (((w.alloc (.cells #[.int .i64 c.off, .slice B c.wk.length m, .slice D c.cl.length l] 25)).alloc (.cells #[.int .i64 t.cal, .slice A t.lv.length n, .int .i64 t.rt, .int .i64 t.bk] 28)).alloc (.cells #[.int .i64 0, .int .i64 0, .int .i64 0, .int .i64 0] 56)) := (((Touch.refl _ w).alloc _).alloc _).alloc _
  have HT0 := Lib.hid ht0
  have HB0 := Lib.hid (show Blk (((w.alloc (.cells #[.int .i64 c.off, .slice B c.wk.length m, .slice D c.cl.length l] 25)).alloc (.cells #[.int .i64 t.cal, .slice A t.lv.length n, .int .i64 t.rt, .int .i64 t.bk] 28)).alloc (.cells #[.int .i64 0, .int .i64 0, .int .i64 0, .int .i64 0] 56)) w.heap.size 25 #[.int .i64 c.off, .slice B c.wk.length m, .slice D c.cl.length l] by simpa using ((Blk.new w 25 #[.int .i64 c.off, .slice B c.wk.length m, .slice D c.cl.length l]).alloc (.cells #[.int .i64 t.cal, .slice A t.lv.length n, .int .i64 t.rt, .int .i64 t.bk] 28)).alloc (.cells #[.int .i64 0, .int .i64 0, .int .i64 0, .int .i64 0] 56))
  have HB1 := Lib.hid (show Blk (((w.alloc (.cells #[.int .i64 c.off, .slice B c.wk.length m, .slice D c.cl.length l] 25)).alloc (.cells #[.int .i64 t.cal, .slice A t.lv.length n, .int .i64 t.rt, .int .i64 t.bk] 28)).alloc (.cells #[.int .i64 0, .int .i64 0, .int .i64 0, .int .i64 0] 56)) (w.heap.size + 1) 28 #[.int .i64 t.cal, .slice A t.lv.length n, .int .i64 t.rt, .int .i64 t.bk] by simpa using (Blk.new (w.alloc (.cells #[.int .i64 c.off, .slice B c.wk.length m, .slice D c.cl.length l] 25)) 28 #[.int .i64 t.cal, .slice A t.lv.length n, .int .i64 t.rt, .int .i64 t.bk]).alloc (.cells #[.int .i64 0, .int .i64 0, .int .i64 0, .int .i64 0] 56))
  have HB2 := Lib.hid (show Blk (((w.alloc (.cells #[.int .i64 c.off, .slice B c.wk.length m, .slice D c.cl.length l] 25)).alloc (.cells #[.int .i64 t.cal, .slice A t.lv.length n, .int .i64 t.rt, .int .i64 t.bk] 28)).alloc (.cells #[.int .i64 0, .int .i64 0, .int .i64 0, .int .i64 0] 56)) (w.heap.size + 2) 56 #[.int .i64 0, .int .i64 0, .int .i64 0, .int .i64 0] by simpa using Blk.new ((w.alloc (.cells #[.int .i64 c.off, .slice B c.wk.length m, .slice D c.cl.length l] 25)).alloc (.cells #[.int .i64 t.cal, .slice A t.lv.length n, .int .i64 t.rt, .int .i64 t.bk] 28)) 56 #[.int .i64 0, .int .i64 0, .int .i64 0, .int .i64 0])
  clear ht0
  have HR := Lib.hid hr
  have HL := Lib.hid hl
  have HV := Lib.hid (show firstV c t now = if goodB t = true then begV c 0 (bud t 0) now else (St.z, 2) from rfl)
  have HC := Lib.hid (fun w1 h => fgood_any F2 A n t w1 h)
  cases hg : goodB t
  · rw [hg] at HC HV
    have HW := Lib.hid (show firstV c t now = (St.z, 2) by rw [HV.out]; rfl)
    generalize firstV c t now = r at *
    obtain ⟨cal, lv, rt, bk⟩ := t
    simp only at *
    clear hr hc hl HV
    go_enter Try.func33, Try.ntmps33
    go_wp2_with (go_at_call 31; go_must (refine (HC.out _ (by exact HL.out.touch HT0.out (fun _ _ e => e))).mono ?_); rintro e w1 ⟨rfl, t1⟩; have HT1 := Lib.hid (HT0.out.trans t1 (fun _ _ e => e)); have hz1 := t1.size; (try simp at hz1); have hb0 := t1.blk HB0.out (fun e => e); have c0 := hb0.cell 0; have c1 := hb0.cell 1; have c2 := hb0.cell 2; simp at c0 c1 c2; have HB0_1 := Lib.hid hb0; clear hb0; have hb1 := t1.blk HB1.out (fun e => e); have k0 := hb1.cell 0; have k1 := hb1.cell 1; have k2 := hb1.cell 2; have k3 := hb1.cell 3; simp at k0 k1 k2 k3; have HB1_1 := Lib.hid hb1; clear hb1; have hb2 := t1.blk HB2.out (fun e => e); have p0 := hb2.cell 0; have p1 := hb2.cell 1; have p2 := hb2.cell 2; have p3 := hb2.cell 3; simp at p0 p1 p2 p3; have z0 := hb2.frozen 0; have z1 := hb2.frozen 1; have z2 := hb2.frozen 2; have z3 := hb2.frozen 3; have HB2_1 := Lib.hid hb2; clear hb2; clear t1)
    have hs := ((((HB2_1.out).set_ 0 (.int .i64 0)).set_ 1 (.int .i64 0)).set_ 2 (.int .i64 0)).set_ 3 (.int .i64 0)
    have e0 := hs.cell 0; have e1 := hs.cell 1; have e2 := hs.cell 2; have e3 := hs.cell 3
    simp at e0 e1 e2 e3
    refine bodyPost_ret (v := .tuple #[.agg #[.int .i64 0, .int .i64 0, .int .i64 0, .int .i64 0], .int .i64 2]) (by simp [results, Try.results33, go_sem, e0, e1, e2, e3]) rfl ?_
    have tf := ((((Touch.refl (fun q => w.heap.size ≤ q) w1).set (b := w.heap.size + 2) (o := 0) (fun _ => by omega) (.int .i64 0)).set (b := w.heap.size + 2) (o := 1) (fun _ => by omega) (.int .i64 0)).set (b := w.heap.size + 2) (o := 2) (fun _ => by omega) (.int .i64 0)).set (b := w.heap.size + 2) (o := 3) (fun _ => by omega) (.int .i64 0)
    rw [HW.out]
    exact ⟨rfl, (HT1.out).trans tf (fun q hq e => by omega)⟩
  · have HW := Lib.hid (show firstV c t now = begV c 0 (bud t 0) now by rw [HV.out, hg]; rfl)
    rw [hg] at HC
    clear HV
    have hgl := good_hd hg
    have ha : t.lv[0]? = some (t.lv[0]'(by omega)) := List.getElem?_eq_getElem _
    have hgb := good_lv hg _ (List.getElem_mem (show 0 < t.lv.length by omega))
    obtain ⟨g, off, rfl, hgh, -, hc0, -⟩ := hl.at_ ha
    rw [bud_at ha] at HW
    generalize t.lv[0]'_ = s0 at *
    obtain ⟨sf, st⟩ := s0
    simp only [Nat.zero_mul, Nat.add_zero] at *
    have HD := Lib.hid (fun w1 hr => fbegin_any F B D m l c 0 sf now w1 hr hc (by omega))
    generalize firstV c t now = r at *
    generalize begV c 0 sf now = d at *
    obtain ⟨cal, lv, rt, bk⟩ := t
    simp only at *
    clear hr hc hl hg ha hgb
    go_enter Try.func33, Try.ntmps33
    go_wp2_with (go_at_call 31; go_must (refine (HC.out _ (by exact HL.out.touch HT0.out (fun _ _ e => e))).mono ?_); rintro e w1 ⟨rfl, t1⟩; have HT1 := Lib.hid (HT0.out.trans t1 (fun _ _ e => e)); have hz1 := t1.size; (try simp at hz1); have hb0 := t1.blk HB0.out (fun e => e); have c0 := hb0.cell 0; have c1 := hb0.cell 1; have c2 := hb0.cell 2; simp at c0 c1 c2; have HB0_1 := Lib.hid hb0; clear hb0; have hb1 := t1.blk HB1.out (fun e => e); have k0 := hb1.cell 0; have k1 := hb1.cell 1; have k2 := hb1.cell 2; have k3 := hb1.cell 3; simp at k0 k1 k2 k3; have HB1_1 := Lib.hid hb1; clear hb1; have hb2 := t1.blk HB2.out (fun e => e); have p0 := hb2.cell 0; have p1 := hb2.cell 1; have p2 := hb2.cell 2; have p3 := hb2.cell 3; simp at p0 p1 p2 p3; have z0 := hb2.frozen 0; have z1 := hb2.frozen 1; have z2 := hb2.frozen 2; have z3 := hb2.frozen 3; have HB2_1 := Lib.hid hb2; clear hb2; clear t1)
    have HDr := Lib.hid ((Touch.refl (fun _ => False) w1).drew)
    have HTd := Lib.hid (HT1.out.trans HDr.out (fun _ _ e => e))
    clear c0 c1 c2 k0 k1 k2 k3 p0 p1 p2 p3 z0 z1 z2 z3
    have hbc := HDr.out.blk HB0_1.out (fun e => e)
    have hbk := HDr.out.blk HB1_1.out (fun e => e)
    have HB2_2 := Lib.hid (HDr.out.blk HB2_1.out (fun e => e))
    have c0 := hbc.cell 0; have c1 := hbc.cell 1; have c2 := hbc.cell 2; simp at c0 c1 c2
    have k0 := hbk.cell 0; have k1 := hbk.cell 1; have k2 := hbk.cell 2; have k3 := hbk.cell 3; simp at k0 k1 k2 k3
    have l1 : w1.drew.cell? ⟨g, off, none⟩ = some (.int .i64 sf) := (HTd.out.cell (p := ⟨g, off, none⟩) hgh (fun e => e)).trans hc0
    have hl1 : 0 < lv.length := by omega
    clear hbc hbk
    refine wp_region_plan [(0, 0), (0, 1), (0, 2), (0, 3), (0, 4), (0, 5), (0, 6), (2, 7), (0, 8), (0, 9), (2, 10), (0, 11)] (fun q => w.heap.size ≤ q) (by kernel_rfl) (by kernel_rfl) (fun c a d v w h => by cases d <;> exact h) ?_
    iterate 7
      refine plan_s1 rfl (by rfl) (fun Kc hKc => ?_)
      go_simp
      first
        | (refine hKc _ ?_)
      clear hKc Kc
    refine plan_a1 rfl (by rfl) (fun Kc hKc => ?_)
    go_simp
    refine (HD.out _ (by exact HR.out.touch HTd.out (fun _ _ e => e))).mono ?_
    rintro e w2 ⟨rfl, t2⟩
    refine hKc _ _ ⟨t2.mono (fun q hq e => e.elim), ?_⟩
    clear hKc Kc
    have HT2 := Lib.hid (HTd.out.trans t2 (fun _ _ e => e))
    have hb2 := t2.blk HB2_2.out (fun e => e)
    have HB2_3 := Lib.hid hb2
    have p0 := hb2.cell 0; have p1 := hb2.cell 1; have p2 := hb2.cell 2; have p3 := hb2.cell 3; simp at p0 p1 p2 p3
    have z0 := hb2.frozen 0; have z1 := hb2.frozen 1; have z2 := hb2.frozen 2; have z3 := hb2.frozen 3
    clear hb2 t2 c0 c1 c2 k0 k1 k2 k3 l1
    iterate 2
      refine plan_s1 rfl (by rfl) (fun Kc hKc => ?_)
      go_simp
      first
        | (refine hKc _ ?_)
      clear hKc Kc
    refine plan_a1 rfl (by rfl) (fun Kc hKc => ?_)
    go_simp
    refine hKc _ _ ⟨(((((Touch.refl (fun q => w.heap.size ≤ q) w2).set (b := w.heap.size + 2) (o := 0) (fun _ => by omega) (.int .i64 d.1.lv)).set (b := w.heap.size + 2) (o := 1) (fun _ => by omega) (.int .i64 d.1.fr)).set (b := w.heap.size + 2) (o := 2) (fun _ => by omega) (.int .i64 d.1.le)).set (b := w.heap.size + 2) (o := 3) (fun _ => by omega) (.int .i64 d.1.du) : Touch (fun q => w.heap.size ≤ q) w2 (World.setCell (World.setCell (World.setCell (World.setCell w2 ⟨w.heap.size + 2, 0, none⟩ (.int .i64 d.1.lv)) ⟨w.heap.size + 2, 1, none⟩ (.int .i64 d.1.fr)) ⟨w.heap.size + 2, 2, none⟩ (.int .i64 d.1.le)) ⟨w.heap.size + 2, 3, none⟩ (.int .i64 d.1.du))), ?_⟩
    clear hKc Kc
    iterate 1
      refine plan_s1 rfl (by rfl) (fun Kc hKc => ?_)
      go_simp
      first
        | (refine hKc _ ?_)
      clear hKc Kc
    refine plan_done ?_
    go_wp2_with fail
    have hs := ((((HB2_3.out).set_ 0 (.int .i64 d.1.lv)).set_ 1 (.int .i64 d.1.fr)).set_ 2 (.int .i64 d.1.le)).set_ 3 (.int .i64 d.1.du)
    have e0 := hs.cell 0; have e1 := hs.cell 1; have e2 := hs.cell 2; have e3 := hs.cell 3
    simp at e0 e1 e2 e3
    refine bodyPost_ret (v := .tuple #[.agg #[.int .i64 d.1.lv, .int .i64 d.1.fr, .int .i64 d.1.le, .int .i64 d.1.du], .int .i64 d.2]) (by simp [results, Try.results33, go_sem, e0, e1, e2, e3]) rfl ?_
    have tf := ((((Touch.refl (fun q => w.heap.size ≤ q) w2).set (b := w.heap.size + 2) (o := 0) (fun _ => by omega) (.int .i64 d.1.lv)).set (b := w.heap.size + 2) (o := 1) (fun _ => by omega) (.int .i64 d.1.fr)).set (b := w.heap.size + 2) (o := 2) (fun _ => by omega) (.int .i64 d.1.le)).set (b := w.heap.size + 2) (o := 3) (fun _ => by omega) (.int .i64 d.1.du)
    rw [HW.out]
    exact ⟨rfl, (HT2.out).trans tf (fun q hq e => by omega)⟩
end Go.Proofs.Ytcblbjhhlnmkjaa
