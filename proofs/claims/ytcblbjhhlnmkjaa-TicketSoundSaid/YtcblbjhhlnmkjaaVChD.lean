/- The reference of chapter 15: Next. (written by genchC.py) -/
import Derived.Test.YtcblbjhhlnmkjaaVChC
import Derived.Test.YtcblbjhhlnmkjaaPlanF
namespace Go.Proofs.Ytcblbjhhlnmkjaa
open Go.RowKit Cal
set_option maxHeartbeats 4000000
set_option maxRecDepth 100000
set_option linter.unusedVariables false
attribute [local irreducible] PF.wpPlan
theorem Touch.swap {S : Nat → Prop} {w : World} (h : S w.heap.size) (cs cs' : Array Value) (t t' : TypeId) : Touch S (w.alloc (.cells cs t)) (w.alloc (.cells cs' t')) := by
  have t0 := (Touch.refl S w).alloc (.cells cs t)
  have t1 := (Touch.refl S w).alloc (.cells cs' t')
  refine ⟨rfl, rfl, rfl, by simp, fun k hk hn => ?_⟩
  have hk' : k < w.heap.size := by
    simp at hk
    have : k ≠ w.heap.size := fun e => hn (e ▸ h)
    omega
  exact (t1.block k hk' hn).trans (t0.block k hk' hn).symm
namespace PF
theorem fnext_any (F : Nat → Prop) (B D : Option Addr) (m l : Nat) (c : Ca) (F2 : Nat → Prop) (A : Option Addr) (n : Nat) (t : Co) (x : St) (now : Int) (w : World) (hr : CaR w F c B D) (hc : c.Ok) (hl : SpR w F2 A t.lv.length t.lv) (hlen : t.lv.length ≤ 1000000) :
    Calls Try.prog 35 #[.agg #[.int .i64 c.off, .slice B c.wk.length m, .slice D c.cl.length l], .agg #[.int .i64 t.cal, .slice A t.lv.length n, .int .i64 t.rt, .int .i64 t.bk], .agg #[.int .i64 x.lv, .int .i64 x.fr, .int .i64 x.le, .int .i64 x.du], .int .i64 now] w (ElN (nextV c t x now) w) := by
  obtain ⟨lv, fr, le, du⟩ := x
  simp only at *
  have ht0 : Touch (fun _ => False) w ((((w.alloc (.cells #[.int .i64 c.off, .slice B c.wk.length m, .slice D c.cl.length l] 25)).alloc (.cells #[.int .i64 t.cal, .slice A t.lv.length n, .int .i64 t.rt, .int .i64 t.bk] 28)).alloc (.cells #[.int .i64 lv, .int .i64 fr, .int .i64 le, .int .i64 du] 56)).alloc (.cells #[.int .i64 0, .int .i64 0, .int .i64 0, .int .i64 0] 56)) := ((((Touch.refl _ w).alloc _).alloc _).alloc _).alloc _
  have HT0 := Lib.hid ht0
  have HB0 := Lib.hid (show Blk ((((w.alloc (.cells #[.int .i64 c.off, .slice B c.wk.length m, .slice D c.cl.length l] 25)).alloc (.cells #[.int .i64 t.cal, .slice A t.lv.length n, .int .i64 t.rt, .int .i64 t.bk] 28)).alloc (.cells #[.int .i64 lv, .int .i64 fr, .int .i64 le, .int .i64 du] 56)).alloc (.cells #[.int .i64 0, .int .i64 0, .int .i64 0, .int .i64 0] 56)) w.heap.size 25 #[.int .i64 c.off, .slice B c.wk.length m, .slice D c.cl.length l] by simpa using (((Blk.new w 25 #[.int .i64 c.off, .slice B c.wk.length m, .slice D c.cl.length l]).alloc (.cells #[.int .i64 t.cal, .slice A t.lv.length n, .int .i64 t.rt, .int .i64 t.bk] 28)).alloc (.cells #[.int .i64 lv, .int .i64 fr, .int .i64 le, .int .i64 du] 56)).alloc (.cells #[.int .i64 0, .int .i64 0, .int .i64 0, .int .i64 0] 56))
  have HB1 := Lib.hid (show Blk ((((w.alloc (.cells #[.int .i64 c.off, .slice B c.wk.length m, .slice D c.cl.length l] 25)).alloc (.cells #[.int .i64 t.cal, .slice A t.lv.length n, .int .i64 t.rt, .int .i64 t.bk] 28)).alloc (.cells #[.int .i64 lv, .int .i64 fr, .int .i64 le, .int .i64 du] 56)).alloc (.cells #[.int .i64 0, .int .i64 0, .int .i64 0, .int .i64 0] 56)) (w.heap.size + 1) 28 #[.int .i64 t.cal, .slice A t.lv.length n, .int .i64 t.rt, .int .i64 t.bk] by simpa using ((Blk.new (w.alloc (.cells #[.int .i64 c.off, .slice B c.wk.length m, .slice D c.cl.length l] 25)) 28 #[.int .i64 t.cal, .slice A t.lv.length n, .int .i64 t.rt, .int .i64 t.bk]).alloc (.cells #[.int .i64 lv, .int .i64 fr, .int .i64 le, .int .i64 du] 56)).alloc (.cells #[.int .i64 0, .int .i64 0, .int .i64 0, .int .i64 0] 56))
  have HB2 := Lib.hid (show Blk ((((w.alloc (.cells #[.int .i64 c.off, .slice B c.wk.length m, .slice D c.cl.length l] 25)).alloc (.cells #[.int .i64 t.cal, .slice A t.lv.length n, .int .i64 t.rt, .int .i64 t.bk] 28)).alloc (.cells #[.int .i64 lv, .int .i64 fr, .int .i64 le, .int .i64 du] 56)).alloc (.cells #[.int .i64 0, .int .i64 0, .int .i64 0, .int .i64 0] 56)) (w.heap.size + 2) 56 #[.int .i64 lv, .int .i64 fr, .int .i64 le, .int .i64 du] by simpa using (Blk.new ((w.alloc (.cells #[.int .i64 c.off, .slice B c.wk.length m, .slice D c.cl.length l] 25)).alloc (.cells #[.int .i64 t.cal, .slice A t.lv.length n, .int .i64 t.rt, .int .i64 t.bk] 28)) 56 #[.int .i64 lv, .int .i64 fr, .int .i64 le, .int .i64 du]).alloc (.cells #[.int .i64 0, .int .i64 0, .int .i64 0, .int .i64 0] 56))
  have HB3 := Lib.hid (show Blk ((((w.alloc (.cells #[.int .i64 c.off, .slice B c.wk.length m, .slice D c.cl.length l] 25)).alloc (.cells #[.int .i64 t.cal, .slice A t.lv.length n, .int .i64 t.rt, .int .i64 t.bk] 28)).alloc (.cells #[.int .i64 lv, .int .i64 fr, .int .i64 le, .int .i64 du] 56)).alloc (.cells #[.int .i64 0, .int .i64 0, .int .i64 0, .int .i64 0] 56)) (w.heap.size + 3) 56 #[.int .i64 0, .int .i64 0, .int .i64 0, .int .i64 0] by simpa using Blk.new (((w.alloc (.cells #[.int .i64 c.off, .slice B c.wk.length m, .slice D c.cl.length l] 25)).alloc (.cells #[.int .i64 t.cal, .slice A t.lv.length n, .int .i64 t.rt, .int .i64 t.bk] 28)).alloc (.cells #[.int .i64 lv, .int .i64 fr, .int .i64 le, .int .i64 du] 56)) 56 #[.int .i64 0, .int .i64 0, .int .i64 0, .int .i64 0])
  clear ht0
  have HR := Lib.hid hr
  have HL := Lib.hid hl
  have HV := Lib.hid (show nextV c t ⟨lv, fr, le, du⟩ now = if goodB t = true ∧ 0 ≤ lv ∧ lv < t.lv.length then (if lv = t.lv.length - 1 then ((St.z, false), 0) else (((begV c (lv + 1) (bud t (lv + 1).toNat) now).1, decide ((begV c (lv + 1) (bud t (lv + 1).toNat) now).2 = 0)), (begV c (lv + 1) (bud t (lv + 1).toNat) now).2)) else ((St.z, false), 2) from rfl)
  have HC := Lib.hid (fun w1 h => fgood_any F2 A n t w1 h)
  cases hg : goodB t
  · rw [hg] at HC HV
    have HW := Lib.hid (show nextV c t ⟨lv, fr, le, du⟩ now = ((St.z, false), 2) by rw [HV.out]; rfl)
    generalize nextV c t ⟨lv, fr, le, du⟩ now = r at *
    obtain ⟨cal, ll, rt, bk⟩ := t
    simp only at *
    clear hr hc hl HV
    go_enter Try.func35, Try.ntmps35
    go_wp2_with (go_at_call 31; go_must (refine (HC.out _ (by exact HL.out.touch HT0.out (fun _ _ e => e))).mono ?_); rintro e w1 ⟨rfl, t1⟩; have HT1 := Lib.hid (HT0.out.trans t1 (fun _ _ e => e)); have hz1 := t1.size; (try simp at hz1); have hb0 := t1.blk HB0.out (fun e => e); have c0 := hb0.cell 0; have c1 := hb0.cell 1; have c2 := hb0.cell 2; simp at c0 c1 c2; have HB0_1 := Lib.hid hb0; clear hb0; have hb1 := t1.blk HB1.out (fun e => e); have k0 := hb1.cell 0; have k1 := hb1.cell 1; have k2 := hb1.cell 2; have k3 := hb1.cell 3; simp at k0 k1 k2 k3; have HB1_1 := Lib.hid hb1; clear hb1; have hb2 := t1.blk HB2.out (fun e => e); have q0 := hb2.cell 0; have q1 := hb2.cell 1; have q2 := hb2.cell 2; have q3 := hb2.cell 3; simp at q0 q1 q2 q3; have HB2_1 := Lib.hid hb2; clear hb2; have hb3 := t1.blk HB3.out (fun e => e); have p0 := hb3.cell 0; have p1 := hb3.cell 1; have p2 := hb3.cell 2; have p3 := hb3.cell 3; simp at p0 p1 p2 p3; have z0 := hb3.frozen 0; have z1 := hb3.frozen 1; have z2 := hb3.frozen 2; have z3 := hb3.frozen 3; have HB3_1 := Lib.hid hb3; clear hb3; clear t1)
    have hs := ((((HB3_1.out).set_ 0 (.int .i64 0)).set_ 1 (.int .i64 0)).set_ 2 (.int .i64 0)).set_ 3 (.int .i64 0)
    have e0 := hs.cell 0; have e1 := hs.cell 1; have e2 := hs.cell 2; have e3 := hs.cell 3
    simp at e0 e1 e2 e3
    refine bodyPost_ret (v := .tuple #[.agg #[.int .i64 0, .int .i64 0, .int .i64 0, .int .i64 0], .bool false, .int .i64 2]) (by simp [results, Try.results35, go_sem, e0, e1, e2, e3]) rfl ?_
    have tf := ((((Touch.refl (fun q => w.heap.size ≤ q) w1).set (b := w.heap.size + 3) (o := 0) (fun _ => by omega) (.int .i64 0)).set (b := w.heap.size + 3) (o := 1) (fun _ => by omega) (.int .i64 0)).set (b := w.heap.size + 3) (o := 2) (fun _ => by omega) (.int .i64 0)).set (b := w.heap.size + 3) (o := 3) (fun _ => by omega) (.int .i64 0)
    rw [HW.out]
    exact ⟨rfl, (HT1.out).trans tf (fun q hq e => by omega)⟩
  rw [hg] at HC
  have hgl := good_hd hg
  by_cases h0 : lv < 0
  · have HW := Lib.hid (show nextV c t ⟨lv, fr, le, du⟩ now = ((St.z, false), 2) by rw [HV.out, if_neg (by omega)])
    clear hg
    generalize nextV c t ⟨lv, fr, le, du⟩ now = r at *
    obtain ⟨cal, ll, rt, bk⟩ := t
    simp only at *
    clear hr hc hl HV
    go_enter Try.func35, Try.ntmps35
    go_wp2_with (go_at_call 31; go_must (refine (HC.out _ (by exact HL.out.touch HT0.out (fun _ _ e => e))).mono ?_); rintro e w1 ⟨rfl, t1⟩; have HT1 := Lib.hid (HT0.out.trans t1 (fun _ _ e => e)); have hz1 := t1.size; (try simp at hz1); have hb0 := t1.blk HB0.out (fun e => e); have c0 := hb0.cell 0; have c1 := hb0.cell 1; have c2 := hb0.cell 2; simp at c0 c1 c2; have HB0_1 := Lib.hid hb0; clear hb0; have hb1 := t1.blk HB1.out (fun e => e); have k0 := hb1.cell 0; have k1 := hb1.cell 1; have k2 := hb1.cell 2; have k3 := hb1.cell 3; simp at k0 k1 k2 k3; have HB1_1 := Lib.hid hb1; clear hb1; have hb2 := t1.blk HB2.out (fun e => e); have q0 := hb2.cell 0; have q1 := hb2.cell 1; have q2 := hb2.cell 2; have q3 := hb2.cell 3; simp at q0 q1 q2 q3; have HB2_1 := Lib.hid hb2; clear hb2; have hb3 := t1.blk HB3.out (fun e => e); have p0 := hb3.cell 0; have p1 := hb3.cell 1; have p2 := hb3.cell 2; have p3 := hb3.cell 3; simp at p0 p1 p2 p3; have z0 := hb3.frozen 0; have z1 := hb3.frozen 1; have z2 := hb3.frozen 2; have z3 := hb3.frozen 3; have HB3_1 := Lib.hid hb3; clear hb3; clear t1)
    have hs := ((((HB3_1.out).set_ 0 (.int .i64 0)).set_ 1 (.int .i64 0)).set_ 2 (.int .i64 0)).set_ 3 (.int .i64 0)
    have e0 := hs.cell 0; have e1 := hs.cell 1; have e2 := hs.cell 2; have e3 := hs.cell 3
    simp at e0 e1 e2 e3
    refine bodyPost_ret (v := .tuple #[.agg #[.int .i64 0, .int .i64 0, .int .i64 0, .int .i64 0], .bool false, .int .i64 2]) (by simp [results, Try.results35, go_sem, e0, e1, e2, e3]) rfl ?_
    have tf := ((((Touch.refl (fun q => w.heap.size ≤ q) w1).set (b := w.heap.size + 3) (o := 0) (fun _ => by omega) (.int .i64 0)).set (b := w.heap.size + 3) (o := 1) (fun _ => by omega) (.int .i64 0)).set (b := w.heap.size + 3) (o := 2) (fun _ => by omega) (.int .i64 0)).set (b := w.heap.size + 3) (o := 3) (fun _ => by omega) (.int .i64 0)
    rw [HW.out]
    exact ⟨rfl, (HT1.out).trans tf (fun q hq e => by omega)⟩
  by_cases h1 : (t.lv.length : Int) ≤ lv
  · have HW := Lib.hid (show nextV c t ⟨lv, fr, le, du⟩ now = ((St.z, false), 2) by rw [HV.out, if_neg (by omega)])
    clear hg
    generalize nextV c t ⟨lv, fr, le, du⟩ now = r at *
    obtain ⟨cal, ll, rt, bk⟩ := t
    simp only at *
    clear hr hc hl HV
    go_enter Try.func35, Try.ntmps35
    go_wp2_with (go_at_call 31; go_must (refine (HC.out _ (by exact HL.out.touch HT0.out (fun _ _ e => e))).mono ?_); rintro e w1 ⟨rfl, t1⟩; have HT1 := Lib.hid (HT0.out.trans t1 (fun _ _ e => e)); have hz1 := t1.size; (try simp at hz1); have hb0 := t1.blk HB0.out (fun e => e); have c0 := hb0.cell 0; have c1 := hb0.cell 1; have c2 := hb0.cell 2; simp at c0 c1 c2; have HB0_1 := Lib.hid hb0; clear hb0; have hb1 := t1.blk HB1.out (fun e => e); have k0 := hb1.cell 0; have k1 := hb1.cell 1; have k2 := hb1.cell 2; have k3 := hb1.cell 3; simp at k0 k1 k2 k3; have HB1_1 := Lib.hid hb1; clear hb1; have hb2 := t1.blk HB2.out (fun e => e); have q0 := hb2.cell 0; have q1 := hb2.cell 1; have q2 := hb2.cell 2; have q3 := hb2.cell 3; simp at q0 q1 q2 q3; have HB2_1 := Lib.hid hb2; clear hb2; have hb3 := t1.blk HB3.out (fun e => e); have p0 := hb3.cell 0; have p1 := hb3.cell 1; have p2 := hb3.cell 2; have p3 := hb3.cell 3; simp at p0 p1 p2 p3; have z0 := hb3.frozen 0; have z1 := hb3.frozen 1; have z2 := hb3.frozen 2; have z3 := hb3.frozen 3; have HB3_1 := Lib.hid hb3; clear hb3; clear t1)
    have hs := ((((HB3_1.out).set_ 0 (.int .i64 0)).set_ 1 (.int .i64 0)).set_ 2 (.int .i64 0)).set_ 3 (.int .i64 0)
    have e0 := hs.cell 0; have e1 := hs.cell 1; have e2 := hs.cell 2; have e3 := hs.cell 3
    simp at e0 e1 e2 e3
    refine bodyPost_ret (v := .tuple #[.agg #[.int .i64 0, .int .i64 0, .int .i64 0, .int .i64 0], .bool false, .int .i64 2]) (by simp [results, Try.results35, go_sem, e0, e1, e2, e3]) rfl ?_
    have tf := ((((Touch.refl (fun q => w.heap.size ≤ q) w1).set (b := w.heap.size + 3) (o := 0) (fun _ => by omega) (.int .i64 0)).set (b := w.heap.size + 3) (o := 1) (fun _ => by omega) (.int .i64 0)).set (b := w.heap.size + 3) (o := 2) (fun _ => by omega) (.int .i64 0)).set (b := w.heap.size + 3) (o := 3) (fun _ => by omega) (.int .i64 0)
    rw [HW.out]
    exact ⟨rfl, (HT1.out).trans tf (fun q hq e => by omega)⟩
  have HV2 := Lib.hid (HV.out.trans (if_pos ⟨hg, by omega, by omega⟩))
  have hw1 : IntKind.i64.wrap ((t.lv.length : Int) - 1) = (t.lv.length : Int) - 1 := IntWalk.i64_in _ (by omega)
  by_cases h2 : lv = (t.lv.length : Int) - 1
  · have HW := Lib.hid (HV2.out.trans (if_pos h2))
    subst h2
    clear h0 h1 hg HV2
    generalize nextV c t ⟨(t.lv.length : Int) - 1, fr, le, du⟩ now = r at *
    obtain ⟨cal, ll, rt, bk⟩ := t
    simp only at *
    clear hr hc hl HV
    go_enter Try.func35, Try.ntmps35
    go_wp2_with (go_at_call 31; go_must (refine (HC.out _ (by exact HL.out.touch HT0.out (fun _ _ e => e))).mono ?_); rintro e w1 ⟨rfl, t1⟩; have HT1 := Lib.hid (HT0.out.trans t1 (fun _ _ e => e)); have hz1 := t1.size; (try simp at hz1); have hb0 := t1.blk HB0.out (fun e => e); have c0 := hb0.cell 0; have c1 := hb0.cell 1; have c2 := hb0.cell 2; simp at c0 c1 c2; have HB0_1 := Lib.hid hb0; clear hb0; have hb1 := t1.blk HB1.out (fun e => e); have k0 := hb1.cell 0; have k1 := hb1.cell 1; have k2 := hb1.cell 2; have k3 := hb1.cell 3; simp at k0 k1 k2 k3; have HB1_1 := Lib.hid hb1; clear hb1; have hb2 := t1.blk HB2.out (fun e => e); have q0 := hb2.cell 0; have q1 := hb2.cell 1; have q2 := hb2.cell 2; have q3 := hb2.cell 3; simp at q0 q1 q2 q3; have HB2_1 := Lib.hid hb2; clear hb2; have hb3 := t1.blk HB3.out (fun e => e); have p0 := hb3.cell 0; have p1 := hb3.cell 1; have p2 := hb3.cell 2; have p3 := hb3.cell 3; simp at p0 p1 p2 p3; have z0 := hb3.frozen 0; have z1 := hb3.frozen 1; have z2 := hb3.frozen 2; have z3 := hb3.frozen 3; have HB3_1 := Lib.hid hb3; clear hb3; clear t1)
    have hs := ((((HB3_1.out).set_ 0 (.int .i64 0)).set_ 1 (.int .i64 0)).set_ 2 (.int .i64 0)).set_ 3 (.int .i64 0)
    have e0 := hs.cell 0; have e1 := hs.cell 1; have e2 := hs.cell 2; have e3 := hs.cell 3
    simp at e0 e1 e2 e3
    refine bodyPost_ret (v := .tuple #[.agg #[.int .i64 0, .int .i64 0, .int .i64 0, .int .i64 0], .bool false, .int .i64 0]) (by simp [results, Try.results35, go_sem, e0, e1, e2, e3]) rfl ?_
    have tf := ((((Touch.refl (fun q => w.heap.size ≤ q) w1).set (b := w.heap.size + 3) (o := 0) (fun _ => by omega) (.int .i64 0)).set (b := w.heap.size + 3) (o := 1) (fun _ => by omega) (.int .i64 0)).set (b := w.heap.size + 3) (o := 2) (fun _ => by omega) (.int .i64 0)).set (b := w.heap.size + 3) (o := 3) (fun _ => by omega) (.int .i64 0)
    rw [HW.out]
    exact ⟨rfl, (HT1.out).trans tf (fun q hq e => by omega)⟩
  have HW := Lib.hid (HV2.out.trans (if_neg h2))
  clear HV2 HV
  obtain ⟨j, rfl⟩ : ∃ j : Nat, lv = (j : Int) := ⟨lv.toNat, by omega⟩
  rw [show ((j : Int) + 1).toNat = j + 1 by omega] at HW
  have hj : j + 1 < t.lv.length := by omega
  have ha : t.lv[j + 1]? = some (t.lv[j + 1]'hj) := List.getElem?_eq_getElem _
  have hgb := good_lv hg _ (List.getElem_mem hj)
  obtain ⟨g, off, rfl, hgh, -, hc0, -⟩ := hl.at_ ha
  rw [bud_at ha] at HW
  generalize t.lv[j + 1]'_ = s0 at *
  obtain ⟨sf, st⟩ := s0
  simp only at *
  have HD := Lib.hid (fun w1 hr => fbegin_any F B D m l c ((j : Int) + 1) sf now w1 hr hc (by omega))
  generalize begV c ((j : Int) + 1) sf now = d at *
  generalize nextV c t ⟨j, fr, le, du⟩ now = r at *
  obtain ⟨cal, ll, rt, bk⟩ := t
  simp only at *
  have hw2 : IntKind.i64.wrap ((j : Int) + 1) = (j : Int) + 1 := IntWalk.i64_in _ (by omega)
  clear hr hc hl hg ha hgb
  go_enter Try.func35, Try.ntmps35
  go_wp2_with (go_at_call 31; go_must (refine (HC.out _ (by exact HL.out.touch HT0.out (fun _ _ e => e))).mono ?_); rintro e w1 ⟨rfl, t1⟩; have HT1 := Lib.hid (HT0.out.trans t1 (fun _ _ e => e)); have hz1 := t1.size; (try simp at hz1); have hb0 := t1.blk HB0.out (fun e => e); have c0 := hb0.cell 0; have c1 := hb0.cell 1; have c2 := hb0.cell 2; simp at c0 c1 c2; have HB0_1 := Lib.hid hb0; clear hb0; have hb1 := t1.blk HB1.out (fun e => e); have k0 := hb1.cell 0; have k1 := hb1.cell 1; have k2 := hb1.cell 2; have k3 := hb1.cell 3; simp at k0 k1 k2 k3; have HB1_1 := Lib.hid hb1; clear hb1; have hb2 := t1.blk HB2.out (fun e => e); have q0 := hb2.cell 0; have q1 := hb2.cell 1; have q2 := hb2.cell 2; have q3 := hb2.cell 3; simp at q0 q1 q2 q3; have HB2_1 := Lib.hid hb2; clear hb2; have hb3 := t1.blk HB3.out (fun e => e); have p0 := hb3.cell 0; have p1 := hb3.cell 1; have p2 := hb3.cell 2; have p3 := hb3.cell 3; simp at p0 p1 p2 p3; have z0 := hb3.frozen 0; have z1 := hb3.frozen 1; have z2 := hb3.frozen 2; have z3 := hb3.frozen 3; have HB3_1 := Lib.hid hb3; clear hb3; clear t1)
  have HDr := Lib.hid ((Touch.refl (fun _ => False) w1).drew)
  have HTd := Lib.hid (HT1.out.trans HDr.out (fun _ _ e => e))
  clear c0 c1 c2 k0 k1 k2 k3 q0 q1 q2 q3 p0 p1 p2 p3 z0 z1 z2 z3
  have hbc := HDr.out.blk HB0_1.out (fun e => e)
  have hbk := HDr.out.blk HB1_1.out (fun e => e)
  have hbq := HDr.out.blk HB2_1.out (fun e => e)
  have HB3_2 := Lib.hid (HDr.out.blk HB3_1.out (fun e => e))
  have c0 := hbc.cell 0; have c1 := hbc.cell 1; have c2 := hbc.cell 2; simp at c0 c1 c2
  have k0 := hbk.cell 0; have k1 := hbk.cell 1; have k2 := hbk.cell 2; have k3 := hbk.cell 3; simp at k0 k1 k2 k3
  have q0 := hbq.cell 0; have q1 := hbq.cell 1; have q2 := hbq.cell 2; have q3 := hbq.cell 3; simp at q0 q1 q2 q3
  have l1 : w1.drew.cell? ⟨g, off + (j + 1) * 2, none⟩ = some (.int .i64 sf) := (HTd.out.cell (p := ⟨g, off + (j + 1) * 2, none⟩) hgh (fun e => e)).trans hc0
  have hx0 : (0 : Int) ≤ (j : Int) + 1 := by omega
  have hx1 : (j : Int) + 1 < (ll.length : Int) := by omega
  have hlc := hbc.lt; have hlk := hbk.lt; have hlq := hbq.lt
  have hlg : g < w1.drew.heap.size := Nat.lt_of_lt_of_le hgh HTd.out.size
  clear hbc hbk hbq
  refine wp_region_fork [(1, 0), (1, 1), (1, 2), (1, 3), (1, 4), (1, 5), (1, 6), (1, 7), (1, 8), (1, 9), (1, 10), (1, 11), (1, 12)] 13 17 [(1, 14), (1, 15), (1, 16), (2, 17), (2, 18), (1, 19)] [(2, 13), (1, 14), (1, 15), (1, 16), (2, 18), (1, 19)] (fun q => w.heap.size + 4 ≤ q) (by kernel_rfl) (by kernel_rfl) (fun c a d v w h => by cases d <;> exact h) ?_
  iterate 13
    apply plan_h
    · rfl
    · rfl
    · intro wh hT
      have hf0 := (hT.cell (p := ⟨w.heap.size, 0, none⟩) hlc (fun e => by simp only at e; omega)).trans c0
      have hf1 := (hT.cell (p := ⟨w.heap.size, 1, none⟩) hlc (fun e => by simp only at e; omega)).trans c1
      have hf2 := (hT.cell (p := ⟨w.heap.size, 2, none⟩) hlc (fun e => by simp only at e; omega)).trans c2
      have hf3 := (hT.cell (p := ⟨w.heap.size + 1, 1, none⟩) hlk (fun e => by simp only at e; omega)).trans k1
      have hf4 := (hT.cell (p := ⟨w.heap.size + 2, 0, none⟩) hlq (fun e => by simp only at e; omega)).trans q0
      have hf5 := (hT.cell (p := ⟨g, off + (j + 1) * 2, none⟩) hlg (fun e => by simp only at e; omega)).trans l1
      go_simp
      try rfl
    go_frame
  have HTdh := Lib.hid HTd.out
  apply fork_
  · rfl
  · rfl
  · rfl
  · rfl
  · intro Kc hKc
    go_simp
    refine (HD.out _ (by exact HR.out.touch HTd.out (fun _ _ e => e))).mono ?_
    rintro e w2 ⟨rfl, t2⟩
    refine hKc _ _ ⟨t2.mono (fun q hq e => e.elim), ?_⟩
    clear hKc Kc
    have HT2 := Lib.hid (HTd.out.trans t2 (fun _ _ e => e))
    have HB3_3 := Lib.hid (t2.blk HB3_2.out (fun e => e))
    have hz2 : w.heap.size + 4 ≤ w2.heap.size := by have := t2.size; have := hz1; simp at *; omega
    clear t2 c0 c1 c2 k0 k1 k2 k3 q0 q1 q2 q3 l1
    iterate 3
      apply plan_h
      · rfl
      · rfl
      · intro wh hT
        go_simp
        try rfl
      go_frame
    refine plan_a1 rfl (by rfl) (fun Kc hKc => ?_)
    go_simp
    refine hKc _ _ ⟨((Touch.refl (fun q => w.heap.size + 4 ≤ q) w2).alloc (.cells #[.int .i64 0, .int .i64 0, .int .i64 0, .int .i64 0] 56)), ?_⟩
    clear hKc Kc
    refine plan_a1 rfl (by rfl) (fun Kc hKc => ?_)
    go_simp
    refine hKc _ _ ⟨Touch.swap (S := fun q => w.heap.size + 4 ≤ q) (w := w2) (by omega) _ _ _ _, ?_⟩
    clear hKc Kc
    iterate 1
      apply plan_h
      · rfl
      · rfl
      · intro wh hT
        go_simp
        try rfl
      go_frame
    refine plan_done ?_
    have hb3 := HB3_3.out.alloc (.cells #[.int .i64 d.1.lv, .int .i64 d.1.fr, .int .i64 d.1.le, .int .i64 d.1.du] 56)
    have hne3 : ¬ w.heap.size + 3 = w2.heap.size := by omega
    have hne3' : ¬ w.heap.size + 1 + 1 + 1 = w2.heap.size := by omega
    have p0 : (w2.alloc (.cells #[.int .i64 d.1.lv, .int .i64 d.1.fr, .int .i64 d.1.le, .int .i64 d.1.du] 56)).cell? ⟨w.heap.size + 3, 0, none⟩ = some (.int .i64 0) := hb3.cell 0; have p1 : (w2.alloc (.cells #[.int .i64 d.1.lv, .int .i64 d.1.fr, .int .i64 d.1.le, .int .i64 d.1.du] 56)).cell? ⟨w.heap.size + 3, 1, none⟩ = some (.int .i64 0) := hb3.cell 1; have p2 : (w2.alloc (.cells #[.int .i64 d.1.lv, .int .i64 d.1.fr, .int .i64 d.1.le, .int .i64 d.1.du] 56)).cell? ⟨w.heap.size + 3, 2, none⟩ = some (.int .i64 0) := hb3.cell 2; have p3 : (w2.alloc (.cells #[.int .i64 d.1.lv, .int .i64 d.1.fr, .int .i64 d.1.le, .int .i64 d.1.du] 56)).cell? ⟨w.heap.size + 3, 3, none⟩ = some (.int .i64 0) := hb3.cell 3
    have z0 := hb3.frozen 0; have z1 := hb3.frozen 1; have z2 := hb3.frozen 2; have z3 := hb3.frozen 3
    have hb4 := HB3_3.out
    have x0 := hb4.cell 0; have x1 := hb4.cell 1; have x2 := hb4.cell 2; have x3 := hb4.cell 3; simp at x0 x1 x2 x3
    have xz0 := hb4.frozen 0; have xz1 := hb4.frozen 1; have xz2 := hb4.frozen 2; have xz3 := hb4.frozen 3
    clear hb4
    clear hb3
    go_wp2_with fail
    have HTv := Lib.hid (HT2.out.alloc (.cells #[.int .i64 d.1.lv, .int .i64 d.1.fr, .int .i64 d.1.le, .int .i64 d.1.du] 56))
    have hs := (((((HB3_3.out.alloc (.cells #[.int .i64 d.1.lv, .int .i64 d.1.fr, .int .i64 d.1.le, .int .i64 d.1.du] 56))).set_ 0 (.int .i64 d.1.lv)).set_ 1 (.int .i64 d.1.fr)).set_ 2 (.int .i64 d.1.le)).set_ 3 (.int .i64 d.1.du)
    have e0 := hs.cell 0; have e1 := hs.cell 1; have e2 := hs.cell 2; have e3 := hs.cell 3
    simp at e0 e1 e2 e3
    refine bodyPost_ret (v := .tuple #[.agg #[.int .i64 d.1.lv, .int .i64 d.1.fr, .int .i64 d.1.le, .int .i64 d.1.du], .bool (d.2 == 0), .int .i64 d.2]) (by simp [results, Try.results35, go_sem, e0, e1, e2, e3]) rfl ?_
    have tf := ((((Touch.refl (fun q => w.heap.size ≤ q) (w2.alloc (.cells #[.int .i64 d.1.lv, .int .i64 d.1.fr, .int .i64 d.1.le, .int .i64 d.1.du] 56))).set (b := w.heap.size + 3) (o := 0) (fun _ => by omega) (.int .i64 d.1.lv)).set (b := w.heap.size + 3) (o := 1) (fun _ => by omega) (.int .i64 d.1.fr)).set (b := w.heap.size + 3) (o := 2) (fun _ => by omega) (.int .i64 d.1.le)).set (b := w.heap.size + 3) (o := 3) (fun _ => by omega) (.int .i64 d.1.du)
    rw [HW.out, show decide (d.2 = 0) = (d.2 == 0) from by cases h : decide (d.2 = 0) <;> simp_all]
    exact ⟨rfl, (HTv.out).trans tf (fun q hq e => by omega)⟩
  · intro Kc hKc
    go_simp
    refine hKc _ _ ⟨((Touch.refl (fun q => w.heap.size + 4 ≤ q) w1.drew).alloc (.cells #[.int .i64 0, .int .i64 0, .int .i64 0, .int .i64 0] 56)), ?_⟩
    clear hKc Kc
    have HTa := Lib.hid (HTd.out.alloc (.cells #[.int .i64 0, .int .i64 0, .int .i64 0, .int .i64 0] 56))
    have HBN := Lib.hid (show Blk (w1.drew.alloc (.cells #[.int .i64 0, .int .i64 0, .int .i64 0, .int .i64 0] 56)) w1.heap.size 56 #[.int .i64 0, .int .i64 0, .int .i64 0, .int .i64 0] from Blk.new w1.drew 56 #[.int .i64 0, .int .i64 0, .int .i64 0, .int .i64 0])
    have HB3_3 := Lib.hid (HB3_2.out.alloc (.cells #[.int .i64 0, .int .i64 0, .int .i64 0, .int .i64 0] 56))
    have hz2 : w.heap.size + 4 ≤ w1.heap.size := by have := hz1; simp at *; omega
    clear c0 c1 c2 k0 k1 k2 k3 q0 q1 q2 q3 l1
    refine plan_a1 rfl (by rfl) (fun Kc hKc => ?_)
    go_simp
    refine (HD.out _ (by exact HR.out.touch HTa.out (fun _ _ e => e))).mono ?_
    rintro e w2 ⟨rfl, t2⟩
    refine hKc _ _ ⟨t2.mono (fun q hq e => e.elim), ?_⟩
    clear hKc Kc
    have HT2 := Lib.hid (HTa.out.trans t2 (fun _ _ e => e))
    have hbn := t2.blk HBN.out (fun e => e)
    have hb3 := t2.blk HB3_3.out (fun e => e)
    have hz3 : w1.heap.size + 1 ≤ w2.heap.size := by have := t2.size; simpa using this
    have HB3_4 := Lib.hid hb3
    have p0 := hb3.cell 0; have p1 := hb3.cell 1; have p2 := hb3.cell 2; have p3 := hb3.cell 3; simp at p0 p1 p2 p3
    have z0 := hb3.frozen 0; have z1 := hb3.frozen 1; have z2 := hb3.frozen 2; have z3 := hb3.frozen 3
    have n0 := hbn.cell 0; have n1 := hbn.cell 1; have n2 := hbn.cell 2; have n3 := hbn.cell 3; simp at n0 n1 n2 n3
    have nz0 := hbn.frozen 0; have nz1 := hbn.frozen 1; have nz2 := hbn.frozen 2; have nz3 := hbn.frozen 3
    clear hbn hb3 t2
    iterate 3
      apply plan_h
      · rfl
      · rfl
      · intro wh hT
        go_simp
        try rfl
      go_frame
    refine plan_a1 rfl (by rfl) (fun Kc hKc => ?_)
    go_simp
    refine hKc _ _ ⟨(((((Touch.refl (fun q => w.heap.size + 4 ≤ q) w2).set (b := w1.heap.size) (o := 0) (fun _ => by omega) (.int .i64 d.1.lv)).set (b := w1.heap.size) (o := 1) (fun _ => by omega) (.int .i64 d.1.fr)).set (b := w1.heap.size) (o := 2) (fun _ => by omega) (.int .i64 d.1.le)).set (b := w1.heap.size) (o := 3) (fun _ => by omega) (.int .i64 d.1.du) : Touch (fun q => w.heap.size + 4 ≤ q) w2 (World.setCell (World.setCell (World.setCell (World.setCell w2 ⟨w1.heap.size, 0, none⟩ (.int .i64 d.1.lv)) ⟨w1.heap.size, 1, none⟩ (.int .i64 d.1.fr)) ⟨w1.heap.size, 2, none⟩ (.int .i64 d.1.le)) ⟨w1.heap.size, 3, none⟩ (.int .i64 d.1.du))), ?_⟩
    clear hKc Kc
    iterate 1
      apply plan_h
      · rfl
      · rfl
      · intro wh hT
        go_simp
        try rfl
      go_frame
    refine plan_done ?_
    have hne3 : ¬ w.heap.size + 3 = w1.heap.size := by omega
    have hne3' : ¬ w.heap.size + 1 + 1 + 1 = w1.heap.size := by omega
    go_wp2_with fail
    have hs := ((((((((HB3_4.out).far (p := ⟨w1.heap.size, 0, none⟩) (by simp <;> omega) (.int .i64 d.1.lv)).far (p := ⟨w1.heap.size, 1, none⟩) (by simp <;> omega) (.int .i64 d.1.fr)).far (p := ⟨w1.heap.size, 2, none⟩) (by simp <;> omega) (.int .i64 d.1.le)).far (p := ⟨w1.heap.size, 3, none⟩) (by simp <;> omega) (.int .i64 d.1.du)).set_ 0 (.int .i64 d.1.lv)).set_ 1 (.int .i64 d.1.fr)).set_ 2 (.int .i64 d.1.le)).set_ 3 (.int .i64 d.1.du)
    have e0 := hs.cell 0; have e1 := hs.cell 1; have e2 := hs.cell 2; have e3 := hs.cell 3
    simp at e0 e1 e2 e3
    refine bodyPost_ret (v := .tuple #[.agg #[.int .i64 d.1.lv, .int .i64 d.1.fr, .int .i64 d.1.le, .int .i64 d.1.du], .bool (d.2 == 0), .int .i64 d.2]) (by simp [results, Try.results35, go_sem, e0, e1, e2, e3]) rfl ?_
    have tf := ((((((((Touch.refl (fun q => w.heap.size ≤ q) w2).set (b := w1.heap.size) (o := 0) (fun _ => by omega) (.int .i64 d.1.lv)).set (b := w1.heap.size) (o := 1) (fun _ => by omega) (.int .i64 d.1.fr)).set (b := w1.heap.size) (o := 2) (fun _ => by omega) (.int .i64 d.1.le)).set (b := w1.heap.size) (o := 3) (fun _ => by omega) (.int .i64 d.1.du)).set (b := w.heap.size + 3) (o := 0) (fun _ => by omega) (.int .i64 d.1.lv)).set (b := w.heap.size + 3) (o := 1) (fun _ => by omega) (.int .i64 d.1.fr)).set (b := w.heap.size + 3) (o := 2) (fun _ => by omega) (.int .i64 d.1.le)).set (b := w.heap.size + 3) (o := 3) (fun _ => by omega) (.int .i64 d.1.du)
    rw [HW.out, show decide (d.2 = 0) = (d.2 == 0) from by cases h : decide (d.2 = 0) <;> simp_all]
    exact ⟨rfl, (HT2.out).trans tf (fun q hq e => by omega)⟩
end PF
end Go.Proofs.Ytcblbjhhlnmkjaa
