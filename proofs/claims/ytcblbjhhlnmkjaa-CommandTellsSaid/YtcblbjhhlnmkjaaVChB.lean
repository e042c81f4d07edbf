/- Package chain: a step, First, Next, Stand, Go of a clock. (written by genchB.py) -/
import Derived.Test.YtcblbjhhlnmkjaaChA
import Derived.Test.YtcblbjhhlnmkjaaVCbC
namespace Go.Proofs.Ytcblbjhhlnmkjaa
open Go.RowKit Cal
set_option maxHeartbeats 4000000
set_option maxRecDepth 100000
set_option linter.unusedVariables false
attribute [local irreducible] wpPlan

/-- A step: its level, from, left, due. -/
structure St where
  lv : Int
  fr : Int
  le : Int
  du : Int
def St.z : St := ⟨0, 0, 0, 0⟩
noncomputable def begV (c : Ca) (lv le now : Int) : St × Int := if (c.due now le).2 = 0 then (⟨lv, now, le, (c.due now le).1⟩, 0) else (St.z, (c.due now le).2)
def bud (t : Co) (i : Nat) : Int := match t.lv[i]? with | some s => s.f | none => 0
noncomputable def firstV (c : Ca) (t : Co) (now : Int) : St × Int := if goodB t = true then begV c 0 (bud t 0) now else (St.z, 2)
noncomputable def nextV (c : Ca) (t : Co) (s : St) (now : Int) : (St × Bool) × Int :=
  if goodB t = true ∧ 0 ≤ s.lv ∧ s.lv < t.lv.length then (if s.lv = t.lv.length - 1 then ((St.z, false), 0) else (((begV c (s.lv + 1) (bud t (s.lv + 1).toNat) now).1, decide ((begV c (s.lv + 1) (bud t (s.lv + 1).toNat) now).2 = 0)), (begV c (s.lv + 1) (bud t (s.lv + 1).toNat) now).2)) else ((St.z, false), 2)
noncomputable def standV (c : Ca) (s : St) (now : Int) : St × Int :=
  if s.du = 0 then (St.z, 33) else if s.du ≤ now then (St.z, 34) else if (c.rest s.fr s.le now).2 = 0 then (⟨s.lv, now, (c.rest s.fr s.le now).1, 0⟩, 0) else (St.z, (c.rest s.fr s.le now).2)
noncomputable def goV (c : Ca) (s : St) (now : Int) : St × Int := if s.du ≠ 0 then (St.z, 33) else if s.le < 1 then (St.z, 2) else begV c s.lv s.le now
/-- What a step's function of a clock answers. -/
def CkS (k a p b : Nat) (c : Ca) (G : Nat → Prop) (r : St × Int) (w : World) (e : Ending) (w' : World) : Prop :=
  CkV k a p b c G (.tuple #[.agg #[.int .i64 r.1.lv, .int .i64 r.1.fr, .int .i64 r.1.le, .int .i64 r.1.du], .int .i64 r.2]) w e w'
def ElS (r : St × Int) (w : World) (e : Ending) (w' : World) : Prop := e = .returned (.tuple #[.agg #[.int .i64 r.1.lv, .int .i64 r.1.fr, .int .i64 r.1.le, .int .i64 r.1.du], .int .i64 r.2]) ∧ Touch (fun _ => False) w w'
/-- A clock's call inside a function with blocks of its own. -/
theorem CkAt.wrap {w W0 w1 W : World} {k a p b : Nat} {c : Ca} {G : Nat → Prop} (h : CkAt w k a p b c G) (t0 : Touch (fun _ => False) w W0) (ck : CkAt w1 k a p b c (More (fun q => G q ∧ q < w.heap.size) W0 w1)) (t1 : Touch (fun q => q = b) W0 w1) (t2 : Touch (fun q => w.heap.size ≤ q ∧ q < W0.heap.size) w1 W) :
    CkAt W k a p b c (More G w W) ∧ Touch (fun q => q = b) w W := by
  have hb := h.bl
  have s0 := t0.size
  have s1 := t1.size
  have s2 := t2.size
  refine ⟨(ck.touch t2 (fun e => by omega) (fun q hq e => ?_)).grow (fun q hq => ?_) (fun e => ?_), ((t0.mono (S' := fun q => q = b) (fun _ _ e => e.elim)).trans t1 (fun _ _ e => e)).trans t2 (fun q hq e => by omega)⟩
  · rcases hq with hq | hq <;> omega
  · rcases hq with hq | hq
    · exact .inl hq.1
    · exact .inr (by omega)
  · rcases e with e | e
    · exact h.nb e
    · omega
theorem CkAt.wrap0 {w W : World} {k a p b : Nat} {c : Ca} {G : Nat → Prop} (h : CkAt w k a p b c G) (t2 : Touch (fun q => w.heap.size ≤ q) w W) : CkAt W k a p b c (More G w W) ∧ Touch (fun q => q = b) w W := by
  have hb := h.bl
  have s2 := t2.size
  refine ⟨((h.shrink).touch t2 (fun e => by omega) (fun q hq e => by omega)).grow (fun q hq => .inl hq.1) (fun e => ?_), (Touch.refl (fun q => q = b) w).trans t2 (fun q hq e => by omega)⟩
  rcases e with e | e
  · exact h.nb e
  · omega

theorem sat_any (k a p b : Nat) (c : Ca) (G : Nat → Prop) (x : St) (now : Int) (w : World) (h : CkAt w k a p b c G) (hy : x.le ≤ 9223372036854775807) :
    Calls Try.prog 92 #[.agg #[.int .i64 x.lv, .int .i64 x.fr, .int .i64 x.le, .int .i64 x.du], .pointer (some ⟨k, 0, none⟩), .int .i64 now] w (CkS k a p b c G (begV c x.lv x.le now) w) := by
  have ht0 : Touch (fun _ => False) w ((w.alloc (.cells #[.int .i64 x.lv, .int .i64 x.fr, .int .i64 x.le, .int .i64 x.du] 48)).alloc (.cells #[.int .i64 0, .int .i64 0, .int .i64 0, .int .i64 0] 48)) := ((Touch.refl _ w).alloc _).alloc _
  have HK := Lib.hid (h.shrink.none ht0)
  have HH := Lib.hid h
  have HT0 := Lib.hid ht0
  have HB0 := Lib.hid ((Blk.new w 48 #[.int .i64 x.lv, .int .i64 x.fr, .int .i64 x.le, .int .i64 x.du]).alloc (.cells #[.int .i64 0, .int .i64 0, .int .i64 0, .int .i64 0] 48))
  have HB1 := Lib.hid (show Blk ((w.alloc (.cells #[.int .i64 x.lv, .int .i64 x.fr, .int .i64 x.le, .int .i64 x.du] 48)).alloc (.cells #[.int .i64 0, .int .i64 0, .int .i64 0, .int .i64 0] 48)) (w.heap.size + 1) 48 #[.int .i64 0, .int .i64 0, .int .i64 0, .int .i64 0] by simpa using Blk.new (w.alloc (.cells #[.int .i64 x.lv, .int .i64 x.fr, .int .i64 x.le, .int .i64 x.du] 48)) 48 #[.int .i64 0, .int .i64 0, .int .i64 0, .int .i64 0])
  have hbl := h.bl
  have HV := Lib.hid (show begV c x.lv x.le now = if (c.due now x.le).2 = 0 then (⟨x.lv, now, x.le, (c.due now x.le).1⟩, 0) else (St.z, (c.due now x.le).2) from rfl)
  have HD := Lib.hid (fun w1 hk => cdue_any k a p b c (fun q => G q ∧ q < w.heap.size) now x.le w1 hk hy)
  generalize c.due now x.le = d at *
  generalize begV c x.lv x.le now = r at *
  obtain ⟨lv, fr, le, du⟩ := x
  simp only at *
  clear h hy ht0
  by_cases hd : d.2 = 0
  · have HR := Lib.hid (show r = (⟨lv, now, le, d.1⟩, 0) by rw [HV.out, if_pos hd])
    go_enter Try.func92, Try.ntmps92
    go_wp2_with (go_at_call 120; go_must (refine (HD.out _ (by exact HK.out)).mono ?_); rintro e w1 ⟨rfl, ck, t1⟩; rw [hd]; have HC1 := Lib.hid ck; have HT1 := Lib.hid t1; have hbx := t1.blk HB0.out (by omega); have hby := t1.blk HB1.out (by omega); have q0 := hbx.cell 0; have q1 := hbx.cell 1; have q2 := hbx.cell 2; have q3 := hbx.cell 3; simp at q0 q1 q2 q3; have y0 := hbx.frozen 0; have y1 := hbx.frozen 1; have y2 := hbx.frozen 2; have y3 := hbx.frozen 3; have z0 := hby.frozen 0; have z1 := hby.frozen 1; have z2 := hby.frozen 2; have z3 := hby.frozen 3; have p0 := hby.cell 0; have p1 := hby.cell 1; have p2 := hby.cell 2; have p3 := hby.cell 3; simp at p0 p1 p2 p3; have HBX := Lib.hid hbx; have HBY := Lib.hid hby; clear hbx hby ck t1)
    have hs := ((((((HBY.out).far (p := ⟨w.heap.size, 1, none⟩) (by simp) (.int .i64 now)).far (p := ⟨w.heap.size, 3, none⟩) (by simp) (.int .i64 d.1)).set_ 0 (.int .i64 lv)).set_ 1 (.int .i64 now)).set_ 2 (.int .i64 le)).set_ 3 (.int .i64 d.1)
    have e0 := hs.cell 0; have e1 := hs.cell 1; have e2 := hs.cell 2; have e3 := hs.cell 3
    simp at e0 e1 e2 e3
    refine bodyPost_ret (v := .tuple #[.agg #[.int .i64 lv, .int .i64 now, .int .i64 le, .int .i64 d.1], .int .i64 0]) (by simp [results, Try.results92, go_sem, e0, e1, e2, e3]) rfl ?_
    have tf := ((((((Touch.refl (fun q => w.heap.size ≤ q ∧ q < ((w.alloc (.cells #[.int .i64 lv, .int .i64 fr, .int .i64 le, .int .i64 du] 48)).alloc (.cells #[.int .i64 0, .int .i64 0, .int .i64 0, .int .i64 0] 48)).heap.size) w1).set (b := w.heap.size) (o := 1) (fun _ => ⟨by omega, by simp <;> omega⟩) (.int .i64 now)).set (b := w.heap.size) (o := 3) (fun _ => ⟨by omega, by simp <;> omega⟩) (.int .i64 d.1)).set (b := w.heap.size + 1) (o := 0) (fun _ => ⟨by omega, by simp <;> omega⟩) (.int .i64 lv)).set (b := w.heap.size + 1) (o := 1) (fun _ => ⟨by omega, by simp <;> omega⟩) (.int .i64 now)).set (b := w.heap.size + 1) (o := 2) (fun _ => ⟨by omega, by simp <;> omega⟩) (.int .i64 le)).set (b := w.heap.size + 1) (o := 3) (fun _ => ⟨by omega, by simp <;> omega⟩) (.int .i64 d.1)
    have hf := CkAt.wrap HH.out HT0.out HC1.out HT1.out tf
    rw [HR.out]
    exact ⟨rfl, hf.1, hf.2⟩
  · have HR := Lib.hid (show r = (St.z, d.2) by rw [HV.out, if_neg hd])
    have hdb : (d.2 != 0) = true := by simpa using hd
    go_enter Try.func92, Try.ntmps92
    go_wp2_with (go_at_call 120; go_must (refine (HD.out _ (by exact HK.out)).mono ?_); rintro e w1 ⟨rfl, ck, t1⟩; have HC1 := Lib.hid ck; have HT1 := Lib.hid t1; have hbx := t1.blk HB0.out (by omega); have hby := t1.blk HB1.out (by omega); have q0 := hbx.cell 0; have q1 := hbx.cell 1; have q2 := hbx.cell 2; have q3 := hbx.cell 3; simp at q0 q1 q2 q3; have y0 := hbx.frozen 0; have y1 := hbx.frozen 1; have y2 := hbx.frozen 2; have y3 := hbx.frozen 3; have z0 := hby.frozen 0; have z1 := hby.frozen 1; have z2 := hby.frozen 2; have z3 := hby.frozen 3; have p0 := hby.cell 0; have p1 := hby.cell 1; have p2 := hby.cell 2; have p3 := hby.cell 3; simp at p0 p1 p2 p3; have HBX := Lib.hid hbx; have HBY := Lib.hid hby; clear hbx hby ck t1)
    have hs := ((((HBY.out).set_ 0 (.int .i64 0)).set_ 1 (.int .i64 0)).set_ 2 (.int .i64 0)).set_ 3 (.int .i64 0)
    have e0 := hs.cell 0; have e1 := hs.cell 1; have e2 := hs.cell 2; have e3 := hs.cell 3
    simp at e0 e1 e2 e3
    refine bodyPost_ret (v := .tuple #[.agg #[.int .i64 0, .int .i64 0, .int .i64 0, .int .i64 0], .int .i64 d.2]) (by simp [results, Try.results92, go_sem, e0, e1, e2, e3]) rfl ?_
    have tf := ((((Touch.refl (fun q => w.heap.size ≤ q ∧ q < ((w.alloc (.cells #[.int .i64 lv, .int .i64 fr, .int .i64 le, .int .i64 du] 48)).alloc (.cells #[.int .i64 0, .int .i64 0, .int .i64 0, .int .i64 0] 48)).heap.size) w1).set (b := w.heap.size + 1) (o := 0) (fun _ => ⟨by omega, by simp <;> omega⟩) (.int .i64 0)).set (b := w.heap.size + 1) (o := 1) (fun _ => ⟨by omega, by simp <;> omega⟩) (.int .i64 0)).set (b := w.heap.size + 1) (o := 2) (fun _ => ⟨by omega, by simp <;> omega⟩) (.int .i64 0)).set (b := w.heap.size + 1) (o := 3) (fun _ => ⟨by omega, by simp <;> omega⟩) (.int .i64 0)
    have hf := CkAt.wrap HH.out HT0.out HC1.out HT1.out tf
    rw [HR.out]
    exact ⟨rfl, hf.1, hf.2⟩

theorem bud_at {t : Co} {i : Nat} {s : Sp} (h : t.lv[i]? = some s) : bud t i = s.f := by unfold bud; rw [h]
theorem kfirst_any (k a p b : Nat) (c : Ca) (G F : Nat → Prop) (A : Option Addr) (n : Nat) (t : Co) (now : Int) (w : World) (h : CkAt w k a p b c G) (hr : SpR w F A t.lv.length t.lv) :
    Calls Try.prog 32 #[.pointer (some ⟨k, 0, none⟩), .agg #[.int .i64 t.cal, .slice A t.lv.length n, .int .i64 t.rt, .int .i64 t.bk], .int .i64 now] w (CkS k a p b c G (firstV c t now) w) := by
  have ht0 : Touch (fun _ => False) w ((w.alloc (.cells #[.int .i64 t.cal, .slice A t.lv.length n, .int .i64 t.rt, .int .i64 t.bk] 28)).alloc (.cells #[.int .i64 0, .int .i64 0, .int .i64 0, .int .i64 0] 48)) := ((Touch.refl _ w).alloc _).alloc _
  have HT0 := Lib.hid ht0
  have HB0 := Lib.hid ((Blk.new w 28 #[.int .i64 t.cal, .slice A t.lv.length n, .int .i64 t.rt, .int .i64 t.bk]).alloc (.cells #[.int .i64 0, .int .i64 0, .int .i64 0, .int .i64 0] 48))
  have HB1 := Lib.hid (show Blk ((w.alloc (.cells #[.int .i64 t.cal, .slice A t.lv.length n, .int .i64 t.rt, .int .i64 t.bk] 28)).alloc (.cells #[.int .i64 0, .int .i64 0, .int .i64 0, .int .i64 0] 48)) (w.heap.size + 1) 48 #[.int .i64 0, .int .i64 0, .int .i64 0, .int .i64 0] by simpa using Blk.new (w.alloc (.cells #[.int .i64 t.cal, .slice A t.lv.length n, .int .i64 t.rt, .int .i64 t.bk] 28)) 48 #[.int .i64 0, .int .i64 0, .int .i64 0, .int .i64 0])
  have HC := Lib.hid (fun w1 hr => kcheck_any F A n t w1 hr)
  have HH := Lib.hid h
  have HR := Lib.hid hr
  have hbl := h.bl
  have HV := Lib.hid (show firstV c t now = if goodB t = true then begV c 0 (bud t 0) now else (St.z, 2) from rfl)
  have HG := Lib.hid (show goodE t = if goodB t = true then 0 else 2 from rfl)
  clear ht0
  cases hg : goodB t
  · rw [hg] at HG HV
    have HE := Lib.hid (show goodE t = 2 by rw [HG.out]; rfl)
    have HV := Lib.hid (show firstV c t now = (St.z, 2) by rw [HV.out]; rfl)
    generalize firstV c t now = r at *
    generalize goodE t = ge at *
    obtain ⟨cal, lv, rt, bk⟩ := t
    simp only at *
    clear h hr HG hg
    go_enter Try.func32, Try.ntmps32
    go_wp2_with (go_at_call 79; go_must (refine (HC.out _ (by exact HR.out.touch HT0.out (fun _ _ e => e))).mono ?_); rintro e w1 ⟨rfl, t1⟩; rw [HE.out]; have HT1 := Lib.hid (HT0.out.trans t1 (fun _ _ e => e)); have hz1 : w.heap.size + 2 ≤ w1.heap.size := (by have := HT1.out.size; have := t1.size; simp at this; omega); have hbx := t1.blk HB0.out (fun e => e); have hby := t1.blk HB1.out (fun e => e); have q0 := hbx.cell 0; have q1 := hbx.cell 1; have q2 := hbx.cell 2; have q3 := hbx.cell 3; simp at q0 q1 q2 q3; have z0 := hby.frozen 0; have z1 := hby.frozen 1; have z2 := hby.frozen 2; have z3 := hby.frozen 3; have p0 := hby.cell 0; have p1 := hby.cell 1; have p2 := hby.cell 2; have p3 := hby.cell 3; simp at p0 p1 p2 p3; have HBX := Lib.hid hbx; have HBY := Lib.hid hby; clear hbx hby t1)
    have hs := ((((HBY.out).set_ 0 (.int .i64 0)).set_ 1 (.int .i64 0)).set_ 2 (.int .i64 0)).set_ 3 (.int .i64 0)
    have e0 := hs.cell 0; have e1 := hs.cell 1; have e2 := hs.cell 2; have e3 := hs.cell 3
    simp at e0 e1 e2 e3
    refine bodyPost_ret (v := .tuple #[.agg #[.int .i64 0, .int .i64 0, .int .i64 0, .int .i64 0], .int .i64 2]) (by simp [results, Try.results32, go_sem, e0, e1, e2, e3]) rfl ?_
    have tf := ((((Touch.refl (fun q => w.heap.size ≤ q) w1).set (b := w.heap.size + 1) (o := 0) (fun _ => by omega) (.int .i64 0)).set (b := w.heap.size + 1) (o := 1) (fun _ => by omega) (.int .i64 0)).set (b := w.heap.size + 1) (o := 2) (fun _ => by omega) (.int .i64 0)).set (b := w.heap.size + 1) (o := 3) (fun _ => by omega) (.int .i64 0)
    have hf := CkAt.wrap0 HH.out ((HT1.out.mono (S' := fun q => w.heap.size ≤ q) (fun _ _ e => e.elim)).trans tf (fun q hq e => e))
    rw [HV.out]
    exact ⟨rfl, hf.1, hf.2⟩
  · rw [hg] at HG HV
    have HE := Lib.hid (show goodE t = 0 by rw [HG.out]; rfl)
    have HV := Lib.hid (show firstV c t now = begV c 0 (bud t 0) now by rw [HV.out]; rfl)
    have hgl := good_hd hg
    have ha : t.lv[0]? = some (t.lv[0]'(by omega)) := List.getElem?_eq_getElem _
    have hgb := good_lv hg _ (List.getElem_mem (show 0 < t.lv.length by omega))
    obtain ⟨g, off, rfl, hgh, -, hc0, -⟩ := hr.at_ ha
    rw [bud_at ha] at HV
    generalize t.lv[0]'_ = s0 at *
    have HS := Lib.hid (fun w1 hk => sat_any k a p b c (fun q => G q ∧ q < w.heap.size) ⟨0, 0, s0.f, 0⟩ now w1 hk (by simp only; omega))
    simp only at HS
    rw [← HV.out] at HS
    generalize firstV c t now = r at *
    generalize goodE t = ge at *
    obtain ⟨cal, lv, rt, bk⟩ := t
    simp only [Nat.zero_mul, Nat.add_zero] at *
    obtain ⟨sf, st⟩ := s0
    simp only at *
    clear h hr HG hg HV ha hgb
    go_enter Try.func32, Try.ntmps32
    go_wp2_with (first
      | (go_at_call 79; go_must (refine (HC.out _ (by exact HR.out.touch HT0.out (fun _ _ e => e))).mono ?_); rintro e w1 ⟨rfl, t1⟩; rw [HE.out]; have HT1 := Lib.hid (HT0.out.trans t1 (fun _ _ e => e)); have hz1 : w.heap.size + 2 ≤ w1.heap.size := (by have := HT1.out.size; have := t1.size; simp at this; omega); have hbx := t1.blk HB0.out (fun e => e); have hby := t1.blk HB1.out (fun e => e); have q0 := hbx.cell 0; have q1 := hbx.cell 1; have q2 := hbx.cell 2; have q3 := hbx.cell 3; simp at q0 q1 q2 q3; have z0 := hby.frozen 0; have z1 := hby.frozen 1; have z2 := hby.frozen 2; have z3 := hby.frozen 3; have p0 := hby.cell 0; have p1 := hby.cell 1; have p2 := hby.cell 2; have p3 := hby.cell 3; simp at p0 p1 p2 p3; have HBX := Lib.hid hbx; have HBY := Lib.hid hby; clear hbx hby t1; have l0 : w1.cell? ⟨g, off, none⟩ = some (.int .i64 sf) := (HT1.out.cell (p := ⟨g, off, none⟩) hgh (fun e => e)).trans hc0; have hl0 : (0 : Int) < lv.length := (by omega))
      | (go_at_call 92; go_must (refine (HS.out _ (by exact HH.out.shrink.none HT1.out)).mono ?_); rintro e w2 ⟨rfl, ck, t2⟩; have HC2 := Lib.hid ck; have HT2 := Lib.hid t2; clear q0 q1 q2 q3 p0 p1 p2 p3 z0 z1 z2 z3; have hby := t2.blk HBY.out (by omega); have z0 := hby.frozen 0; have z1 := hby.frozen 1; have z2 := hby.frozen 2; have z3 := hby.frozen 3; have p0 := hby.cell 0; have p1 := hby.cell 1; have p2 := hby.cell 2; have p3 := hby.cell 3; simp at p0 p1 p2 p3; have HBY2 := Lib.hid hby; clear hby ck t2))
    have hs := ((((HBY2.out).set_ 0 (.int .i64 r.1.lv)).set_ 1 (.int .i64 r.1.fr)).set_ 2 (.int .i64 r.1.le)).set_ 3 (.int .i64 r.1.du)
    have e0 := hs.cell 0; have e1 := hs.cell 1; have e2 := hs.cell 2; have e3 := hs.cell 3
    simp at e0 e1 e2 e3
    refine bodyPost_ret (v := .tuple #[.agg #[.int .i64 r.1.lv, .int .i64 r.1.fr, .int .i64 r.1.le, .int .i64 r.1.du], .int .i64 r.2]) (by simp [results, Try.results32, go_sem, e0, e1, e2, e3]) rfl ?_
    have tf := ((((Touch.refl (fun q => w.heap.size ≤ q ∧ q < w1.heap.size) w2).set (b := w.heap.size + 1) (o := 0) (fun _ => ⟨by omega, by omega⟩) (.int .i64 r.1.lv)).set (b := w.heap.size + 1) (o := 1) (fun _ => ⟨by omega, by omega⟩) (.int .i64 r.1.fr)).set (b := w.heap.size + 1) (o := 2) (fun _ => ⟨by omega, by omega⟩) (.int .i64 r.1.le)).set (b := w.heap.size + 1) (o := 3) (fun _ => ⟨by omega, by omega⟩) (.int .i64 r.1.du)
    have hf := CkAt.wrap HH.out HT1.out HC2.out HT2.out tf
    exact ⟨rfl, hf.1, hf.2⟩

theorem going_any (lv fr le du : Int) (w : World) : Calls Try.prog 89 #[.agg #[.int .i64 lv, .int .i64 fr, .int .i64 le, .int .i64 du]] w fun e w' => e = .returned (.bool (du != 0)) ∧ Touch (fun _ => False) w w' := by
  have HT := Lib.hid ((Touch.refl (fun _ => False) w).alloc (.cells #[.int .i64 lv, .int .i64 fr, .int .i64 le, .int .i64 du] 48))
  go_enter Try.func89, Try.ntmps89
  go_wp2
  go_ret
  exact ⟨rfl, HT.out⟩
theorem kstand_any (k a p b : Nat) (c : Ca) (G : Nat → Prop) (x : St) (now : Int) (w : World) (h : CkAt w k a p b c G) (hy : x.le ≤ 9223372036854775807) :
    Calls Try.prog 27 #[.pointer (some ⟨k, 0, none⟩), .agg #[.int .i64 x.lv, .int .i64 x.fr, .int .i64 x.le, .int .i64 x.du], .int .i64 now] w (CkS k a p b c G (standV c x now) w) := by
  obtain ⟨lv, fr, le, du⟩ := x
  simp only at *
  have ht0 : Touch (fun _ => False) w ((w.alloc (.cells #[.int .i64 lv, .int .i64 fr, .int .i64 le, .int .i64 du] 48)).alloc (.cells #[.int .i64 0, .int .i64 0, .int .i64 0, .int .i64 0] 48)) := ((Touch.refl _ w).alloc _).alloc _
  have HT0 := Lib.hid ht0
  have HB0 := Lib.hid ((Blk.new w 48 #[.int .i64 lv, .int .i64 fr, .int .i64 le, .int .i64 du]).alloc (.cells #[.int .i64 0, .int .i64 0, .int .i64 0, .int .i64 0] 48))
  have HB1 := Lib.hid (show Blk ((w.alloc (.cells #[.int .i64 lv, .int .i64 fr, .int .i64 le, .int .i64 du] 48)).alloc (.cells #[.int .i64 0, .int .i64 0, .int .i64 0, .int .i64 0] 48)) (w.heap.size + 1) 48 #[.int .i64 0, .int .i64 0, .int .i64 0, .int .i64 0] by simpa using Blk.new (w.alloc (.cells #[.int .i64 lv, .int .i64 fr, .int .i64 le, .int .i64 du] 48)) 48 #[.int .i64 0, .int .i64 0, .int .i64 0, .int .i64 0])
  have HH := Lib.hid h
  have hbl := h.bl
  clear ht0
  have HV := Lib.hid (show standV c ⟨lv, fr, le, du⟩ now = if du = 0 then (St.z, 33) else if du ≤ now then (St.z, 34) else if (c.rest fr le now).2 = 0 then (⟨lv, now, (c.rest fr le now).1, 0⟩, 0) else (St.z, (c.rest fr le now).2) from rfl)
  have HD := Lib.hid (fun w1 hk => crest_any k a p b c (fun q => G q ∧ q < w.heap.size) fr le now w1 hk hy)
  generalize c.rest fr le now = d at *
  generalize standV c ⟨lv, fr, le, du⟩ now = r at *
  clear h hy
  by_cases h0 : du = 0
  · have HV := Lib.hid (show r = (St.z, 33) by rw [HV.out, if_pos h0])
    have hdu : (du != 0) = false := by simpa using h0
    clear HD h0
    go_enter Try.func27, Try.ntmps27
    go_wp2_with (go_at_call 89; go_must (refine (going_any _ _ _ _ _).mono ?_); rintro e w1 ⟨rfl, t1⟩; rw [hdu]; have HT1 := Lib.hid (HT0.out.trans t1 (fun _ _ e => e)); have hz1 : w.heap.size + 2 ≤ w1.heap.size := (by have := HT1.out.size; have := t1.size; simp at this; omega); have hbx := t1.blk HB0.out (fun e => e); have hby := t1.blk HB1.out (fun e => e); have q0 := hbx.cell 0; have q1 := hbx.cell 1; have q2 := hbx.cell 2; have q3 := hbx.cell 3; simp at q0 q1 q2 q3; have z0 := hby.frozen 0; have z1 := hby.frozen 1; have z2 := hby.frozen 2; have z3 := hby.frozen 3; have p0 := hby.cell 0; have p1 := hby.cell 1; have p2 := hby.cell 2; have p3 := hby.cell 3; simp at p0 p1 p2 p3; have HBX := Lib.hid hbx; have HBY := Lib.hid hby; clear hbx hby t1)
    have hs := ((((HBY.out).set_ 0 (.int .i64 0)).set_ 1 (.int .i64 0)).set_ 2 (.int .i64 0)).set_ 3 (.int .i64 0)
    have e0 := hs.cell 0; have e1 := hs.cell 1; have e2 := hs.cell 2; have e3 := hs.cell 3
    simp at e0 e1 e2 e3
    refine bodyPost_ret (v := .tuple #[.agg #[.int .i64 0, .int .i64 0, .int .i64 0, .int .i64 0], .int .i64 33]) (by simp [results, Try.results27, go_sem, e0, e1, e2, e3]) rfl ?_
    have tf := ((((Touch.refl (fun q => w.heap.size ≤ q) w1).set (b := w.heap.size + 1) (o := 0) (fun _ => by omega) (.int .i64 0)).set (b := w.heap.size + 1) (o := 1) (fun _ => by omega) (.int .i64 0)).set (b := w.heap.size + 1) (o := 2) (fun _ => by omega) (.int .i64 0)).set (b := w.heap.size + 1) (o := 3) (fun _ => by omega) (.int .i64 0)
    have hf := CkAt.wrap0 HH.out ((HT1.out.mono (S' := fun q => w.heap.size ≤ q) (fun _ _ e => e.elim)).trans tf (fun q hq e => e))
    rw [HV.out]
    exact ⟨rfl, hf.1, hf.2⟩
  have hdu : (du != 0) = true := by simpa using h0
  by_cases h1 : du ≤ now
  · have HV := Lib.hid (show r = (St.z, 34) by rw [HV.out, if_neg h0, if_pos h1])
    clear HD
    go_enter Try.func27, Try.ntmps27
    go_wp2_with (go_at_call 89; go_must (refine (going_any _ _ _ _ _).mono ?_); rintro e w1 ⟨rfl, t1⟩; rw [hdu]; have HT1 := Lib.hid (HT0.out.trans t1 (fun _ _ e => e)); have hz1 : w.heap.size + 2 ≤ w1.heap.size := (by have := HT1.out.size; have := t1.size; simp at this; omega); have hbx := t1.blk HB0.out (fun e => e); have hby := t1.blk HB1.out (fun e => e); have q0 := hbx.cell 0; have q1 := hbx.cell 1; have q2 := hbx.cell 2; have q3 := hbx.cell 3; simp at q0 q1 q2 q3; have z0 := hby.frozen 0; have z1 := hby.frozen 1; have z2 := hby.frozen 2; have z3 := hby.frozen 3; have p0 := hby.cell 0; have p1 := hby.cell 1; have p2 := hby.cell 2; have p3 := hby.cell 3; simp at p0 p1 p2 p3; have HBX := Lib.hid hbx; have HBY := Lib.hid hby; clear hbx hby t1)
    have hs := ((((HBY.out).set_ 0 (.int .i64 0)).set_ 1 (.int .i64 0)).set_ 2 (.int .i64 0)).set_ 3 (.int .i64 0)
    have e0 := hs.cell 0; have e1 := hs.cell 1; have e2 := hs.cell 2; have e3 := hs.cell 3
    simp at e0 e1 e2 e3
    refine bodyPost_ret (v := .tuple #[.agg #[.int .i64 0, .int .i64 0, .int .i64 0, .int .i64 0], .int .i64 34]) (by simp [results, Try.results27, go_sem, e0, e1, e2, e3]) rfl ?_
    have tf := ((((Touch.refl (fun q => w.heap.size ≤ q) w1).set (b := w.heap.size + 1) (o := 0) (fun _ => by omega) (.int .i64 0)).set (b := w.heap.size + 1) (o := 1) (fun _ => by omega) (.int .i64 0)).set (b := w.heap.size + 1) (o := 2) (fun _ => by omega) (.int .i64 0)).set (b := w.heap.size + 1) (o := 3) (fun _ => by omega) (.int .i64 0)
    have hf := CkAt.wrap0 HH.out ((HT1.out.mono (S' := fun q => w.heap.size ≤ q) (fun _ _ e => e.elim)).trans tf (fun q hq e => e))
    rw [HV.out]
    exact ⟨rfl, hf.1, hf.2⟩
  have HV := Lib.hid (HV.out.trans ((if_neg h0).trans (if_neg h1)))
  by_cases hd : d.2 = 0
  · have HV := Lib.hid (HV.out.trans (if_pos hd))
    go_enter Try.func27, Try.ntmps27
    go_wp2_with (first
      | (go_at_call 89; go_must (refine (going_any _ _ _ _ _).mono ?_); rintro e w1 ⟨rfl, t1⟩; rw [hdu]; have HT1 := Lib.hid (HT0.out.trans t1 (fun _ _ e => e)); have hz1 : w.heap.size + 2 ≤ w1.heap.size := (by have := HT1.out.size; have := t1.size; simp at this; omega); have hbx := t1.blk HB0.out (fun e => e); have hby := t1.blk HB1.out (fun e => e); have q0 := hbx.cell 0; have q1 := hbx.cell 1; have q2 := hbx.cell 2; have q3 := hbx.cell 3; simp at q0 q1 q2 q3; have z0 := hby.frozen 0; have z1 := hby.frozen 1; have z2 := hby.frozen 2; have z3 := hby.frozen 3; have p0 := hby.cell 0; have p1 := hby.cell 1; have p2 := hby.cell 2; have p3 := hby.cell 3; simp at p0 p1 p2 p3; have HBX := Lib.hid hbx; have HBY := Lib.hid hby; clear hbx hby t1)
      | (go_at_call 90; go_must (refine (HD.out _ (by exact HH.out.shrink.none HT1.out)).mono ?_); rintro e w2 ⟨rfl, ck, t2⟩; rw [hd]; have HC2 := Lib.hid ck; have HT2 := Lib.hid t2; clear q0 q1 q2 q3 p0 p1 p2 p3 z0 z1 z2 z3; have hby := t2.blk HBY.out (by omega); have hbx := t2.blk HBX.out (by omega); have q0 := hbx.cell 0; have q1 := hbx.cell 1; have q2 := hbx.cell 2; have q3 := hbx.cell 3; simp at q0 q1 q2 q3; have z0 := hby.frozen 0; have z1 := hby.frozen 1; have z2 := hby.frozen 2; have z3 := hby.frozen 3; have p0 := hby.cell 0; have p1 := hby.cell 1; have p2 := hby.cell 2; have p3 := hby.cell 3; simp at p0 p1 p2 p3; have HBY2 := Lib.hid hby; clear hby hbx ck t2))
    have hs := ((((HBY2.out).set_ 0 (.int .i64 lv)).set_ 1 (.int .i64 now)).set_ 2 (.int .i64 d.1)).set_ 3 (.int .i64 0)
    have e0 := hs.cell 0; have e1 := hs.cell 1; have e2 := hs.cell 2; have e3 := hs.cell 3
    simp at e0 e1 e2 e3
    refine bodyPost_ret (v := .tuple #[.agg #[.int .i64 lv, .int .i64 now, .int .i64 d.1, .int .i64 0], .int .i64 0]) (by simp [results, Try.results27, go_sem, e0, e1, e2, e3]) rfl ?_
    have tf := ((((Touch.refl (fun q => w.heap.size ≤ q ∧ q < w1.heap.size) w2).set (b := w.heap.size + 1) (o := 0) (fun _ => ⟨by omega, by omega⟩) (.int .i64 lv)).set (b := w.heap.size + 1) (o := 1) (fun _ => ⟨by omega, by omega⟩) (.int .i64 now)).set (b := w.heap.size + 1) (o := 2) (fun _ => ⟨by omega, by omega⟩) (.int .i64 d.1)).set (b := w.heap.size + 1) (o := 3) (fun _ => ⟨by omega, by omega⟩) (.int .i64 0)
    have hf := CkAt.wrap HH.out HT1.out HC2.out HT2.out tf
    rw [HV.out]
    exact ⟨rfl, hf.1, hf.2⟩
  · have HV := Lib.hid (HV.out.trans (if_neg hd))
    have hdb : (d.2 != 0) = true := by simpa using hd
    go_enter Try.func27, Try.ntmps27
    go_wp2_with (first
      | (go_at_call 89; go_must (refine (going_any _ _ _ _ _).mono ?_); rintro e w1 ⟨rfl, t1⟩; rw [hdu]; have HT1 := Lib.hid (HT0.out.trans t1 (fun _ _ e => e)); have hz1 : w.heap.size + 2 ≤ w1.heap.size := (by have := HT1.out.size; have := t1.size; simp at this; omega); have hbx := t1.blk HB0.out (fun e => e); have hby := t1.blk HB1.out (fun e => e); have q0 := hbx.cell 0; have q1 := hbx.cell 1; have q2 := hbx.cell 2; have q3 := hbx.cell 3; simp at q0 q1 q2 q3; have z0 := hby.frozen 0; have z1 := hby.frozen 1; have z2 := hby.frozen 2; have z3 := hby.frozen 3; have p0 := hby.cell 0; have p1 := hby.cell 1; have p2 := hby.cell 2; have p3 := hby.cell 3; simp at p0 p1 p2 p3; have HBX := Lib.hid hbx; have HBY := Lib.hid hby; clear hbx hby t1)
      | (go_at_call 90; go_must (refine (HD.out _ (by exact HH.out.shrink.none HT1.out)).mono ?_); rintro e w2 ⟨rfl, ck, t2⟩; have HC2 := Lib.hid ck; have HT2 := Lib.hid t2; clear q0 q1 q2 q3 p0 p1 p2 p3 z0 z1 z2 z3; have hby := t2.blk HBY.out (by omega); have hbx := t2.blk HBX.out (by omega); have q0 := hbx.cell 0; have q1 := hbx.cell 1; have q2 := hbx.cell 2; have q3 := hbx.cell 3; simp at q0 q1 q2 q3; have z0 := hby.frozen 0; have z1 := hby.frozen 1; have z2 := hby.frozen 2; have z3 := hby.frozen 3; have p0 := hby.cell 0; have p1 := hby.cell 1; have p2 := hby.cell 2; have p3 := hby.cell 3; simp at p0 p1 p2 p3; have HBY2 := Lib.hid hby; clear hby hbx ck t2))
    have hs := ((((HBY2.out).set_ 0 (.int .i64 0)).set_ 1 (.int .i64 0)).set_ 2 (.int .i64 0)).set_ 3 (.int .i64 0)
    have e0 := hs.cell 0; have e1 := hs.cell 1; have e2 := hs.cell 2; have e3 := hs.cell 3
    simp at e0 e1 e2 e3
    refine bodyPost_ret (v := .tuple #[.agg #[.int .i64 0, .int .i64 0, .int .i64 0, .int .i64 0], .int .i64 d.2]) (by simp [results, Try.results27, go_sem, e0, e1, e2, e3]) rfl ?_
    have tf := ((((Touch.refl (fun q => w.heap.size ≤ q ∧ q < w1.heap.size) w2).set (b := w.heap.size + 1) (o := 0) (fun _ => ⟨by omega, by omega⟩) (.int .i64 0)).set (b := w.heap.size + 1) (o := 1) (fun _ => ⟨by omega, by omega⟩) (.int .i64 0)).set (b := w.heap.size + 1) (o := 2) (fun _ => ⟨by omega, by omega⟩) (.int .i64 0)).set (b := w.heap.size + 1) (o := 3) (fun _ => ⟨by omega, by omega⟩) (.int .i64 0)
    have hf := CkAt.wrap HH.out HT1.out HC2.out HT2.out tf
    rw [HV.out]
    exact ⟨rfl, hf.1, hf.2⟩
theorem kgo_any (k a p b : Nat) (c : Ca) (G : Nat → Prop) (x : St) (now : Int) (w : World) (h : CkAt w k a p b c G) (hy : x.le ≤ 9223372036854775807) :
    Calls Try.prog 29 #[.pointer (some ⟨k, 0, none⟩), .agg #[.int .i64 x.lv, .int .i64 x.fr, .int .i64 x.le, .int .i64 x.du], .int .i64 now] w (CkS k a p b c G (goV c x now) w) := by
  obtain ⟨lv, fr, le, du⟩ := x
  simp only at *
  have ht0 : Touch (fun _ => False) w ((w.alloc (.cells #[.int .i64 lv, .int .i64 fr, .int .i64 le, .int .i64 du] 48)).alloc (.cells #[.int .i64 0, .int .i64 0, .int .i64 0, .int .i64 0] 48)) := ((Touch.refl _ w).alloc _).alloc _
  have HT0 := Lib.hid ht0
  have HB0 := Lib.hid ((Blk.new w 48 #[.int .i64 lv, .int .i64 fr, .int .i64 le, .int .i64 du]).alloc (.cells #[.int .i64 0, .int .i64 0, .int .i64 0, .int .i64 0] 48))
  have HB1 := Lib.hid (show Blk ((w.alloc (.cells #[.int .i64 lv, .int .i64 fr, .int .i64 le, .int .i64 du] 48)).alloc (.cells #[.int .i64 0, .int .i64 0, .int .i64 0, .int .i64 0] 48)) (w.heap.size + 1) 48 #[.int .i64 0, .int .i64 0, .int .i64 0, .int .i64 0] by simpa using Blk.new (w.alloc (.cells #[.int .i64 lv, .int .i64 fr, .int .i64 le, .int .i64 du] 48)) 48 #[.int .i64 0, .int .i64 0, .int .i64 0, .int .i64 0])
  have HH := Lib.hid h
  have hbl := h.bl
  clear ht0
  have HV := Lib.hid (show goV c ⟨lv, fr, le, du⟩ now = if du ≠ 0 then (St.z, 33) else if le < 1 then (St.z, 2) else begV c lv le now from rfl)
  have HD := Lib.hid (fun w1 hk => sat_any k a p b c (fun q => G q ∧ q < w.heap.size) ⟨lv, fr, le, du⟩ now w1 hk hy)
  simp only at HD
  generalize goV c ⟨lv, fr, le, du⟩ now = r at *
  generalize begV c lv le now = d at *
  clear h hy
  by_cases h0 : du ≠ 0
  · have HV := Lib.hid (show r = (St.z, 33) by rw [HV.out, if_pos h0])
    have hdu : (du != 0) = true := by simpa using h0
    clear HD
    go_enter Try.func29, Try.ntmps29
    go_wp2_with (go_at_call 89; go_must (refine (going_any _ _ _ _ _).mono ?_); rintro e w1 ⟨rfl, t1⟩; rw [hdu]; have HT1 := Lib.hid (HT0.out.trans t1 (fun _ _ e => e)); have hz1 : w.heap.size + 2 ≤ w1.heap.size := (by have := HT1.out.size; have := t1.size; simp at this; omega); have hbx := t1.blk HB0.out (fun e => e); have hby := t1.blk HB1.out (fun e => e); have q0 := hbx.cell 0; have q1 := hbx.cell 1; have q2 := hbx.cell 2; have q3 := hbx.cell 3; simp at q0 q1 q2 q3; have z0 := hby.frozen 0; have z1 := hby.frozen 1; have z2 := hby.frozen 2; have z3 := hby.frozen 3; have p0 := hby.cell 0; have p1 := hby.cell 1; have p2 := hby.cell 2; have p3 := hby.cell 3; simp at p0 p1 p2 p3; have HBX := Lib.hid hbx; have HBY := Lib.hid hby; clear hbx hby t1)
    have hs := ((((HBY.out).set_ 0 (.int .i64 0)).set_ 1 (.int .i64 0)).set_ 2 (.int .i64 0)).set_ 3 (.int .i64 0)
    have e0 := hs.cell 0; have e1 := hs.cell 1; have e2 := hs.cell 2; have e3 := hs.cell 3
    simp at e0 e1 e2 e3
    refine bodyPost_ret (v := .tuple #[.agg #[.int .i64 0, .int .i64 0, .int .i64 0, .int .i64 0], .int .i64 33]) (by simp [results, Try.results29, go_sem, e0, e1, e2, e3]) rfl ?_
    have tf := ((((Touch.refl (fun q => w.heap.size ≤ q) w1).set (b := w.heap.size + 1) (o := 0) (fun _ => by omega) (.int .i64 0)).set (b := w.heap.size + 1) (o := 1) (fun _ => by omega) (.int .i64 0)).set (b := w.heap.size + 1) (o := 2) (fun _ => by omega) (.int .i64 0)).set (b := w.heap.size + 1) (o := 3) (fun _ => by omega) (.int .i64 0)
    have hf := CkAt.wrap0 HH.out ((HT1.out.mono (S' := fun q => w.heap.size ≤ q) (fun _ _ e => e.elim)).trans tf (fun q hq e => e))
    rw [HV.out]
    exact ⟨rfl, hf.1, hf.2⟩
  have hdu : (du != 0) = false := by simpa using h0
  by_cases h1 : le < 1
  · have HV := Lib.hid (show r = (St.z, 2) by rw [HV.out, if_neg h0, if_pos h1])
    clear HD
    go_enter Try.func29, Try.ntmps29
    go_wp2_with (go_at_call 89; go_must (refine (going_any _ _ _ _ _).mono ?_); rintro e w1 ⟨rfl, t1⟩; rw [hdu]; have HT1 := Lib.hid (HT0.out.trans t1 (fun _ _ e => e)); have hz1 : w.heap.size + 2 ≤ w1.heap.size := (by have := HT1.out.size; have := t1.size; simp at this; omega); have hbx := t1.blk HB0.out (fun e => e); have hby := t1.blk HB1.out (fun e => e); have q0 := hbx.cell 0; have q1 := hbx.cell 1; have q2 := hbx.cell 2; have q3 := hbx.cell 3; simp at q0 q1 q2 q3; have z0 := hby.frozen 0; have z1 := hby.frozen 1; have z2 := hby.frozen 2; have z3 := hby.frozen 3; have p0 := hby.cell 0; have p1 := hby.cell 1; have p2 := hby.cell 2; have p3 := hby.cell 3; simp at p0 p1 p2 p3; have HBX := Lib.hid hbx; have HBY := Lib.hid hby; clear hbx hby t1)
    have hs := ((((HBY.out).set_ 0 (.int .i64 0)).set_ 1 (.int .i64 0)).set_ 2 (.int .i64 0)).set_ 3 (.int .i64 0)
    have e0 := hs.cell 0; have e1 := hs.cell 1; have e2 := hs.cell 2; have e3 := hs.cell 3
    simp at e0 e1 e2 e3
    refine bodyPost_ret (v := .tuple #[.agg #[.int .i64 0, .int .i64 0, .int .i64 0, .int .i64 0], .int .i64 2]) (by simp [results, Try.results29, go_sem, e0, e1, e2, e3]) rfl ?_
    have tf := ((((Touch.refl (fun q => w.heap.size ≤ q) w1).set (b := w.heap.size + 1) (o := 0) (fun _ => by omega) (.int .i64 0)).set (b := w.heap.size + 1) (o := 1) (fun _ => by omega) (.int .i64 0)).set (b := w.heap.size + 1) (o := 2) (fun _ => by omega) (.int .i64 0)).set (b := w.heap.size + 1) (o := 3) (fun _ => by omega) (.int .i64 0)
    have hf := CkAt.wrap0 HH.out ((HT1.out.mono (S' := fun q => w.heap.size ≤ q) (fun _ _ e => e.elim)).trans tf (fun q hq e => e))
    rw [HV.out]
    exact ⟨rfl, hf.1, hf.2⟩
  · have HV := Lib.hid (HV.out.trans ((if_neg h0).trans (if_neg h1)))
    go_enter Try.func29, Try.ntmps29
    go_wp2_with (first
      | (go_at_call 89; go_must (refine (going_any _ _ _ _ _).mono ?_); rintro e w1 ⟨rfl, t1⟩; rw [hdu]; have HT1 := Lib.hid (HT0.out.trans t1 (fun _ _ e => e)); have hz1 : w.heap.size + 2 ≤ w1.heap.size := (by have := HT1.out.size; have := t1.size; simp at this; omega); have hbx := t1.blk HB0.out (fun e => e); have hby := t1.blk HB1.out (fun e => e); have q0 := hbx.cell 0; have q1 := hbx.cell 1; have q2 := hbx.cell 2; have q3 := hbx.cell 3; simp at q0 q1 q2 q3; have z0 := hby.frozen 0; have z1 := hby.frozen 1; have z2 := hby.frozen 2; have z3 := hby.frozen 3; have p0 := hby.cell 0; have p1 := hby.cell 1; have p2 := hby.cell 2; have p3 := hby.cell 3; simp at p0 p1 p2 p3; have HBX := Lib.hid hbx; have HBY := Lib.hid hby; clear hbx hby t1)
      | (go_at_call 92; go_must (refine (HD.out _ (by exact HH.out.shrink.none HT1.out)).mono ?_); rintro e w2 ⟨rfl, ck, t2⟩; have HC2 := Lib.hid ck; have HT2 := Lib.hid t2; clear q0 q1 q2 q3 p0 p1 p2 p3 z0 z1 z2 z3; have hby := t2.blk HBY.out (by omega); have hbx := t2.blk HBX.out (by omega); have q0 := hbx.cell 0; have q1 := hbx.cell 1; have q2 := hbx.cell 2; have q3 := hbx.cell 3; simp at q0 q1 q2 q3; have z0 := hby.frozen 0; have z1 := hby.frozen 1; have z2 := hby.frozen 2; have z3 := hby.frozen 3; have p0 := hby.cell 0; have p1 := hby.cell 1; have p2 := hby.cell 2; have p3 := hby.cell 3; simp at p0 p1 p2 p3; have HBY2 := Lib.hid hby; clear hby hbx ck t2))
    have hs := ((((HBY2.out).set_ 0 (.int .i64 d.1.lv)).set_ 1 (.int .i64 d.1.fr)).set_ 2 (.int .i64 d.1.le)).set_ 3 (.int .i64 d.1.du)
    have e0 := hs.cell 0; have e1 := hs.cell 1; have e2 := hs.cell 2; have e3 := hs.cell 3
    simp at e0 e1 e2 e3
    refine bodyPost_ret (v := .tuple #[.agg #[.int .i64 d.1.lv, .int .i64 d.1.fr, .int .i64 d.1.le, .int .i64 d.1.du], .int .i64 d.2]) (by simp [results, Try.results29, go_sem, e0, e1, e2, e3]) rfl ?_
    have tf := ((((Touch.refl (fun q => w.heap.size ≤ q ∧ q < w1.heap.size) w2).set (b := w.heap.size + 1) (o := 0) (fun _ => ⟨by omega, by omega⟩) (.int .i64 d.1.lv)).set (b := w.heap.size + 1) (o := 1) (fun _ => ⟨by omega, by omega⟩) (.int .i64 d.1.fr)).set (b := w.heap.size + 1) (o := 2) (fun _ => ⟨by omega, by omega⟩) (.int .i64 d.1.le)).set (b := w.heap.size + 1) (o := 3) (fun _ => ⟨by omega, by omega⟩) (.int .i64 d.1.du)
    have hf := CkAt.wrap HH.out HT1.out HC2.out HT2.out tf
    rw [HV.out]
    exact ⟨rfl, hf.1, hf.2⟩
def CkN (k a p b : Nat) (c : Ca) (G : Nat → Prop) (r : (St × Bool) × Int) (w : World) (e : Ending) (w' : World) : Prop :=
  CkV k a p b c G (.tuple #[.agg #[.int .i64 r.1.1.lv, .int .i64 r.1.1.fr, .int .i64 r.1.1.le, .int .i64 r.1.1.du], .bool r.1.2, .int .i64 r.2]) w e w'
def ElN (r : (St × Bool) × Int) (w : World) (e : Ending) (w' : World) : Prop := e = .returned (.tuple #[.agg #[.int .i64 r.1.1.lv, .int .i64 r.1.1.fr, .int .i64 r.1.1.le, .int .i64 r.1.1.du], .bool r.1.2, .int .i64 r.2]) ∧ Touch (fun _ => False) w w'
theorem knext_any (k a p b : Nat) (c : Ca) (G F : Nat → Prop) (A : Option Addr) (n : Nat) (t : Co) (x : St) (now : Int) (w : World) (h : CkAt w k a p b c G) (hr : SpR w F A t.lv.length t.lv) (hF : ∀ q, F q → q < w.heap.size ∧ q ≠ b) (hlen : t.lv.length ≤ 1000000) :
    Calls Try.prog 34 #[.pointer (some ⟨k, 0, none⟩), .agg #[.int .i64 t.cal, .slice A t.lv.length n, .int .i64 t.rt, .int .i64 t.bk], .agg #[.int .i64 x.lv, .int .i64 x.fr, .int .i64 x.le, .int .i64 x.du], .int .i64 now] w (CkN k a p b c G (nextV c t x now) w) := by
  obtain ⟨lv, fr, le, du⟩ := x
  simp only at *
  have ht0 : Touch (fun _ => False) w (((w.alloc (.cells #[.int .i64 t.cal, .slice A t.lv.length n, .int .i64 t.rt, .int .i64 t.bk] 28)).alloc (.cells #[.int .i64 lv, .int .i64 fr, .int .i64 le, .int .i64 du] 48)).alloc (.cells #[.int .i64 0, .int .i64 0, .int .i64 0, .int .i64 0] 48)) := (((Touch.refl _ w).alloc _).alloc _).alloc _
  have HT0 := Lib.hid ht0
  have HB0 := Lib.hid (((Blk.new w 28 #[.int .i64 t.cal, .slice A t.lv.length n, .int .i64 t.rt, .int .i64 t.bk]).alloc (.cells #[.int .i64 lv, .int .i64 fr, .int .i64 le, .int .i64 du] 48)).alloc (.cells #[.int .i64 0, .int .i64 0, .int .i64 0, .int .i64 0] 48))
  have HB1 := Lib.hid (show Blk (((w.alloc (.cells #[.int .i64 t.cal, .slice A t.lv.length n, .int .i64 t.rt, .int .i64 t.bk] 28)).alloc (.cells #[.int .i64 lv, .int .i64 fr, .int .i64 le, .int .i64 du] 48)).alloc (.cells #[.int .i64 0, .int .i64 0, .int .i64 0, .int .i64 0] 48)) (w.heap.size + 1) 48 #[.int .i64 lv, .int .i64 fr, .int .i64 le, .int .i64 du] by simpa using (Blk.new (w.alloc (.cells #[.int .i64 t.cal, .slice A t.lv.length n, .int .i64 t.rt, .int .i64 t.bk] 28)) 48 #[.int .i64 lv, .int .i64 fr, .int .i64 le, .int .i64 du]).alloc (.cells #[.int .i64 0, .int .i64 0, .int .i64 0, .int .i64 0] 48))
  have HB2 := Lib.hid (show Blk (((w.alloc (.cells #[.int .i64 t.cal, .slice A t.lv.length n, .int .i64 t.rt, .int .i64 t.bk] 28)).alloc (.cells #[.int .i64 lv, .int .i64 fr, .int .i64 le, .int .i64 du] 48)).alloc (.cells #[.int .i64 0, .int .i64 0, .int .i64 0, .int .i64 0] 48)) (w.heap.size + 2) 48 #[.int .i64 0, .int .i64 0, .int .i64 0, .int .i64 0] by simpa using Blk.new ((w.alloc (.cells #[.int .i64 t.cal, .slice A t.lv.length n, .int .i64 t.rt, .int .i64 t.bk] 28)).alloc (.cells #[.int .i64 lv, .int .i64 fr, .int .i64 le, .int .i64 du] 48)) 48 #[.int .i64 0, .int .i64 0, .int .i64 0, .int .i64 0])
  have HC := Lib.hid (fun w1 hr => kcheck_any F A n t w1 hr)
  have HH := Lib.hid h
  have HR := Lib.hid hr
  have hbl := h.bl
  have HV := Lib.hid (show nextV c t ⟨lv, fr, le, du⟩ now = if goodB t = true ∧ 0 ≤ lv ∧ lv < t.lv.length then (if lv = t.lv.length - 1 then ((St.z, false), 0) else (((begV c (lv + 1) (bud t (lv + 1).toNat) now).1, decide ((begV c (lv + 1) (bud t (lv + 1).toNat) now).2 = 0)), (begV c (lv + 1) (bud t (lv + 1).toNat) now).2)) else ((St.z, false), 2) from rfl)
  have HG := Lib.hid (show goodE t = if goodB t = true then 0 else 2 from rfl)
  clear ht0
  cases hg : goodB t
  · rw [hg] at HG HV
    have HE := Lib.hid (show goodE t = 2 by rw [HG.out]; rfl)
    have HW := Lib.hid (show nextV c t ⟨lv, fr, le, du⟩ now = ((St.z, false), 2) by rw [HV.out]; rfl)
    clear HV
    generalize nextV c t ⟨lv, fr, le, du⟩ now = r at *
    generalize goodE t = ge at *
    obtain ⟨cal, ll, rt, bk⟩ := t
    simp only at *
    clear h hr HG hg
    go_enter Try.func34, Try.ntmps34
    go_wp2_with (go_at_call 79; go_must (refine (HC.out _ (by exact HR.out.touch HT0.out (fun _ _ e => e))).mono ?_); rintro e w1 ⟨rfl, t1⟩; rw [HE.out]; have HT1 := Lib.hid (HT0.out.trans t1 (fun _ _ e => e)); have hz1 : w.heap.size + 3 ≤ w1.heap.size := (by have := HT1.out.size; have := t1.size; simp at this; omega); have hbc := t1.blk HB0.out (fun e => e); have hbx := t1.blk HB1.out (fun e => e); have hby := t1.blk HB2.out (fun e => e); have c0 := hbc.cell 0; have c1 := hbc.cell 1; have c2 := hbc.cell 2; have c3 := hbc.cell 3; simp at c0 c1 c2 c3; have q0 := hbx.cell 0; have q1 := hbx.cell 1; have q2 := hbx.cell 2; have q3 := hbx.cell 3; simp at q0 q1 q2 q3; have z0 := hby.frozen 0; have z1 := hby.frozen 1; have z2 := hby.frozen 2; have z3 := hby.frozen 3; have p0 := hby.cell 0; have p1 := hby.cell 1; have p2 := hby.cell 2; have p3 := hby.cell 3; simp at p0 p1 p2 p3; have HBC := Lib.hid hbc; have HBX := Lib.hid hbx; have HBY := Lib.hid hby; clear hbx hby hbc t1)
    have hs := ((((HBY.out).set_ 0 (.int .i64 0)).set_ 1 (.int .i64 0)).set_ 2 (.int .i64 0)).set_ 3 (.int .i64 0)
    have e0 := hs.cell 0; have e1 := hs.cell 1; have e2 := hs.cell 2; have e3 := hs.cell 3
    simp at e0 e1 e2 e3
    refine bodyPost_ret (v := .tuple #[.agg #[.int .i64 0, .int .i64 0, .int .i64 0, .int .i64 0], .bool false, .int .i64 2]) (by simp [results, Try.results34, go_sem, e0, e1, e2, e3]) rfl ?_
    have tf := ((((Touch.refl (fun q => w.heap.size ≤ q) w1).set (b := w.heap.size + 2) (o := 0) (fun _ => by omega) (.int .i64 0)).set (b := w.heap.size + 2) (o := 1) (fun _ => by omega) (.int .i64 0)).set (b := w.heap.size + 2) (o := 2) (fun _ => by omega) (.int .i64 0)).set (b := w.heap.size + 2) (o := 3) (fun _ => by omega) (.int .i64 0)
    have hf := CkAt.wrap0 HH.out ((HT1.out.mono (S' := fun q => w.heap.size ≤ q) (fun _ _ e => e.elim)).trans tf (fun q hq e => e))
    rw [HW.out]
    exact ⟨rfl, hf.1, hf.2⟩
  have HE := Lib.hid (show goodE t = 0 by rw [HG.out, hg]; rfl)
  have hgl := good_hd hg
  by_cases h0 : lv < 0
  · have HW := Lib.hid (show nextV c t ⟨lv, fr, le, du⟩ now = ((St.z, false), 2) by rw [HV.out, if_neg (by omega)])
    clear HV
    generalize nextV c t ⟨lv, fr, le, du⟩ now = r at *
    generalize goodE t = ge at *
    obtain ⟨cal, ll, rt, bk⟩ := t
    simp only at *
    clear h hr HG hg
    go_enter Try.func34, Try.ntmps34
    go_wp2_with (go_at_call 79; go_must (refine (HC.out _ (by exact HR.out.touch HT0.out (fun _ _ e => e))).mono ?_); rintro e w1 ⟨rfl, t1⟩; rw [HE.out]; have HT1 := Lib.hid (HT0.out.trans t1 (fun _ _ e => e)); have hz1 : w.heap.size + 3 ≤ w1.heap.size := (by have := HT1.out.size; have := t1.size; simp at this; omega); have hbc := t1.blk HB0.out (fun e => e); have hbx := t1.blk HB1.out (fun e => e); have hby := t1.blk HB2.out (fun e => e); have c0 := hbc.cell 0; have c1 := hbc.cell 1; have c2 := hbc.cell 2; have c3 := hbc.cell 3; simp at c0 c1 c2 c3; have q0 := hbx.cell 0; have q1 := hbx.cell 1; have q2 := hbx.cell 2; have q3 := hbx.cell 3; simp at q0 q1 q2 q3; have z0 := hby.frozen 0; have z1 := hby.frozen 1; have z2 := hby.frozen 2; have z3 := hby.frozen 3; have p0 := hby.cell 0; have p1 := hby.cell 1; have p2 := hby.cell 2; have p3 := hby.cell 3; simp at p0 p1 p2 p3; have HBC := Lib.hid hbc; have HBX := Lib.hid hbx; have HBY := Lib.hid hby; clear hbx hby hbc t1)
    have hs := ((((HBY.out).set_ 0 (.int .i64 0)).set_ 1 (.int .i64 0)).set_ 2 (.int .i64 0)).set_ 3 (.int .i64 0)
    have e0 := hs.cell 0; have e1 := hs.cell 1; have e2 := hs.cell 2; have e3 := hs.cell 3
    simp at e0 e1 e2 e3
    refine bodyPost_ret (v := .tuple #[.agg #[.int .i64 0, .int .i64 0, .int .i64 0, .int .i64 0], .bool false, .int .i64 2]) (by simp [results, Try.results34, go_sem, e0, e1, e2, e3]) rfl ?_
    have tf := ((((Touch.refl (fun q => w.heap.size ≤ q) w1).set (b := w.heap.size + 2) (o := 0) (fun _ => by omega) (.int .i64 0)).set (b := w.heap.size + 2) (o := 1) (fun _ => by omega) (.int .i64 0)).set (b := w.heap.size + 2) (o := 2) (fun _ => by omega) (.int .i64 0)).set (b := w.heap.size + 2) (o := 3) (fun _ => by omega) (.int .i64 0)
    have hf := CkAt.wrap0 HH.out ((HT1.out.mono (S' := fun q => w.heap.size ≤ q) (fun _ _ e => e.elim)).trans tf (fun q hq e => e))
    rw [HW.out]
    exact ⟨rfl, hf.1, hf.2⟩
  by_cases h1 : (t.lv.length : Int) ≤ lv
  · have HW := Lib.hid (show nextV c t ⟨lv, fr, le, du⟩ now = ((St.z, false), 2) by rw [HV.out, if_neg (by omega)])
    clear HV
    generalize nextV c t ⟨lv, fr, le, du⟩ now = r at *
    generalize goodE t = ge at *
    obtain ⟨cal, ll, rt, bk⟩ := t
    simp only at *
    clear h hr HG hg
    go_enter Try.func34, Try.ntmps34
    go_wp2_with (go_at_call 79; go_must (refine (HC.out _ (by exact HR.out.touch HT0.out (fun _ _ e => e))).mono ?_); rintro e w1 ⟨rfl, t1⟩; rw [HE.out]; have HT1 := Lib.hid (HT0.out.trans t1 (fun _ _ e => e)); have hz1 : w.heap.size + 3 ≤ w1.heap.size := (by have := HT1.out.size; have := t1.size; simp at this; omega); have hbc := t1.blk HB0.out (fun e => e); have hbx := t1.blk HB1.out (fun e => e); have hby := t1.blk HB2.out (fun e => e); have c0 := hbc.cell 0; have c1 := hbc.cell 1; have c2 := hbc.cell 2; have c3 := hbc.cell 3; simp at c0 c1 c2 c3; have q0 := hbx.cell 0; have q1 := hbx.cell 1; have q2 := hbx.cell 2; have q3 := hbx.cell 3; simp at q0 q1 q2 q3; have z0 := hby.frozen 0; have z1 := hby.frozen 1; have z2 := hby.frozen 2; have z3 := hby.frozen 3; have p0 := hby.cell 0; have p1 := hby.cell 1; have p2 := hby.cell 2; have p3 := hby.cell 3; simp at p0 p1 p2 p3; have HBC := Lib.hid hbc; have HBX := Lib.hid hbx; have HBY := Lib.hid hby; clear hbx hby hbc t1)
    have hs := ((((HBY.out).set_ 0 (.int .i64 0)).set_ 1 (.int .i64 0)).set_ 2 (.int .i64 0)).set_ 3 (.int .i64 0)
    have e0 := hs.cell 0; have e1 := hs.cell 1; have e2 := hs.cell 2; have e3 := hs.cell 3
    simp at e0 e1 e2 e3
    refine bodyPost_ret (v := .tuple #[.agg #[.int .i64 0, .int .i64 0, .int .i64 0, .int .i64 0], .bool false, .int .i64 2]) (by simp [results, Try.results34, go_sem, e0, e1, e2, e3]) rfl ?_
    have tf := ((((Touch.refl (fun q => w.heap.size ≤ q) w1).set (b := w.heap.size + 2) (o := 0) (fun _ => by omega) (.int .i64 0)).set (b := w.heap.size + 2) (o := 1) (fun _ => by omega) (.int .i64 0)).set (b := w.heap.size + 2) (o := 2) (fun _ => by omega) (.int .i64 0)).set (b := w.heap.size + 2) (o := 3) (fun _ => by omega) (.int .i64 0)
    have hf := CkAt.wrap0 HH.out ((HT1.out.mono (S' := fun q => w.heap.size ≤ q) (fun _ _ e => e.elim)).trans tf (fun q hq e => e))
    rw [HW.out]
    exact ⟨rfl, hf.1, hf.2⟩
  replace HV := Lib.hid (HV.out.trans (if_pos ⟨hg, by omega, by omega⟩))
  have hw1 : IntKind.i64.wrap ((t.lv.length : Int) - 1) = (t.lv.length : Int) - 1 := IntWalk.i64_in _ (by omega)
  by_cases h2 : lv = (t.lv.length : Int) - 1
  · have HW := Lib.hid (HV.out.trans (if_pos h2))
    subst h2
    clear h0 h1
    clear HV
    generalize nextV c t ⟨(t.lv.length : Int) - 1, fr, le, du⟩ now = r at *
    generalize goodE t = ge at *
    obtain ⟨cal, ll, rt, bk⟩ := t
    simp only at *
    clear h hr HG hg
    go_enter Try.func34, Try.ntmps34
    go_wp2_with (go_at_call 79; go_must (refine (HC.out _ (by exact HR.out.touch HT0.out (fun _ _ e => e))).mono ?_); rintro e w1 ⟨rfl, t1⟩; rw [HE.out]; have HT1 := Lib.hid (HT0.out.trans t1 (fun _ _ e => e)); have hz1 : w.heap.size + 3 ≤ w1.heap.size := (by have := HT1.out.size; have := t1.size; simp at this; omega); have hbc := t1.blk HB0.out (fun e => e); have hbx := t1.blk HB1.out (fun e => e); have hby := t1.blk HB2.out (fun e => e); have c0 := hbc.cell 0; have c1 := hbc.cell 1; have c2 := hbc.cell 2; have c3 := hbc.cell 3; simp at c0 c1 c2 c3; have q0 := hbx.cell 0; have q1 := hbx.cell 1; have q2 := hbx.cell 2; have q3 := hbx.cell 3; simp at q0 q1 q2 q3; have z0 := hby.frozen 0; have z1 := hby.frozen 1; have z2 := hby.frozen 2; have z3 := hby.frozen 3; have p0 := hby.cell 0; have p1 := hby.cell 1; have p2 := hby.cell 2; have p3 := hby.cell 3; simp at p0 p1 p2 p3; have HBC := Lib.hid hbc; have HBX := Lib.hid hbx; have HBY := Lib.hid hby; clear hbx hby hbc t1)
    have hs := ((((HBY.out).set_ 0 (.int .i64 0)).set_ 1 (.int .i64 0)).set_ 2 (.int .i64 0)).set_ 3 (.int .i64 0)
    have e0 := hs.cell 0; have e1 := hs.cell 1; have e2 := hs.cell 2; have e3 := hs.cell 3
    simp at e0 e1 e2 e3
    refine bodyPost_ret (v := .tuple #[.agg #[.int .i64 0, .int .i64 0, .int .i64 0, .int .i64 0], .bool false, .int .i64 0]) (by simp [results, Try.results34, go_sem, e0, e1, e2, e3]) rfl ?_
    have tf := ((((Touch.refl (fun q => w.heap.size ≤ q) w1).set (b := w.heap.size + 2) (o := 0) (fun _ => by omega) (.int .i64 0)).set (b := w.heap.size + 2) (o := 1) (fun _ => by omega) (.int .i64 0)).set (b := w.heap.size + 2) (o := 2) (fun _ => by omega) (.int .i64 0)).set (b := w.heap.size + 2) (o := 3) (fun _ => by omega) (.int .i64 0)
    have hf := CkAt.wrap0 HH.out ((HT1.out.mono (S' := fun q => w.heap.size ≤ q) (fun _ _ e => e.elim)).trans tf (fun q hq e => e))
    rw [HW.out]
    exact ⟨rfl, hf.1, hf.2⟩
  replace HV := Lib.hid (HV.out.trans (if_neg h2))
  obtain ⟨j, rfl⟩ : ∃ j : Nat, lv = (j : Int) := ⟨lv.toNat, by omega⟩
  rw [show ((j : Int) + 1).toNat = j + 1 by omega] at HV
  have hj : j + 1 < t.lv.length := by omega
  have ha : t.lv[j + 1]? = some (t.lv[j + 1]'hj) := List.getElem?_eq_getElem _
  have hgb := good_lv hg _ (List.getElem_mem hj)
  obtain ⟨g, off, rfl, hgh, hgF, hc0, -⟩ := hr.at_ ha
  have hgb2 := (hF g hgF).2
  rw [bud_at ha] at HV
  generalize t.lv[j + 1]'_ = s0 at *
  obtain ⟨sf, st⟩ := s0
  simp only at *
  have HS := Lib.hid (fun w1 hk => sat_any k a p b c (fun q => G q ∧ q < w.heap.size) ⟨(j : Int) + 1, 0, sf, 0⟩ now w1 hk (by simp only; omega))
  simp only at HS
  generalize begV c ((j : Int) + 1) sf now = d at *
  generalize nextV c t ⟨j, fr, le, du⟩ now = r at *
  generalize goodE t = ge at *
  obtain ⟨cal, ll, rt, bk⟩ := t
  simp only at *
  have hw2 : IntKind.i64.wrap ((j : Int) + 1) = (j : Int) + 1 := IntWalk.i64_in _ (by omega)
  clear h hr HG hg ha hgb hF
  go_enter Try.func34, Try.ntmps34
  go_wp2_with (go_at_call 79; go_must (refine (HC.out _ (by exact HR.out.touch HT0.out (fun _ _ e => e))).mono ?_); rintro e w1 ⟨rfl, t1⟩; rw [HE.out]; have HT1 := Lib.hid (HT0.out.trans t1 (fun _ _ e => e)); have hz1 : w.heap.size + 3 ≤ w1.heap.size := (by have := HT1.out.size; have := t1.size; simp at this; omega); have hbc := t1.blk HB0.out (fun e => e); have hbx := t1.blk HB1.out (fun e => e); have hby := t1.blk HB2.out (fun e => e); have c0 := hbc.cell 0; have c1 := hbc.cell 1; have c2 := hbc.cell 2; have c3 := hbc.cell 3; simp at c0 c1 c2 c3; have q0 := hbx.cell 0; have q1 := hbx.cell 1; have q2 := hbx.cell 2; have q3 := hbx.cell 3; simp at q0 q1 q2 q3; have z0 := hby.frozen 0; have z1 := hby.frozen 1; have z2 := hby.frozen 2; have z3 := hby.frozen 3; have p0 := hby.cell 0; have p1 := hby.cell 1; have p2 := hby.cell 2; have p3 := hby.cell 3; simp at p0 p1 p2 p3; have HBC := Lib.hid hbc; have HBX := Lib.hid hbx; have HBY := Lib.hid hby; clear hbx hby hbc t1)
  have HDr := Lib.hid ((Touch.refl (fun _ => False) w1).drew)
  have HTd := Lib.hid (HT1.out.trans HDr.out (fun _ _ e => e))
  clear c0 c1 c2 c3 q0 q1 q2 q3 p0 p1 p2 p3 z0 z1 z2 z3
  have HBC := Lib.hid (HDr.out.blk HBC.out (fun e => e))
  have HBX := Lib.hid (HDr.out.blk HBX.out (fun e => e))
  have HBY := Lib.hid (HDr.out.blk HBY.out (fun e => e))
  have c0 := HBC.out.cell 0; have c1 := HBC.out.cell 1; have c2 := HBC.out.cell 2; have c3 := HBC.out.cell 3; simp at c0 c1 c2 c3
  have q0 := HBX.out.cell 0; have q1 := HBX.out.cell 1; have q2 := HBX.out.cell 2; have q3 := HBX.out.cell 3; simp at q0 q1 q2 q3
  have hx0 : (0 : Int) ≤ (j : Int) + 1 := by omega
  have hx1 : (j : Int) + 1 < (ll.length : Int) := by omega
  have l1 : w1.drew.cell? ⟨g, off + (j + 1) * 2, none⟩ = some (.int .i64 sf) := (HTd.out.cell (p := ⟨g, off + (j + 1) * 2, none⟩) hgh (fun e => e)).trans hc0
  refine wp_region_plan [(0, 0), (0, 1), (0, 2), (0, 3), (0, 4), (0, 5), (0, 6), (0, 7), (0, 8), (0, 9), (0, 10), (0, 11), (0, 12), (0, 13), (2, 14), (0, 15), (0, 16), (1, 17), (2, 18), (0, 19)] (fun q => w.heap.size ≤ q ∨ q = b) (by kernel_rfl) (by kernel_rfl) (fun c a d v w h => by cases d <;> exact h) ?_
  iterate 14
    refine plan_s1 rfl (by rfl) (fun Kc hKc => ?_)
    go_simp
    first
      | (refine hKc _ ?_)
    clear hKc Kc
  refine plan_a1 rfl (by rfl) (fun Kc hKc => ?_)
  go_simp
  refine (HS.out _ (by exact HH.out.shrink.none HTd.out)).mono ?_
  rintro e w2 ⟨rfl, ck, t2⟩
  refine hKc _ _ ⟨t2.mono (fun q hq e => .inr e), ?_⟩
  clear hKc Kc
  have HC2 := Lib.hid ck
  have HT2 := Lib.hid t2
  have HBX2 := Lib.hid (t2.blk HBX.out (by omega))
  have HBY2 := Lib.hid (t2.blk HBY.out (by omega))
  clear q0 q1 q2 q3 c0 c1 c2 c3 l1 ck t2
  have q0 := HBX2.out.cell 0; have q1 := HBX2.out.cell 1; have q2 := HBX2.out.cell 2; have q3 := HBX2.out.cell 3; simp at q0 q1 q2 q3; have y0 := HBX2.out.frozen 0; have y1 := HBX2.out.frozen 1; have y2 := HBX2.out.frozen 2; have y3 := HBX2.out.frozen 3; have p0 := HBY2.out.cell 0; have p1 := HBY2.out.cell 1; have p2 := HBY2.out.cell 2; have p3 := HBY2.out.cell 3; simp at p0 p1 p2 p3; have z0 := HBY2.out.frozen 0; have z1 := HBY2.out.frozen 1; have z2 := HBY2.out.frozen 2; have z3 := HBY2.out.frozen 3
  iterate 2
    refine plan_s1 rfl (by rfl) (fun Kc hKc => ?_)
    go_simp
    first
      | (refine hKc _ ?_)
    clear hKc Kc
  iterate 1
    apply plan_h
    · rfl
    · rfl
    · intro wh hT
      go_simp
      try rfl
    go_frame
  refine plan_a1 rfl (by rfl) (fun Kc hKc => ?_)
  go_simp
  refine hKc _ _ ⟨(((((Touch.refl (fun q => w.heap.size ≤ q ∨ q = b) w2).set (b := w.heap.size + 1) (o := 0) (fun _ => .inl (by omega)) (.int .i64 d.1.lv)).set (b := w.heap.size + 1) (o := 1) (fun _ => .inl (by omega)) (.int .i64 d.1.fr)).set (b := w.heap.size + 1) (o := 2) (fun _ => .inl (by omega)) (.int .i64 d.1.le)).set (b := w.heap.size + 1) (o := 3) (fun _ => .inl (by omega)) (.int .i64 d.1.du) : Touch (fun q => w.heap.size ≤ q ∨ q = b) w2 (World.setCell (World.setCell (World.setCell (World.setCell w2 ⟨w.heap.size + 1, 0, none⟩ (.int .i64 d.1.lv)) ⟨w.heap.size + 1, 1, none⟩ (.int .i64 d.1.fr)) ⟨w.heap.size + 1, 2, none⟩ (.int .i64 d.1.le)) ⟨w.heap.size + 1, 3, none⟩ (.int .i64 d.1.du))), ?_⟩
  clear hKc Kc
  iterate 1
    refine plan_s1 rfl (by rfl) (fun Kc hKc => ?_)
    go_simp
    first
      | (refine hKc _ ?_)
    clear hKc Kc
  refine plan_done ?_
  go_wp2_with fail
  have hs := ((((((((HBY2.out).far (p := ⟨w.heap.size + 1, 0, none⟩) (by simp) (.int .i64 d.1.lv)).far (p := ⟨w.heap.size + 1, 1, none⟩) (by simp) (.int .i64 d.1.fr)).far (p := ⟨w.heap.size + 1, 2, none⟩) (by simp) (.int .i64 d.1.le)).far (p := ⟨w.heap.size + 1, 3, none⟩) (by simp) (.int .i64 d.1.du)).set_ 0 (.int .i64 d.1.lv)).set_ 1 (.int .i64 d.1.fr)).set_ 2 (.int .i64 d.1.le)).set_ 3 (.int .i64 d.1.du)
  have e0 := hs.cell 0; have e1 := hs.cell 1; have e2 := hs.cell 2; have e3 := hs.cell 3
  simp at e0 e1 e2 e3
  refine bodyPost_ret (v := .tuple #[.agg #[.int .i64 d.1.lv, .int .i64 d.1.fr, .int .i64 d.1.le, .int .i64 d.1.du], .bool (d.2 == 0), .int .i64 d.2]) (by simp [results, Try.results34, go_sem, e0, e1, e2, e3]) rfl ?_
  have tf := ((((((((Touch.refl (fun q => w.heap.size ≤ q ∧ q < w1.heap.size) w2).set (b := w.heap.size + 1) (o := 0) (fun _ => ⟨by omega, by omega⟩) (.int .i64 d.1.lv)).set (b := w.heap.size + 1) (o := 1) (fun _ => ⟨by omega, by omega⟩) (.int .i64 d.1.fr)).set (b := w.heap.size + 1) (o := 2) (fun _ => ⟨by omega, by omega⟩) (.int .i64 d.1.le)).set (b := w.heap.size + 1) (o := 3) (fun _ => ⟨by omega, by omega⟩) (.int .i64 d.1.du)).set (b := w.heap.size + 2) (o := 0) (fun _ => ⟨by omega, by omega⟩) (.int .i64 d.1.lv)).set (b := w.heap.size + 2) (o := 1) (fun _ => ⟨by omega, by omega⟩) (.int .i64 d.1.fr)).set (b := w.heap.size + 2) (o := 2) (fun _ => ⟨by omega, by omega⟩) (.int .i64 d.1.le)).set (b := w.heap.size + 2) (o := 3) (fun _ => ⟨by omega, by omega⟩) (.int .i64 d.1.du)
  have hf := CkAt.wrap HH.out HTd.out HC2.out HT2.out tf
  rw [HV.out]
  exact ⟨by rw [show (d.2 == 0) = decide (d.2 = 0) from by cases h : decide (d.2 = 0) <;> simp_all], hf.1, hf.2⟩
end Go.Proofs.Ytcblbjhhlnmkjaa
