/- command.Bytes. (written by gencdg.py) -/
import Derived.Test.YtlcefchbfjfifaaVCdE
import Derived.Test.YtlcefchbfjfifaaVCcF
import Derived.Test.YtlcefchbfjfifaaVCells
namespace Go.Proofs.Ytlcefchbfjfifaa
open Go.RowKit Cal
set_option maxHeartbeats 4000000
set_option maxRecDepth 100000
set_option linter.unusedVariables false
attribute [local irreducible] wpPlan

/-- A command's bytes. -/
def encC (c : Cm) : List UInt8 := encs [c.kind.toNat, c.client, c.req] ++ (bif fid c.kind then encs [c.id] else []) ++ (bif fcal c.kind then encCa c.cal else bif ftm c.kind then encK c.tm else bif fcon c.kind then encs [c.con.toNat] else bif fat c.kind then encIs [c.at_] else [])
def bytesC (c : Cm) : List UInt8 := bif cmSound c then encC c else []
def bytesCE (c : Cm) : Int := bif cmSound c then 0 else 2
theorem cm_sound {c : Cm} (h : cmSound c = true) : named c.kind = true ∧ c.client ≤ 8 ∧ kept c = c ∧ (fcal c.kind = true → checkE c.cal = 0) ∧ (ftm c.kind = true → goodB c.tm = true) ∧ (fcal c.kind = false → ftm c.kind = false → 0 ≤ c.con ∧ c.con < 16) := by
  simp only [cmSound, Bool.and_eq_true, decide_eq_true_eq] at h
  obtain ⟨⟨⟨h1, h2⟩, h3⟩, h4⟩ := h
  refine ⟨h1, h2, sameCm_eq h3, fun e => ?_, fun e => ?_, fun e1 e2 => ?_⟩
  · rw [e] at h4; simpa using h4
  · have hc : fcal c.kind = false := by simp only [ftm, decide_eq_true_eq] at e; simp [fcal, e]
    rw [hc, e] at h4; simpa using h4
  · rw [e1, e2] at h4; simpa using h4
/-- The bytes and an error, new. -/
def CbPost (c : Cm) (w : World) (e : Ending) (w' : World) : Prop :=
  ∃ A cap, e = .returned (.tuple #[.slice A (bytesC c).length cap, .int .i64 (bytesCE c)]) ∧ Rd w' (fun k => w.heap.size ≤ k) A (bytesC c).length ((bytesC c).map B8) ∧ (bytesC c).length ≤ cap ∧ cap ≤ maxLen ∧ Touch (fun _ => False) w w'
theorem CbPost.no {c : Cm} {w w' : World} (h : cmSound c = false) (t : Touch (fun _ => False) w w') : CbPost c w (.returned (.tuple #[.slice none 0 0, .int .i64 2])) w' := by
  have e1 : bytesC c = [] := by rw [bytesC, h]; rfl
  have e2 : bytesCE c = 2 := by rw [bytesCE, h]; rfl
  unfold CbPost
  rw [e1, e2]
  exact ⟨none, 0, rfl, Rd.nil _ _ _, Nat.le_refl _, Nat.zero_le _, t⟩
theorem CbPost.yes {c : Cm} {w w' : World} {A : Option Addr} {n cap : Nat} {l : List UInt8} (h : cmSound c = true) (hl : l = encC c) (hn : n = l.length) (hr : Rd w' (fun k => w.heap.size ≤ k) A l.length (l.map B8)) (h1 : l.length ≤ cap) (h2 : cap ≤ maxLen) (t : Touch (fun _ => False) w w') : CbPost c w (.returned (.tuple #[.slice A n cap, .int .i64 0])) w' := by
  have e1 : bytesC c = l := by rw [bytesC, h, hl]; rfl
  have e2 : bytesCE c = 0 := by rw [bytesCE, h]; rfl
  subst hn
  unfold CbPost
  rw [e1, e2]
  exact ⟨A, cap, rfl, hr, h1, h2, t⟩
theorem kept_flat {c : Cm} (h : kept c = c) : (fcal c.kind = false → c.cal = caZ) ∧ (ftm c.kind = false → c.tm = coZ) ∧ (fid c.kind = false → c.id = 0) ∧ (fcon c.kind = false → c.con = 0) ∧ (fat c.kind = false → c.at_ = 0) := by
  refine ⟨fun e => ?_, fun e => ?_, fun e => ?_, fun e => ?_, fun e => ?_⟩
  · have := congrArg Cm.cal h; rw [kept, e] at this; exact this.symm
  · have := congrArg Cm.tm h; rw [kept, e] at this; exact this.symm
  · have := congrArg Cm.id h; rw [kept, e] at this; exact this.symm
  · have := congrArg Cm.con h; rw [kept, e] at this; exact this.symm
  · have := congrArg Cm.at_ h; rw [kept, e] at this; exact this.symm
theorem cmbytes_any (F : Nat → Prop) (A B D : Option Addr) (k m n : Nat) (c : Cm) (w : World) (hr : CmR w F c A B D) (hF : ∀ q, F q → q < w.heap.size) (h1 : c.cal.wk.length ≤ 1000000) (h2 : c.cal.cl.length ≤ 1000000) (h3 : c.tm.lv.length ≤ 1000000)
    (ha : -9223372036854775808 ≤ c.at_ ∧ c.at_ ≤ 9223372036854775807) (ho : -9223372036854775808 ≤ c.cal.off ∧ c.cal.off ≤ 9223372036854775807) (h64 : c.req < 256 ^ 8 ∧ c.id < 256 ^ 8) :
    Calls Try.prog 23 #[.agg #[.int .i64 c.kind, .int .u64 c.client, .int .u64 c.req, .int .u64 c.id, .int .i64 c.con, .int .i64 c.at_, .int .i64 c.cal.off, .slice A c.cal.wk.length k, .slice B c.cal.cl.length m, .int .i64 c.tm.cal, .slice D c.tm.lv.length n, .int .i64 c.tm.rt, .int .i64 c.tm.bk]] w (CbPost c w) := by
  have HS := Lib.hid (fun w1 hr => cmsound_any F A B D k m n c w1 hr h1 h2 h3 ha)
  have HT0 := Lib.hid ((Touch.refl (fun _ => False) w).alloc (.cells #[.int .i64 c.kind, .int .u64 c.client, .int .u64 c.req, .int .u64 c.id, .int .i64 c.con, .int .i64 c.at_, .int .i64 c.cal.off, .slice A c.cal.wk.length k, .slice B c.cal.cl.length m, .int .i64 c.tm.cal, .slice D c.tm.lv.length n, .int .i64 c.tm.rt, .int .i64 c.tm.bk] 35))
  have HB0 := Lib.hid (Blk.new w 35 #[.int .i64 c.kind, .int .u64 c.client, .int .u64 c.req, .int .u64 c.id, .int .i64 c.con, .int .i64 c.at_, .int .i64 c.cal.off, .slice A c.cal.wk.length k, .slice B c.cal.cl.length m, .int .i64 c.tm.cal, .slice D c.tm.lv.length n, .int .i64 c.tm.rt, .int .i64 c.tm.bk])
  have HR := Lib.hid hr
  have HF := Lib.hid hF
  cases hsd : cmSound c
  · rw [hsd] at HS
    have HN := Lib.hid (fun w1 t => CbPost.no (w := w) (w' := w1) hsd t)
    clear hsd
    go_enter Try.func23, Try.ntmps23
    go_wp2_with (go_at_call 42; go_must (refine (HS.out _ (by exact HR.out.touch HT0.out (fun _ _ e => e))).mono ?_); rintro e w1 ⟨rfl, t1⟩; have HT1 := Lib.hid (HT0.out.trans t1 (fun _ _ e => e)); clear t1)
    go_ret2
    exact HN.out _ HT1.out
  rw [hsd] at HS
  obtain ⟨hn, hc8, -, hcal, htm, hcon⟩ := cm_sound hsd
  have HY := Lib.hid (fun w1 A1 n1 c1 l1 e1 e2 a b c2 t => CbPost.yes (w := w) (w' := w1) (A := A1) (n := n1) (cap := c1) (l := l1) hsd e1 e2 a b c2 t)
  have HEc := Lib.hid (show encC c = encs [c.kind.toNat, c.client, c.req] ++ (bif fid c.kind then encs [c.id] else []) ++ (bif fcal c.kind then encCa c.cal else bif ftm c.kind then encK c.tm else bif fcon c.kind then encs [c.con.toNat] else bif fat c.kind then encIs [c.at_] else []) from rfl)
  generalize encC c = E at *
  generalize CbPost c w = Post at *
  have hcal' : fcal c.kind = true → (∀ s ∈ c.cal.wk ++ c.cal.cl, 0 ≤ s.f ∧ s.f < 9223372036854775808 ∧ 0 ≤ s.t ∧ s.t < 9223372036854775808) ∧ c.cal.wk.length ≤ 1000 ∧ c.cal.cl.length ≤ 1000 := fun e => by
    have h := check_ok (hcal e)
    have r1 := row_sp (Int.le_refl 0) h.wk.1
    have r2 := row_sp (Int.le_refl 0) h.cl
    have l1 := h.wk.2.1
    have l2 := h.cn
    refine ⟨fun s hs => ?_, by omega, by omega⟩
    rcases List.mem_append.1 hs with hs | hs
    · have := r1 s hs; omega
    · have := r2 s hs; omega
  clear hsd hcal h1 h2 h3
  obtain ⟨kd, cl, rq, i, cn, at_, ca, tm⟩ := c
  simp only at *
  rcases kinds kd with h | rfl | rfl | rfl | rfl | rfl | hk
  · rw [h] at hn; cases hn
  · have HOf := Lib.hid (fun w1 => (show Calls Try.prog 43 #[.int .i64 1] w1 fun e w' => e = .returned (.tuple #[.agg #[.bool false, .bool false, .bool false, .bool false, .bool false], .bool true]) ∧ Touch (fun _ => False) w1 w' from of_any 1 w1))
    clear hcal' htm hcon hn
    go_enter Try.func23, Try.ntmps23
    go_wp2_with fail
    refine (HS.out _ (by exact HR.out.touch HT0.out (fun _ _ e => e))).mono ?_
    rintro e w1 ⟨rfl, t1⟩
    have HT1 := Lib.hid (HT0.out.trans t1 (fun _ _ e => e))
    have HB1 := Lib.hid (t1.blk HB0.out (fun e => e))
    have x0 := HB1.out.cell 0
    simp at x0
    clear t1
    go_wp2_with fail
    refine (HOf.out _).mono ?_
    rintro e w2 ⟨rfl, t2⟩
    have HT2 := Lib.hid (HT1.out.trans t2 (fun _ _ e => e))
    have HB2 := Lib.hid (t2.blk HB1.out (fun e => e))
    have hb2 := HB2.out
    clear x0 t2
    have x0 := hb2.cell 0; have x1 := hb2.cell 1; have x2 := hb2.cell 2; simp at x0 x1 x2
    have hlt := hb2.lt
    clear hb2
    have HG0 := Lib.hid (show WGo ((w2.alloc (.cells #[.bool false, .bool false, .bool false, .bool false, .bool false] 104)).alloc (.cells #[.slice none 0 0] 108)) (w2.heap.size + 1) none [] ((w2.alloc (.cells #[.bool false, .bool false, .bool false, .bool false, .bool false] 104)).alloc (.cells #[.slice none 0 0] 108)) from WGo.start ⟨by simp, _, (by simpa using Blk.new (w2.alloc (.cells #[.bool false, .bool false, .bool false, .bool false, .bool false] 104)) 108 #[.slice none 0 0]), Own.nil _ _ _⟩)
    have HBW := Lib.hid (show Blk ((w2.alloc (.cells #[.bool false, .bool false, .bool false, .bool false, .bool false] 104)).alloc (.cells #[.slice none 0 0] 108)) w.heap.size 35 #[.int .i64 1, .int .u64 (cl : Int), .int .u64 (rq : Int), .int .u64 (i : Int), .int .i64 (cn : Int), .int .i64 at_, .int .i64 ca.off, .slice A ca.wk.length k, .slice B ca.cl.length m, .int .i64 tm.cal, .slice D tm.lv.length n, .int .i64 tm.rt, .int .i64 tm.bk] from (HB2.out.alloc _).alloc _)
    have HFW := Lib.hid (show Blk ((w2.alloc (.cells #[.bool false, .bool false, .bool false, .bool false, .bool false] 104)).alloc (.cells #[.slice none 0 0] 108)) w2.heap.size 104 #[.bool false, .bool false, .bool false, .bool false, .bool false] from (Blk.new w2 _ _).alloc _)
    have HTW := Lib.hid (show Touch (fun _ => False) w ((w2.alloc (.cells #[.bool false, .bool false, .bool false, .bool false, .bool false] 104)).alloc (.cells #[.slice none 0 0] 108)) from (HT2.out.alloc _).alloc _)
    have hgW : ((w2.alloc (.cells #[.bool false, .bool false, .bool false, .bool false, .bool false] 104)).alloc (.cells #[.slice none 0 0] 108)).heap.size = w2.heap.size + 2 := by simp
    go_wp2_with fail
    refine (wnum_lit HG0.out [1, cl, rq] _ (by simp) _ rfl 3 3 rfl (fun n hn => by simp at hn; rcases hn with rfl | rfl | rfl <;> omega) (by simp)).mono ?_
    rintro e w3 ⟨rfl, g3⟩
    have HG3 := Lib.hid (show WGo ((w2.alloc (.cells #[.bool false, .bool false, .bool false, .bool false, .bool false] 104)).alloc (.cells #[.slice none 0 0] 108)) (w2.heap.size + 1) none (encs [1, cl, rq]) w3 from g3)
    have hbx := g3.blk HBW.out (by omega) (by simp)
    have hfx := g3.blk HFW.out (by omega) (by simp)
    have hE3 := encs_len [1, cl, rq]
    simp only [List.length_cons, List.length_nil] at hE3
    clear g3 x0 x1 x2
    have x0 := hbx.cell 0; have x1 := hbx.cell 1; have x2 := hbx.cell 2; have x3 := hbx.cell 3; have x4 := hbx.cell 4; have x5 := hbx.cell 5; have x6 := hbx.cell 6; have x7 := hbx.cell 7; have x8 := hbx.cell 8; have x9 := hbx.cell 9; have x10 := hbx.cell 10; have x11 := hbx.cell 11; have x12 := hbx.cell 12; simp at x0 x1 x2 x3 x4 x5 x6 x7 x8 x9 x10 x11 x12
    have y0 := hfx.cell 0; have y1 := hfx.cell 1; have y2 := hfx.cell 2; have y3 := hfx.cell 3; have y4 := hfx.cell 4; simp at y0 y1 y2 y3 y4
    have hlt3 := hbx.lt
    clear hbx hfx
    go_wp2_with fail
    obtain ⟨r9, hw9, tw9, hf9⟩ := HG3.out
    have hL9 : (encs [1, cl, rq]).length ≤ 140737488355328 := by
      simp at *; omega
    have HW9 := Lib.hid hw9
    have HT9 := Lib.hid (HTW.out.trans tw9 (fun q hq e => by have := HT2.out.size; rcases e with e | e; exact absurd e (by omega); cases e))
    have HEL := Lib.hid (show encs [1, cl, rq] = E by rw [HEc.out]; simp [fid, fcal, ftm, fcon, fat, named])
    clear tw9 hf9 hw9
    generalize encs [1, cl, rq] = L9 at *
    refine (wbytes_any (w2.heap.size + 1) r9 L9 _ (by exact HW9.out) hL9).mono ?_
    rintro e we ⟨Ae, ce, rfl, q1, q2, q3, q4⟩
    have HQ := Lib.hid (And.intro q1 (And.intro q2 (And.intro q3 q4)))
    clear q1 q2 q3 q4
    go_wp2_with fail
    show Post (.returned (.tuple #[.slice Ae L9.length ce, .int .i64 0])) we
    obtain ⟨q1, q2, q3, q4⟩ := HQ.out
    exact HY.out _ _ _ _ L9 HEL.out rfl (by simpa using (q3.mono (fun k hk => Nat.le_trans HT9.out.size hk))) (by simpa using q1) q2 (HT9.out.trans q4 (fun _ _ e => e))
  · have HOf := Lib.hid (fun w1 => (show Calls Try.prog 43 #[.int .i64 2] w1 fun e w' => e = .returned (.tuple #[.agg #[.bool true, .bool true, .bool false, .bool false, .bool false], .bool true]) ∧ Touch (fun _ => False) w1 w' from of_any 2 w1))
    obtain ⟨hbd, hw1, hw2⟩ := hcal' rfl
    have HBd := Lib.hid hbd
    clear hbd hcal' htm hcon hn
    go_enter Try.func23, Try.ntmps23
    go_wp2_with fail
    refine (HS.out _ (by exact HR.out.touch HT0.out (fun _ _ e => e))).mono ?_
    rintro e w1 ⟨rfl, t1⟩
    have HT1 := Lib.hid (HT0.out.trans t1 (fun _ _ e => e))
    have HB1 := Lib.hid (t1.blk HB0.out (fun e => e))
    have x0 := HB1.out.cell 0
    simp at x0
    clear t1
    go_wp2_with fail
    refine (HOf.out _).mono ?_
    rintro e w2 ⟨rfl, t2⟩
    have HT2 := Lib.hid (HT1.out.trans t2 (fun _ _ e => e))
    have HB2 := Lib.hid (t2.blk HB1.out (fun e => e))
    have hb2 := HB2.out
    clear x0 t2
    have x0 := hb2.cell 0; have x1 := hb2.cell 1; have x2 := hb2.cell 2; simp at x0 x1 x2
    have hlt := hb2.lt
    clear hb2
    have HG0 := Lib.hid (show WGo ((w2.alloc (.cells #[.bool true, .bool true, .bool false, .bool false, .bool false] 104)).alloc (.cells #[.slice none 0 0] 108)) (w2.heap.size + 1) none [] ((w2.alloc (.cells #[.bool true, .bool true, .bool false, .bool false, .bool false] 104)).alloc (.cells #[.slice none 0 0] 108)) from WGo.start ⟨by simp, _, (by simpa using Blk.new (w2.alloc (.cells #[.bool true, .bool true, .bool false, .bool false, .bool false] 104)) 108 #[.slice none 0 0]), Own.nil _ _ _⟩)
    have HBW := Lib.hid (show Blk ((w2.alloc (.cells #[.bool true, .bool true, .bool false, .bool false, .bool false] 104)).alloc (.cells #[.slice none 0 0] 108)) w.heap.size 35 #[.int .i64 2, .int .u64 (cl : Int), .int .u64 (rq : Int), .int .u64 (i : Int), .int .i64 (cn : Int), .int .i64 at_, .int .i64 ca.off, .slice A ca.wk.length k, .slice B ca.cl.length m, .int .i64 tm.cal, .slice D tm.lv.length n, .int .i64 tm.rt, .int .i64 tm.bk] from (HB2.out.alloc _).alloc _)
    have HFW := Lib.hid (show Blk ((w2.alloc (.cells #[.bool true, .bool true, .bool false, .bool false, .bool false] 104)).alloc (.cells #[.slice none 0 0] 108)) w2.heap.size 104 #[.bool true, .bool true, .bool false, .bool false, .bool false] from (Blk.new w2 _ _).alloc _)
    have HTW := Lib.hid (show Touch (fun _ => False) w ((w2.alloc (.cells #[.bool true, .bool true, .bool false, .bool false, .bool false] 104)).alloc (.cells #[.slice none 0 0] 108)) from (HT2.out.alloc _).alloc _)
    have hgW : ((w2.alloc (.cells #[.bool true, .bool true, .bool false, .bool false, .bool false] 104)).alloc (.cells #[.slice none 0 0] 108)).heap.size = w2.heap.size + 2 := by simp
    go_wp2_with fail
    refine (wnum_lit HG0.out [2, cl, rq] _ (by simp) _ rfl 3 3 rfl (fun n hn => by simp at hn; rcases hn with rfl | rfl | rfl <;> omega) (by simp)).mono ?_
    rintro e w3 ⟨rfl, g3⟩
    have HG3 := Lib.hid (show WGo ((w2.alloc (.cells #[.bool true, .bool true, .bool false, .bool false, .bool false] 104)).alloc (.cells #[.slice none 0 0] 108)) (w2.heap.size + 1) none (encs [2, cl, rq]) w3 from g3)
    have hbx := g3.blk HBW.out (by omega) (by simp)
    have hfx := g3.blk HFW.out (by omega) (by simp)
    have hE3 := encs_len [2, cl, rq]
    simp only [List.length_cons, List.length_nil] at hE3
    clear g3 x0 x1 x2
    have x0 := hbx.cell 0; have x1 := hbx.cell 1; have x2 := hbx.cell 2; have x3 := hbx.cell 3; have x4 := hbx.cell 4; have x5 := hbx.cell 5; have x6 := hbx.cell 6; have x7 := hbx.cell 7; have x8 := hbx.cell 8; have x9 := hbx.cell 9; have x10 := hbx.cell 10; have x11 := hbx.cell 11; have x12 := hbx.cell 12; simp at x0 x1 x2 x3 x4 x5 x6 x7 x8 x9 x10 x11 x12
    have y0 := hfx.cell 0; have y1 := hfx.cell 1; have y2 := hfx.cell 2; have y3 := hfx.cell 3; have y4 := hfx.cell 4; simp at y0 y1 y2 y3 y4
    have hlt3 := hbx.lt
    clear hbx hfx
    go_wp2_with fail
    refine (wnum_lit HG3.out [i] _ (by simp) _ rfl 1 1 rfl (fun n hn => by simp at hn; omega) (by simp; omega)).mono ?_
    rintro e w4 ⟨rfl, g4⟩
    have HG4 := Lib.hid (show WGo ((w2.alloc (.cells #[.bool true, .bool true, .bool false, .bool false, .bool false] 104)).alloc (.cells #[.slice none 0 0] 108)) (w2.heap.size + 1) none (encs [2, cl, rq] ++ encs [i]) w4 from g4)
    have hbx := g4.blk HBW.out (by omega) (by simp)
    have hfx := g4.blk HFW.out (by omega) (by simp)
    have hE4 : (encs [2, cl, rq] ++ encs [i]).length ≤ 40 := by
      have e1 := encs_len [i]
      simp at *; omega
    clear g4 x0 x1 x2 x3 x4 x5 x6 x7 x8 x9 x10 x11 x12 y0 y1 y2 y3 y4
    have x0 := hbx.cell 0; have x1 := hbx.cell 1; have x2 := hbx.cell 2; have x3 := hbx.cell 3; have x4 := hbx.cell 4; have x5 := hbx.cell 5; have x6 := hbx.cell 6; have x7 := hbx.cell 7; have x8 := hbx.cell 8; have x9 := hbx.cell 9; have x10 := hbx.cell 10; have x11 := hbx.cell 11; have x12 := hbx.cell 12; simp at x0 x1 x2 x3 x4 x5 x6 x7 x8 x9 x10 x11 x12
    have y0 := hfx.cell 0; have y1 := hfx.cell 1; have y2 := hfx.cell 2; have y3 := hfx.cell 3; have y4 := hfx.cell 4; simp at y0 y1 y2 y3 y4
    clear hbx hfx
    go_wp2_with fail
    obtain ⟨r4, hw4, tw4, hf4⟩ := HG4.out
    refine (cput_any (w2.heap.size + 1) r4 (encs [2, cl, rq] ++ encs [i]) ca F A B k m _ hw4 (by exact (HR.out.cal.touch HTW.out (fun _ _ e => e)).touch tw4 (fun q hq e => by have := HF.out q hq; rcases e with e | e; exact absurd e (by omega); cases e)) (fun q hq => ⟨by have := HF.out q hq; omega, by have := HF.out q hq; intro e; rcases hf4 with e' | ⟨k', e', hk'⟩ <;> rw [e'] at e <;> cases e; omega⟩) HBd.out ho hw1 hw2 (by omega)).mono ?_
    rintro e w5 ⟨rfl, g5⟩
    have HG5 := Lib.hid (show WGo ((w2.alloc (.cells #[.bool true, .bool true, .bool false, .bool false, .bool false] 104)).alloc (.cells #[.slice none 0 0] 108)) (w2.heap.size + 1) none (encs [2, cl, rq] ++ encs [i] ++ encCa ca) w5 from WGo.next tw4 hf4 g5)
    clear g5 tw4 hw4 hf4 x0 x1 x2 x3 x4 x5 x6 x7 x8 x9 x10 x11 x12 y0 y1 y2 y3 y4
    go_wp2_with fail
    obtain ⟨r9, hw9, tw9, hf9⟩ := HG5.out
    have hL9 : (encs [2, cl, rq] ++ encs [i] ++ encCa ca).length ≤ 140737488355328 := by
      have e1 := encIs_len [ca.off]; have e2 := encRow_len ca.wk; have e3 := encRow_len ca.cl
      simp [encCa] at *; omega
    have HW9 := Lib.hid hw9
    have HT9 := Lib.hid (HTW.out.trans tw9 (fun q hq e => by have := HT2.out.size; rcases e with e | e; exact absurd e (by omega); cases e))
    have HEL := Lib.hid (show encs [2, cl, rq] ++ encs [i] ++ encCa ca = E by rw [HEc.out]; simp [fid, fcal, ftm, fcon, fat, named])
    clear tw9 hf9 hw9
    generalize encs [2, cl, rq] ++ encs [i] ++ encCa ca = L9 at *
    refine (wbytes_any (w2.heap.size + 1) r9 L9 _ (by exact HW9.out) hL9).mono ?_
    rintro e we ⟨Ae, ce, rfl, q1, q2, q3, q4⟩
    have HQ := Lib.hid (And.intro q1 (And.intro q2 (And.intro q3 q4)))
    clear q1 q2 q3 q4
    go_wp2_with fail
    show Post (.returned (.tuple #[.slice Ae L9.length ce, .int .i64 0])) we
    obtain ⟨q1, q2, q3, q4⟩ := HQ.out
    exact HY.out _ _ _ _ L9 HEL.out rfl (by simpa using (q3.mono (fun k hk => Nat.le_trans HT9.out.size hk))) (by simpa using q1) q2 (HT9.out.trans q4 (fun _ _ e => e))
  · have HOf := Lib.hid (fun w1 => (show Calls Try.prog 43 #[.int .i64 3] w1 fun e w' => e = .returned (.tuple #[.agg #[.bool true, .bool false, .bool true, .bool false, .bool false], .bool true]) ∧ Touch (fun _ => False) w1 w' from of_any 3 w1))
    have HGd := Lib.hid (htm rfl)
    have hgl := good_hd (htm rfl)
    clear hcal' htm hcon hn
    go_enter Try.func23, Try.ntmps23
    go_wp2_with fail
    refine (HS.out _ (by exact HR.out.touch HT0.out (fun _ _ e => e))).mono ?_
    rintro e w1 ⟨rfl, t1⟩
    have HT1 := Lib.hid (HT0.out.trans t1 (fun _ _ e => e))
    have HB1 := Lib.hid (t1.blk HB0.out (fun e => e))
    have x0 := HB1.out.cell 0
    simp at x0
    clear t1
    go_wp2_with fail
    refine (HOf.out _).mono ?_
    rintro e w2 ⟨rfl, t2⟩
    have HT2 := Lib.hid (HT1.out.trans t2 (fun _ _ e => e))
    have HB2 := Lib.hid (t2.blk HB1.out (fun e => e))
    have hb2 := HB2.out
    clear x0 t2
    have x0 := hb2.cell 0; have x1 := hb2.cell 1; have x2 := hb2.cell 2; simp at x0 x1 x2
    have hlt := hb2.lt
    clear hb2
    have HG0 := Lib.hid (show WGo ((w2.alloc (.cells #[.bool true, .bool false, .bool true, .bool false, .bool false] 104)).alloc (.cells #[.slice none 0 0] 108)) (w2.heap.size + 1) none [] ((w2.alloc (.cells #[.bool true, .bool false, .bool true, .bool false, .bool false] 104)).alloc (.cells #[.slice none 0 0] 108)) from WGo.start ⟨by simp, _, (by simpa using Blk.new (w2.alloc (.cells #[.bool true, .bool false, .bool true, .bool false, .bool false] 104)) 108 #[.slice none 0 0]), Own.nil _ _ _⟩)
    have HBW := Lib.hid (show Blk ((w2.alloc (.cells #[.bool true, .bool false, .bool true, .bool false, .bool false] 104)).alloc (.cells #[.slice none 0 0] 108)) w.heap.size 35 #[.int .i64 3, .int .u64 (cl : Int), .int .u64 (rq : Int), .int .u64 (i : Int), .int .i64 (cn : Int), .int .i64 at_, .int .i64 ca.off, .slice A ca.wk.length k, .slice B ca.cl.length m, .int .i64 tm.cal, .slice D tm.lv.length n, .int .i64 tm.rt, .int .i64 tm.bk] from (HB2.out.alloc _).alloc _)
    have HFW := Lib.hid (show Blk ((w2.alloc (.cells #[.bool true, .bool false, .bool true, .bool false, .bool false] 104)).alloc (.cells #[.slice none 0 0] 108)) w2.heap.size 104 #[.bool true, .bool false, .bool true, .bool false, .bool false] from (Blk.new w2 _ _).alloc _)
    have HTW := Lib.hid (show Touch (fun _ => False) w ((w2.alloc (.cells #[.bool true, .bool false, .bool true, .bool false, .bool false] 104)).alloc (.cells #[.slice none 0 0] 108)) from (HT2.out.alloc _).alloc _)
    have hgW : ((w2.alloc (.cells #[.bool true, .bool false, .bool true, .bool false, .bool false] 104)).alloc (.cells #[.slice none 0 0] 108)).heap.size = w2.heap.size + 2 := by simp
    go_wp2_with fail
    refine (wnum_lit HG0.out [3, cl, rq] _ (by simp) _ rfl 3 3 rfl (fun n hn => by simp at hn; rcases hn with rfl | rfl | rfl <;> omega) (by simp)).mono ?_
    rintro e w3 ⟨rfl, g3⟩
    have HG3 := Lib.hid (show WGo ((w2.alloc (.cells #[.bool true, .bool false, .bool true, .bool false, .bool false] 104)).alloc (.cells #[.slice none 0 0] 108)) (w2.heap.size + 1) none (encs [3, cl, rq]) w3 from g3)
    have hbx := g3.blk HBW.out (by omega) (by simp)
    have hfx := g3.blk HFW.out (by omega) (by simp)
    have hE3 := encs_len [3, cl, rq]
    simp only [List.length_cons, List.length_nil] at hE3
    clear g3 x0 x1 x2
    have x0 := hbx.cell 0; have x1 := hbx.cell 1; have x2 := hbx.cell 2; have x3 := hbx.cell 3; have x4 := hbx.cell 4; have x5 := hbx.cell 5; have x6 := hbx.cell 6; have x7 := hbx.cell 7; have x8 := hbx.cell 8; have x9 := hbx.cell 9; have x10 := hbx.cell 10; have x11 := hbx.cell 11; have x12 := hbx.cell 12; simp at x0 x1 x2 x3 x4 x5 x6 x7 x8 x9 x10 x11 x12
    have y0 := hfx.cell 0; have y1 := hfx.cell 1; have y2 := hfx.cell 2; have y3 := hfx.cell 3; have y4 := hfx.cell 4; simp at y0 y1 y2 y3 y4
    have hlt3 := hbx.lt
    clear hbx hfx
    go_wp2_with fail
    refine (wnum_lit HG3.out [i] _ (by simp) _ rfl 1 1 rfl (fun n hn => by simp at hn; omega) (by simp; omega)).mono ?_
    rintro e w4 ⟨rfl, g4⟩
    have HG4 := Lib.hid (show WGo ((w2.alloc (.cells #[.bool true, .bool false, .bool true, .bool false, .bool false] 104)).alloc (.cells #[.slice none 0 0] 108)) (w2.heap.size + 1) none (encs [3, cl, rq] ++ encs [i]) w4 from g4)
    have hbx := g4.blk HBW.out (by omega) (by simp)
    have hfx := g4.blk HFW.out (by omega) (by simp)
    have hE4 : (encs [3, cl, rq] ++ encs [i]).length ≤ 40 := by
      have e1 := encs_len [i]
      simp at *; omega
    clear g4 x0 x1 x2 x3 x4 x5 x6 x7 x8 x9 x10 x11 x12 y0 y1 y2 y3 y4
    have x0 := hbx.cell 0; have x1 := hbx.cell 1; have x2 := hbx.cell 2; have x3 := hbx.cell 3; have x4 := hbx.cell 4; have x5 := hbx.cell 5; have x6 := hbx.cell 6; have x7 := hbx.cell 7; have x8 := hbx.cell 8; have x9 := hbx.cell 9; have x10 := hbx.cell 10; have x11 := hbx.cell 11; have x12 := hbx.cell 12; simp at x0 x1 x2 x3 x4 x5 x6 x7 x8 x9 x10 x11 x12
    have y0 := hfx.cell 0; have y1 := hfx.cell 1; have y2 := hfx.cell 2; have y3 := hfx.cell 3; have y4 := hfx.cell 4; simp at y0 y1 y2 y3 y4
    clear hbx hfx
    go_wp2_with fail
    obtain ⟨r4, hw4, tw4, hf4⟩ := HG4.out
    refine (kput_any (w2.heap.size + 1) r4 (encs [3, cl, rq] ++ encs [i]) tm F D n _ hw4 (by exact (HR.out.tm.touch HTW.out (fun _ _ e => e)).touch tw4 (fun q hq e => by have := HF.out q hq; rcases e with e | e; exact absurd e (by omega); cases e)) (fun q hq => ⟨by have := HF.out q hq; omega, by have := HF.out q hq; intro e; rcases hf4 with e' | ⟨k', e', hk'⟩ <;> rw [e'] at e <;> cases e; omega⟩) HGd.out (by omega)).mono ?_
    rintro e w5 ⟨rfl, g5⟩
    have HG5 := Lib.hid (show WGo ((w2.alloc (.cells #[.bool true, .bool false, .bool true, .bool false, .bool false] 104)).alloc (.cells #[.slice none 0 0] 108)) (w2.heap.size + 1) none (encs [3, cl, rq] ++ encs [i] ++ encK tm) w5 from WGo.next tw4 hf4 g5)
    clear g5 tw4 hw4 hf4 x0 x1 x2 x3 x4 x5 x6 x7 x8 x9 x10 x11 x12 y0 y1 y2 y3 y4
    go_wp2_with fail
    obtain ⟨r9, hw9, tw9, hf9⟩ := HG5.out
    have hL9 : (encs [3, cl, rq] ++ encs [i] ++ encK tm).length ≤ 140737488355328 := by
      have e1 := encK_len tm (by omega)
      simp at *; omega
    have HW9 := Lib.hid hw9
    have HT9 := Lib.hid (HTW.out.trans tw9 (fun q hq e => by have := HT2.out.size; rcases e with e | e; exact absurd e (by omega); cases e))
    have HEL := Lib.hid (show encs [3, cl, rq] ++ encs [i] ++ encK tm = E by rw [HEc.out]; simp [fid, fcal, ftm, fcon, fat, named])
    clear tw9 hf9 hw9
    generalize encs [3, cl, rq] ++ encs [i] ++ encK tm = L9 at *
    refine (wbytes_any (w2.heap.size + 1) r9 L9 _ (by exact HW9.out) hL9).mono ?_
    rintro e we ⟨Ae, ce, rfl, q1, q2, q3, q4⟩
    have HQ := Lib.hid (And.intro q1 (And.intro q2 (And.intro q3 q4)))
    clear q1 q2 q3 q4
    go_wp2_with fail
    show Post (.returned (.tuple #[.slice Ae L9.length ce, .int .i64 0])) we
    obtain ⟨q1, q2, q3, q4⟩ := HQ.out
    exact HY.out _ _ _ _ L9 HEL.out rfl (by simpa using (q3.mono (fun k hk => Nat.le_trans HT9.out.size hk))) (by simpa using q1) q2 (HT9.out.trans q4 (fun _ _ e => e))
  · have HOf := Lib.hid (fun w1 => (show Calls Try.prog 43 #[.int .i64 4] w1 fun e w' => e = .returned (.tuple #[.agg #[.bool true, .bool false, .bool false, .bool true, .bool false], .bool true]) ∧ Touch (fun _ => False) w1 w' from of_any 4 w1))
    obtain ⟨hc0, hc1⟩ := hcon rfl rfl
    obtain ⟨cn, rfl⟩ : ∃ q : Nat, cn = (q : Int) := ⟨cn.toNat, by omega⟩
    have hcv : IntKind.u64.wrap ((cn : Nat) : Int) = ((cn : Nat) : Int) := IntWalk.u64_in _ (by omega)
    clear hcal' htm hcon hn
    go_enter Try.func23, Try.ntmps23
    go_wp2_with fail
    refine (HS.out _ (by exact HR.out.touch HT0.out (fun _ _ e => e))).mono ?_
    rintro e w1 ⟨rfl, t1⟩
    have HT1 := Lib.hid (HT0.out.trans t1 (fun _ _ e => e))
    have HB1 := Lib.hid (t1.blk HB0.out (fun e => e))
    have x0 := HB1.out.cell 0
    simp at x0
    clear t1
    go_wp2_with fail
    refine (HOf.out _).mono ?_
    rintro e w2 ⟨rfl, t2⟩
    have HT2 := Lib.hid (HT1.out.trans t2 (fun _ _ e => e))
    have HB2 := Lib.hid (t2.blk HB1.out (fun e => e))
    have hb2 := HB2.out
    clear x0 t2
    have x0 := hb2.cell 0; have x1 := hb2.cell 1; have x2 := hb2.cell 2; simp at x0 x1 x2
    have hlt := hb2.lt
    clear hb2
    have HG0 := Lib.hid (show WGo ((w2.alloc (.cells #[.bool true, .bool false, .bool false, .bool true, .bool false] 104)).alloc (.cells #[.slice none 0 0] 108)) (w2.heap.size + 1) none [] ((w2.alloc (.cells #[.bool true, .bool false, .bool false, .bool true, .bool false] 104)).alloc (.cells #[.slice none 0 0] 108)) from WGo.start ⟨by simp, _, (by simpa using Blk.new (w2.alloc (.cells #[.bool true, .bool false, .bool false, .bool true, .bool false] 104)) 108 #[.slice none 0 0]), Own.nil _ _ _⟩)
    have HBW := Lib.hid (show Blk ((w2.alloc (.cells #[.bool true, .bool false, .bool false, .bool true, .bool false] 104)).alloc (.cells #[.slice none 0 0] 108)) w.heap.size 35 #[.int .i64 4, .int .u64 (cl : Int), .int .u64 (rq : Int), .int .u64 (i : Int), .int .i64 (cn : Int), .int .i64 at_, .int .i64 ca.off, .slice A ca.wk.length k, .slice B ca.cl.length m, .int .i64 tm.cal, .slice D tm.lv.length n, .int .i64 tm.rt, .int .i64 tm.bk] from (HB2.out.alloc _).alloc _)
    have HFW := Lib.hid (show Blk ((w2.alloc (.cells #[.bool true, .bool false, .bool false, .bool true, .bool false] 104)).alloc (.cells #[.slice none 0 0] 108)) w2.heap.size 104 #[.bool true, .bool false, .bool false, .bool true, .bool false] from (Blk.new w2 _ _).alloc _)
    have HTW := Lib.hid (show Touch (fun _ => False) w ((w2.alloc (.cells #[.bool true, .bool false, .bool false, .bool true, .bool false] 104)).alloc (.cells #[.slice none 0 0] 108)) from (HT2.out.alloc _).alloc _)
    have hgW : ((w2.alloc (.cells #[.bool true, .bool false, .bool false, .bool true, .bool false] 104)).alloc (.cells #[.slice none 0 0] 108)).heap.size = w2.heap.size + 2 := by simp
    go_wp2_with fail
    refine (wnum_lit HG0.out [4, cl, rq] _ (by simp) _ rfl 3 3 rfl (fun n hn => by simp at hn; rcases hn with rfl | rfl | rfl <;> omega) (by simp)).mono ?_
    rintro e w3 ⟨rfl, g3⟩
    have HG3 := Lib.hid (show WGo ((w2.alloc (.cells #[.bool true, .bool false, .bool false, .bool true, .bool false] 104)).alloc (.cells #[.slice none 0 0] 108)) (w2.heap.size + 1) none (encs [4, cl, rq]) w3 from g3)
    have hbx := g3.blk HBW.out (by omega) (by simp)
    have hfx := g3.blk HFW.out (by omega) (by simp)
    have hE3 := encs_len [4, cl, rq]
    simp only [List.length_cons, List.length_nil] at hE3
    clear g3 x0 x1 x2
    have x0 := hbx.cell 0; have x1 := hbx.cell 1; have x2 := hbx.cell 2; have x3 := hbx.cell 3; have x4 := hbx.cell 4; have x5 := hbx.cell 5; have x6 := hbx.cell 6; have x7 := hbx.cell 7; have x8 := hbx.cell 8; have x9 := hbx.cell 9; have x10 := hbx.cell 10; have x11 := hbx.cell 11; have x12 := hbx.cell 12; simp at x0 x1 x2 x3 x4 x5 x6 x7 x8 x9 x10 x11 x12
    have y0 := hfx.cell 0; have y1 := hfx.cell 1; have y2 := hfx.cell 2; have y3 := hfx.cell 3; have y4 := hfx.cell 4; simp at y0 y1 y2 y3 y4
    have hlt3 := hbx.lt
    clear hbx hfx
    go_wp2_with fail
    refine (wnum_lit HG3.out [i] _ (by simp) _ rfl 1 1 rfl (fun n hn => by simp at hn; omega) (by simp; omega)).mono ?_
    rintro e w4 ⟨rfl, g4⟩
    have HG4 := Lib.hid (show WGo ((w2.alloc (.cells #[.bool true, .bool false, .bool false, .bool true, .bool false] 104)).alloc (.cells #[.slice none 0 0] 108)) (w2.heap.size + 1) none (encs [4, cl, rq] ++ encs [i]) w4 from g4)
    have hbx := g4.blk HBW.out (by omega) (by simp)
    have hfx := g4.blk HFW.out (by omega) (by simp)
    have hE4 : (encs [4, cl, rq] ++ encs [i]).length ≤ 40 := by
      have e1 := encs_len [i]
      simp at *; omega
    clear g4 x0 x1 x2 x3 x4 x5 x6 x7 x8 x9 x10 x11 x12 y0 y1 y2 y3 y4
    have x0 := hbx.cell 0; have x1 := hbx.cell 1; have x2 := hbx.cell 2; have x3 := hbx.cell 3; have x4 := hbx.cell 4; have x5 := hbx.cell 5; have x6 := hbx.cell 6; have x7 := hbx.cell 7; have x8 := hbx.cell 8; have x9 := hbx.cell 9; have x10 := hbx.cell 10; have x11 := hbx.cell 11; have x12 := hbx.cell 12; simp at x0 x1 x2 x3 x4 x5 x6 x7 x8 x9 x10 x11 x12
    have y0 := hfx.cell 0; have y1 := hfx.cell 1; have y2 := hfx.cell 2; have y3 := hfx.cell 3; have y4 := hfx.cell 4; simp at y0 y1 y2 y3 y4
    clear hbx hfx
    go_wp2_with fail
    refine (wnum_lit HG4.out [cn] _ (by simp) _ rfl 1 1 rfl (fun n hn => by simp at hn; omega) (by simp at *; omega)).mono ?_
    rintro e w5 ⟨rfl, g5⟩
    have HG5 := Lib.hid (show WGo ((w2.alloc (.cells #[.bool true, .bool false, .bool false, .bool true, .bool false] 104)).alloc (.cells #[.slice none 0 0] 108)) (w2.heap.size + 1) none (encs [4, cl, rq] ++ encs [i] ++ encs [cn]) w5 from g5)
    clear g5 x0 x1 x2 x3 x4 x5 x6 x7 x8 x9 x10 x11 x12 y0 y1 y2 y3 y4
    go_wp2_with fail
    obtain ⟨r9, hw9, tw9, hf9⟩ := HG5.out
    have hL9 : (encs [4, cl, rq] ++ encs [i] ++ encs [cn]).length ≤ 140737488355328 := by
      have e1 := encs_len [cn]
      simp at *; omega
    have HW9 := Lib.hid hw9
    have HT9 := Lib.hid (HTW.out.trans tw9 (fun q hq e => by have := HT2.out.size; rcases e with e | e; exact absurd e (by omega); cases e))
    have HEL := Lib.hid (show encs [4, cl, rq] ++ encs [i] ++ encs [cn] = E by rw [HEc.out]; simp [fid, fcal, ftm, fcon, fat, named])
    clear tw9 hf9 hw9
    generalize encs [4, cl, rq] ++ encs [i] ++ encs [cn] = L9 at *
    refine (wbytes_any (w2.heap.size + 1) r9 L9 _ (by exact HW9.out) hL9).mono ?_
    rintro e we ⟨Ae, ce, rfl, q1, q2, q3, q4⟩
    have HQ := Lib.hid (And.intro q1 (And.intro q2 (And.intro q3 q4)))
    clear q1 q2 q3 q4
    go_wp2_with fail
    show Post (.returned (.tuple #[.slice Ae L9.length ce, .int .i64 0])) we
    obtain ⟨q1, q2, q3, q4⟩ := HQ.out
    exact HY.out _ _ _ _ L9 HEL.out rfl (by simpa using (q3.mono (fun k hk => Nat.le_trans HT9.out.size hk))) (by simpa using q1) q2 (HT9.out.trans q4 (fun _ _ e => e))
  · have HOf := Lib.hid (fun w1 => (show Calls Try.prog 43 #[.int .i64 9] w1 fun e w' => e = .returned (.tuple #[.agg #[.bool false, .bool false, .bool false, .bool false, .bool true], .bool true]) ∧ Touch (fun _ => False) w1 w' from of_any 9 w1))
    clear hcal' htm hcon hn
    go_enter Try.func23, Try.ntmps23
    go_wp2_with fail
    refine (HS.out _ (by exact HR.out.touch HT0.out (fun _ _ e => e))).mono ?_
    rintro e w1 ⟨rfl, t1⟩
    have HT1 := Lib.hid (HT0.out.trans t1 (fun _ _ e => e))
    have HB1 := Lib.hid (t1.blk HB0.out (fun e => e))
    have x0 := HB1.out.cell 0
    simp at x0
    clear t1
    go_wp2_with fail
    refine (HOf.out _).mono ?_
    rintro e w2 ⟨rfl, t2⟩
    have HT2 := Lib.hid (HT1.out.trans t2 (fun _ _ e => e))
    have HB2 := Lib.hid (t2.blk HB1.out (fun e => e))
    have hb2 := HB2.out
    clear x0 t2
    have x0 := hb2.cell 0; have x1 := hb2.cell 1; have x2 := hb2.cell 2; simp at x0 x1 x2
    have hlt := hb2.lt
    clear hb2
    have HG0 := Lib.hid (show WGo ((w2.alloc (.cells #[.bool false, .bool false, .bool false, .bool false, .bool true] 104)).alloc (.cells #[.slice none 0 0] 108)) (w2.heap.size + 1) none [] ((w2.alloc (.cells #[.bool false, .bool false, .bool false, .bool false, .bool true] 104)).alloc (.cells #[.slice none 0 0] 108)) from WGo.start ⟨by simp, _, (by simpa using Blk.new (w2.alloc (.cells #[.bool false, .bool false, .bool false, .bool false, .bool true] 104)) 108 #[.slice none 0 0]), Own.nil _ _ _⟩)
    have HBW := Lib.hid (show Blk ((w2.alloc (.cells #[.bool false, .bool false, .bool false, .bool false, .bool true] 104)).alloc (.cells #[.slice none 0 0] 108)) w.heap.size 35 #[.int .i64 9, .int .u64 (cl : Int), .int .u64 (rq : Int), .int .u64 (i : Int), .int .i64 (cn : Int), .int .i64 at_, .int .i64 ca.off, .slice A ca.wk.length k, .slice B ca.cl.length m, .int .i64 tm.cal, .slice D tm.lv.length n, .int .i64 tm.rt, .int .i64 tm.bk] from (HB2.out.alloc _).alloc _)
    have HFW := Lib.hid (show Blk ((w2.alloc (.cells #[.bool false, .bool false, .bool false, .bool false, .bool true] 104)).alloc (.cells #[.slice none 0 0] 108)) w2.heap.size 104 #[.bool false, .bool false, .bool false, .bool false, .bool true] from (Blk.new w2 _ _).alloc _)
    have HTW := Lib.hid (show Touch (fun _ => False) w ((w2.alloc (.cells #[.bool false, .bool false, .bool false, .bool false, .bool true] 104)).alloc (.cells #[.slice none 0 0] 108)) from (HT2.out.alloc _).alloc _)
    have hgW : ((w2.alloc (.cells #[.bool false, .bool false, .bool false, .bool false, .bool true] 104)).alloc (.cells #[.slice none 0 0] 108)).heap.size = w2.heap.size + 2 := by simp
    go_wp2_with fail
    refine (wnum_lit HG0.out [9, cl, rq] _ (by simp) _ rfl 3 3 rfl (fun n hn => by simp at hn; rcases hn with rfl | rfl | rfl <;> omega) (by simp)).mono ?_
    rintro e w3 ⟨rfl, g3⟩
    have HG3 := Lib.hid (show WGo ((w2.alloc (.cells #[.bool false, .bool false, .bool false, .bool false, .bool true] 104)).alloc (.cells #[.slice none 0 0] 108)) (w2.heap.size + 1) none (encs [9, cl, rq]) w3 from g3)
    have hbx := g3.blk HBW.out (by omega) (by simp)
    have hfx := g3.blk HFW.out (by omega) (by simp)
    have hE3 := encs_len [9, cl, rq]
    simp only [List.length_cons, List.length_nil] at hE3
    clear g3 x0 x1 x2
    have x0 := hbx.cell 0; have x1 := hbx.cell 1; have x2 := hbx.cell 2; have x3 := hbx.cell 3; have x4 := hbx.cell 4; have x5 := hbx.cell 5; have x6 := hbx.cell 6; have x7 := hbx.cell 7; have x8 := hbx.cell 8; have x9 := hbx.cell 9; have x10 := hbx.cell 10; have x11 := hbx.cell 11; have x12 := hbx.cell 12; simp at x0 x1 x2 x3 x4 x5 x6 x7 x8 x9 x10 x11 x12
    have y0 := hfx.cell 0; have y1 := hfx.cell 1; have y2 := hfx.cell 2; have y3 := hfx.cell 3; have y4 := hfx.cell 4; simp at y0 y1 y2 y3 y4
    have hlt3 := hbx.lt
    clear hbx hfx
    go_wp2_with fail
    refine (wint_lit HG3.out [at_] _ (by simp) _ rfl 1 1 rfl (fun n hn => by simp at hn; subst hn; exact ha) (by simp at *; omega)).mono ?_
    rintro e w4 ⟨rfl, g4⟩
    have HG4 := Lib.hid (show WGo ((w2.alloc (.cells #[.bool false, .bool false, .bool false, .bool false, .bool true] 104)).alloc (.cells #[.slice none 0 0] 108)) (w2.heap.size + 1) none (encs [9, cl, rq] ++ encIs [at_]) w4 from g4)
    clear g4 x0 x1 x2 x3 x4 x5 x6 x7 x8 x9 x10 x11 x12 y0 y1 y2 y3 y4
    go_wp2_with fail
    obtain ⟨r9, hw9, tw9, hf9⟩ := HG4.out
    have hL9 : (encs [9, cl, rq] ++ encIs [at_]).length ≤ 140737488355328 := by
      have e1 := encIs_len [at_]
      simp at *; omega
    have HW9 := Lib.hid hw9
    have HT9 := Lib.hid (HTW.out.trans tw9 (fun q hq e => by have := HT2.out.size; rcases e with e | e; exact absurd e (by omega); cases e))
    have HEL := Lib.hid (show encs [9, cl, rq] ++ encIs [at_] = E by rw [HEc.out]; simp [fid, fcal, ftm, fcon, fat, named])
    clear tw9 hf9 hw9
    generalize encs [9, cl, rq] ++ encIs [at_] = L9 at *
    refine (wbytes_any (w2.heap.size + 1) r9 L9 _ (by exact HW9.out) hL9).mono ?_
    rintro e we ⟨Ae, ce, rfl, q1, q2, q3, q4⟩
    have HQ := Lib.hid (And.intro q1 (And.intro q2 (And.intro q3 q4)))
    clear q1 q2 q3 q4
    go_wp2_with fail
    show Post (.returned (.tuple #[.slice Ae L9.length ce, .int .i64 0])) we
    obtain ⟨q1, q2, q3, q4⟩ := HQ.out
    exact HY.out _ _ _ _ L9 HEL.out rfl (by simpa using (q3.mono (fun k hk => Nat.le_trans HT9.out.size hk))) (by simpa using q1) q2 (HT9.out.trans q4 (fun _ _ e => e))
  · obtain ⟨hn', e1, e2, e3, e4, e5⟩ := flds_id hk
    obtain ⟨kn, rfl⟩ : ∃ kn : Nat, kd = (kn : Int) := ⟨kd.toNat, by unfold idOnly at hk; omega⟩
    have hkb : kn ≤ 12 := by unfold idOnly at hk; omega
    have hcv : IntKind.u64.wrap ((kn : Nat) : Int) = ((kn : Nat) : Int) := IntWalk.u64_in _ (by omega)
    have HOf := Lib.hid (fun w1 => of_any (kn : Int) w1)
    rw [e1, e2, e3, e4, e5, hn'] at HOf
    rw [e1, e2, e3, e4, e5] at HEc
    simp only [Int.toNat_natCast] at HEc
    clear e1 e2 e3 e4 e5 hn' hn hcal' htm hcon hk
    go_enter Try.func23, Try.ntmps23
    go_wp2_with fail
    refine (HS.out _ (by exact HR.out.touch HT0.out (fun _ _ e => e))).mono ?_
    rintro e w1 ⟨rfl, t1⟩
    have HT1 := Lib.hid (HT0.out.trans t1 (fun _ _ e => e))
    have HB1 := Lib.hid (t1.blk HB0.out (fun e => e))
    have x0 := HB1.out.cell 0
    simp at x0
    clear t1
    go_wp2_with fail
    refine (HOf.out _).mono ?_
    rintro e w2 ⟨rfl, t2⟩
    have HT2 := Lib.hid (HT1.out.trans t2 (fun _ _ e => e))
    have HB2 := Lib.hid (t2.blk HB1.out (fun e => e))
    have hb2 := HB2.out
    clear x0 t2
    have x0 := hb2.cell 0; have x1 := hb2.cell 1; have x2 := hb2.cell 2; simp at x0 x1 x2
    have hlt := hb2.lt
    clear hb2
    have HG0 := Lib.hid (show WGo ((w2.alloc (.cells #[.bool true, .bool false, .bool false, .bool false, .bool false] 104)).alloc (.cells #[.slice none 0 0] 108)) (w2.heap.size + 1) none [] ((w2.alloc (.cells #[.bool true, .bool false, .bool false, .bool false, .bool false] 104)).alloc (.cells #[.slice none 0 0] 108)) from WGo.start ⟨by simp, _, (by simpa using Blk.new (w2.alloc (.cells #[.bool true, .bool false, .bool false, .bool false, .bool false] 104)) 108 #[.slice none 0 0]), Own.nil _ _ _⟩)
    have HBW := Lib.hid (show Blk ((w2.alloc (.cells #[.bool true, .bool false, .bool false, .bool false, .bool false] 104)).alloc (.cells #[.slice none 0 0] 108)) w.heap.size 35 #[.int .i64 (kn : Int), .int .u64 (cl : Int), .int .u64 (rq : Int), .int .u64 (i : Int), .int .i64 cn, .int .i64 at_, .int .i64 ca.off, .slice A ca.wk.length k, .slice B ca.cl.length m, .int .i64 tm.cal, .slice D tm.lv.length n, .int .i64 tm.rt, .int .i64 tm.bk] from (HB2.out.alloc _).alloc _)
    have HFW := Lib.hid (show Blk ((w2.alloc (.cells #[.bool true, .bool false, .bool false, .bool false, .bool false] 104)).alloc (.cells #[.slice none 0 0] 108)) w2.heap.size 104 #[.bool true, .bool false, .bool false, .bool false, .bool false] from (Blk.new w2 _ _).alloc _)
    have HTW := Lib.hid (show Touch (fun _ => False) w ((w2.alloc (.cells #[.bool true, .bool false, .bool false, .bool false, .bool false] 104)).alloc (.cells #[.slice none 0 0] 108)) from (HT2.out.alloc _).alloc _)
    have hgW : ((w2.alloc (.cells #[.bool true, .bool false, .bool false, .bool false, .bool false] 104)).alloc (.cells #[.slice none 0 0] 108)).heap.size = w2.heap.size + 2 := by simp
    go_wp2_with fail
    refine (wnum_lit HG0.out [kn, cl, rq] _ (by simp) _ rfl 3 3 rfl (fun n hn => by simp at hn; rcases hn with rfl | rfl | rfl <;> omega) (by simp)).mono ?_
    rintro e w3 ⟨rfl, g3⟩
    have HG3 := Lib.hid (show WGo ((w2.alloc (.cells #[.bool true, .bool false, .bool false, .bool false, .bool false] 104)).alloc (.cells #[.slice none 0 0] 108)) (w2.heap.size + 1) none (encs [kn, cl, rq]) w3 from g3)
    have hbx := g3.blk HBW.out (by omega) (by simp)
    have hfx := g3.blk HFW.out (by omega) (by simp)
    have hE3 := encs_len [kn, cl, rq]
    simp only [List.length_cons, List.length_nil] at hE3
    clear g3 x0 x1 x2
    have x0 := hbx.cell 0; have x1 := hbx.cell 1; have x2 := hbx.cell 2; have x3 := hbx.cell 3; have x4 := hbx.cell 4; have x5 := hbx.cell 5; have x6 := hbx.cell 6; have x7 := hbx.cell 7; have x8 := hbx.cell 8; have x9 := hbx.cell 9; have x10 := hbx.cell 10; have x11 := hbx.cell 11; have x12 := hbx.cell 12; simp at x0 x1 x2 x3 x4 x5 x6 x7 x8 x9 x10 x11 x12
    have y0 := hfx.cell 0; have y1 := hfx.cell 1; have y2 := hfx.cell 2; have y3 := hfx.cell 3; have y4 := hfx.cell 4; simp at y0 y1 y2 y3 y4
    have hlt3 := hbx.lt
    clear hbx hfx
    go_wp2_with fail
    refine (wnum_lit HG3.out [i] _ (by simp) _ rfl 1 1 rfl (fun n hn => by simp at hn; omega) (by simp; omega)).mono ?_
    rintro e w4 ⟨rfl, g4⟩
    have HG4 := Lib.hid (show WGo ((w2.alloc (.cells #[.bool true, .bool false, .bool false, .bool false, .bool false] 104)).alloc (.cells #[.slice none 0 0] 108)) (w2.heap.size + 1) none (encs [kn, cl, rq] ++ encs [i]) w4 from g4)
    have hbx := g4.blk HBW.out (by omega) (by simp)
    have hfx := g4.blk HFW.out (by omega) (by simp)
    have hE4 : (encs [kn, cl, rq] ++ encs [i]).length ≤ 40 := by
      have e1 := encs_len [i]
      simp at *; omega
    clear g4 x0 x1 x2 x3 x4 x5 x6 x7 x8 x9 x10 x11 x12 y0 y1 y2 y3 y4
    have x0 := hbx.cell 0; have x1 := hbx.cell 1; have x2 := hbx.cell 2; have x3 := hbx.cell 3; have x4 := hbx.cell 4; have x5 := hbx.cell 5; have x6 := hbx.cell 6; have x7 := hbx.cell 7; have x8 := hbx.cell 8; have x9 := hbx.cell 9; have x10 := hbx.cell 10; have x11 := hbx.cell 11; have x12 := hbx.cell 12; simp at x0 x1 x2 x3 x4 x5 x6 x7 x8 x9 x10 x11 x12
    have y0 := hfx.cell 0; have y1 := hfx.cell 1; have y2 := hfx.cell 2; have y3 := hfx.cell 3; have y4 := hfx.cell 4; simp at y0 y1 y2 y3 y4
    clear hbx hfx
    go_wp2_with fail
    obtain ⟨r9, hw9, tw9, hf9⟩ := HG4.out
    have hL9 : (encs [kn, cl, rq] ++ encs [i]).length ≤ 140737488355328 := by
      simp at *; omega
    have HW9 := Lib.hid hw9
    have HT9 := Lib.hid (HTW.out.trans tw9 (fun q hq e => by have := HT2.out.size; rcases e with e | e; exact absurd e (by omega); cases e))
    have HEL := Lib.hid (show encs [kn, cl, rq] ++ encs [i] = E by rw [HEc.out]; simp)
    clear tw9 hf9 hw9
    generalize encs [kn, cl, rq] ++ encs [i] = L9 at *
    refine (wbytes_any (w2.heap.size + 1) r9 L9 _ (by exact HW9.out) hL9).mono ?_
    rintro e we ⟨Ae, ce, rfl, q1, q2, q3, q4⟩
    have HQ := Lib.hid (And.intro q1 (And.intro q2 (And.intro q3 q4)))
    clear q1 q2 q3 q4
    go_wp2_with fail
    show Post (.returned (.tuple #[.slice Ae L9.length ce, .int .i64 0])) we
    obtain ⟨q1, q2, q3, q4⟩ := HQ.out
    exact HY.out _ _ _ _ L9 HEL.out rfl (by simpa using (q3.mono (fun k hk => Nat.le_trans HT9.out.size hk))) (by simpa using q1) q2 (HT9.out.trans q4 (fun _ _ e => e))
end Go.Proofs.Ytlcefchbfjfifaa
