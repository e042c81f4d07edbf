/- The reference's disk: Sync, Cut, Remove, Move, Append. (written by genDkS.py) -/
import Derived.Test.YtpgakkpmpnebnaaVDkR
import Derived.Test.YtpgakkpmpnebnaaVDkG
namespace Go.Proofs.Ytpgakkpmpnebnaa
open Go.RowKit Go.Maps
set_option maxHeartbeats 4000000
set_option maxRecDepth 100000
set_option linter.unusedVariables false
attribute [local irreducible] wpPlan

theorem bk11 (w : World) (t1 t2 : TypeId) (c1 c2 : Array Value) : Blk ((w.alloc (.cells c1 t1)).alloc (.cells c2 t2)) w.heap.size t1 c1 := ((Touch.refl (fun _ => False) _).alloc _).blk (Blk.new w t1 c1) (fun e => e)
theorem bk12 (w : World) (t1 t2 : TypeId) (c1 c2 : Array Value) : Blk ((w.alloc (.cells c1 t1)).alloc (.cells c2 t2)) (w.heap.size + 1) t2 c2 := by
  have := Blk.new (w.alloc (.cells c1 t1)) t2 c2
  rwa [show (w.alloc (.cells c1 t1)).heap.size = w.heap.size + 1 from by simp] at this
theorem step_okA {D : Dk} (h : D.Ok) : -1 ≤ D.armed ∧ D.armed ≤ 9223372036854775807 := h.armed
theorem RkP.put {E : Dk} {fs' : List Fi} {p : Dk × Int} {F : Nat → Prop} {w w0 w' : World} {A6 : Option Addr} {c6 : Nat} (hp : p = ({ E with fs := fs' }, 0)) (hr : RfF w' (fun q => w0.heap.size ≤ q ∧ q < w'.heap.size) A6 fs') (h0 : w.heap.size ≤ w0.heap.size) (t : Touch (fun _ => False) w w') : RkP p F w (.returned (.tuple #[.agg (rdA A6 c6 { E with fs := fs' }), .int .i64 0])) w' := by
  subst hp
  exact ⟨A6, c6, _, rfl, hr, fun q hq => .inr ⟨Nat.le_trans h0 hq.1, hq.2⟩, t⟩
theorem fsync_any (D : Dk) (F : Nat → Prop) (A : Option Addr) (c : Nat) (nm : List UInt8) (w : World) (hr : RfF w F A D.fs) (hok : D.Ok) (hF : ∀ q, F q → q < w.heap.size) (hst : D.steps ≤ 1000000) :
    Calls Try.prog 76 #[.agg (rdA A c D), St nm] w (RkP (D.sync nm) F w) := by
  have HR := Lib.hid hr
  have HOk := Lib.hid hok
  have HFl := Lib.hid hF
  have hn := hok.n
  cases hd : D.down
  · cases hg : getF D.fs nm with
    | none =>
      have hrd : rdA A c D = #[.int .i64 D.room, .slice A D.fs.length c, .bool false, .int .i64 D.armed, .int .u64 (D.steps : Int)] := by rw [rdA, hd]
      obtain ⟨w1, hw1⟩ : ∃ w1, w1 = (w.alloc (.cells #[.int .i64 D.room, .slice A D.fs.length c, .bool false, .int .i64 D.armed, .int .u64 (D.steps : Int)] 67)).alloc (.cells #[.int .i64 0, .slice none 0 0, .bool false, .int .i64 0, .int .u64 0] 67) := ⟨_, rfl⟩
      have HT1 := Lib.hid (show Touch (fun _ => False) w w1 from hw1 ▸ T2 w _ _)
      have HB1 := Lib.hid (show Blk w1 w.heap.size 67 #[.int .i64 D.room, .slice A D.fs.length c, .bool false, .int .i64 D.armed, .int .u64 (D.steps : Int)] from hw1 ▸ bk11 w _ _ _ _)
      have HS1 := Lib.hid (show Blk w1 (w.heap.size + 1) 67 #[.int .i64 0, .slice none 0 0, .bool false, .int .i64 0, .int .u64 0] from hw1 ▸ bk12 w _ _ _ _)
      have hs1 : w1.heap.size = w.heap.size + 2 := by rw [hw1]; simp
      have HW1 := Lib.hid hw1
      have HV := Lib.hid (show D.sync nm = (D, 31) by rw [Dk.sync, if_neg (by rw [hd]; simp), hg])
      have HFd := Lib.hid (ffind_none D F A c nm w1 (hr.touch HT1.out (fun _ _ e => e)) hn hg)
      rw [hrd] at HFd ⊢
      clear hr hok hd hg hw1
      go_enter Try.func76, Try.ntmps76
      go_wp2_with (first
        | (go_at_call 107; rw [← HW1.out]; go_must (refine HFd.out.mono ?_); rintro e w2 ⟨rfl, t2⟩
           have HT2 := Lib.hid (HT1.out.trans t2 (fun _ _ e => e))
           have HB2 := Lib.hid (t2.blk HB1.out (fun e => e))
           have HS2 := Lib.hid (t2.blk HS1.out (fun e => e))
           have hs2 := t2.size
           have p0 := HB2.out.cell 0; have p1 := HB2.out.cell 1; have p2 := HB2.out.cell 2; have p3 := HB2.out.cell 3; have p4 := HB2.out.cell 4; simp at p0 p1 p2 p3 p4
           have m0 := HB2.out.frozen 0; have m1 := HB2.out.frozen 1; have m2 := HB2.out.frozen 2; have m3 := HB2.out.frozen 3; have m4 := HB2.out.frozen 4
           have y0 := HS2.out.cell 0; have y1 := HS2.out.cell 1; have y2 := HS2.out.cell 2; have y3 := HS2.out.cell 3; have y4 := HS2.out.cell 4; simp at y0 y1 y2 y3 y4
           have z0 := HS2.out.frozen 0; have z1 := HS2.out.frozen 1; have z2 := HS2.out.frozen 2; have z3 := HS2.out.frozen 3; have z4 := HS2.out.frozen 4
           clear t2))
      have tz := tch5 (w := w2) (w.heap.size + 1) (.int .i64 D.room) (.slice A D.fs.length c) (.bool false) (.int .i64 D.armed) (.int .u64 (D.steps : Int))
      refine bodyPost_ret (results_cell2 (cs := rdA A c D) 4 5 rowRd rfl (by rw [hrd]; exact fin5 HS2.out _ _ _ _ _) rfl rfl) rfl ?_
      exact RkP.same HR.out (HT2.out.trans tz (fun q hq e => by omega)) rfl HV.out
    | some f =>
      have hrd : rdA A c D = #[.int .i64 D.room, .slice A D.fs.length c, .bool false, .int .i64 D.armed, .int .u64 (D.steps : Int)] := by rw [rdA, hd]
      obtain ⟨w1, hw1⟩ : ∃ w1, w1 = (w.alloc (.cells #[.int .i64 D.room, .slice A D.fs.length c, .bool false, .int .i64 D.armed, .int .u64 (D.steps : Int)] 67)).alloc (.cells #[.int .i64 0, .slice none 0 0, .bool false, .int .i64 0, .int .u64 0] 67) := ⟨_, rfl⟩
      have HT1 := Lib.hid (show Touch (fun _ => False) w w1 from hw1 ▸ T2 w _ _)
      have HB1 := Lib.hid (show Blk w1 w.heap.size 67 #[.int .i64 D.room, .slice A D.fs.length c, .bool false, .int .i64 D.armed, .int .u64 (D.steps : Int)] from hw1 ▸ bk11 w _ _ _ _)
      have HS1 := Lib.hid (show Blk w1 (w.heap.size + 1) 67 #[.int .i64 0, .slice none 0 0, .bool false, .int .i64 0, .int .u64 0] from hw1 ▸ bk12 w _ _ _ _)
      have hs1 : w1.heap.size = w.heap.size + 2 := by rw [hw1]; simp
      have HW1 := Lib.hid hw1
      have HFd := Lib.hid (ffind_some D F A c nm w1 (hr.touch HT1.out (fun _ _ e => e)) hn hg)
      obtain ⟨hfm, hfn⟩ := getF_some hg
      have hfo := hok.nm f hfm
      have hfl := len_le_tot hfm
      have htot := hok.tot
      have hsa := stSize f.al
      have HFn := Lib.hid hfn
      clear hfn
      cases hs : D.step.2
      · obtain ⟨E, hE⟩ : ∃ E, E = D.step.1 := ⟨_, rfl⟩
        have hEf : E.fs = D.fs := by rw [hE]; exact step_fs D
        have hEr : rdA A c E = #[.int .i64 E.room, .slice A D.fs.length c, .bool E.down, .int .i64 E.armed, .int .u64 (E.steps : Int)] := by rw [rdA, hEf]
        have HSt := Lib.hid (show ∀ W : World, Calls Try.prog 108 #[.agg #[.int .i64 D.room, .slice A D.fs.length c, .bool false, .int .i64 D.armed, .int .u64 (D.steps : Int)]] W fun e w' => e = .returned (.tuple #[.agg #[.int .i64 E.room, .slice A D.fs.length c, .bool E.down, .int .i64 E.armed, .int .u64 (E.steps : Int)], .bool false]) ∧ Touch (fun _ => False) W w' from fun W => by
          have := fstep_any D A c W HOk.out.armed hst
          unfold StfP at this
          rw [← hE, hEr, hs] at this
          rwa [hrd] at this)
        have HV := Lib.hid (show D.sync nm = (E, 50) by rw [Dk.sync, if_neg (by rw [hd]; simp), hg]; simp only; rw [if_neg (by rw [hs]; simp), hE])
        rw [hrd] at HFd ⊢
        clear hr hok hd hg hw1 hs hE
        go_enter Try.func76, Try.ntmps76
        go_wp2_with (first
          | (go_at_call 107; rw [← HW1.out]; go_must (refine HFd.out.mono ?_); rintro e w2 ⟨i, rfl, hi, hf, t2⟩
             have HT2 := Lib.hid (HT1.out.trans t2 (fun _ _ e => e))
             have HB2 := Lib.hid (t2.blk HB1.out (fun e => e))
             have HS2 := Lib.hid (t2.blk HS1.out (fun e => e))
             have hs2 := t2.size
             have p0 := HB2.out.cell 0; have p1 := HB2.out.cell 1; have p2 := HB2.out.cell 2; have p3 := HB2.out.cell 3; have p4 := HB2.out.cell 4; simp at p0 p1 p2 p3 p4
             have m0 := HB2.out.frozen 0; have m1 := HB2.out.frozen 1; have m2 := HB2.out.frozen 2; have m3 := HB2.out.frozen 3; have m4 := HB2.out.frozen 4
             have y0 := HS2.out.cell 0; have y1 := HS2.out.cell 1; have y2 := HS2.out.cell 2; have y3 := HS2.out.cell 3; have y4 := HS2.out.cell 4; simp at y0 y1 y2 y3 y4
             have z0 := HS2.out.frozen 0; have z1 := HS2.out.frozen 1; have z2 := HS2.out.frozen 2; have z3 := HS2.out.frozen 3; have z4 := HS2.out.frozen 4
             obtain ⟨g, off, hA, hg2, hgF, h0, h1, h2⟩ := (HR.out.touch HT2.out (fun _ _ e => e)).at_ hf
             subst hA
             have hgw := HFl.out g hgF
             have hgn : g ≠ w.heap.size := by omega
             have hgn' : g ≠ w.heap.size + 1 := by omega
             have HHf := Lib.hid hf
             have HH0 := Lib.hid h0
             have HH1 := Lib.hid h1
             have HH2 := Lib.hid h2
             clear t2 hf)
          | (go_at_call 108; go_must (refine (HSt.out _).mono ?_); rintro e w3 ⟨rfl, t3⟩
             have HT3 := Lib.hid (Touch.trans (show Touch (fun _ => False) w _ from by repeat (first | exact HT2.out | refine Touch.alloc ?_ _ | refine Touch.set ?_ (fun _ => by omega) _)) t3 (fun _ _ e => e))
             have hbx := HB2.out
             have hsx := HS2.out
             have HB3 := Lib.hid (t3.blk hbx (fun e => e))
             have HS3 := Lib.hid (t3.blk hsx (fun e => e))
             have hs3 := t3.size
             have p0 := HB3.out.cell 0; have p1 := HB3.out.cell 1; have p2 := HB3.out.cell 2; have p3 := HB3.out.cell 3; have p4 := HB3.out.cell 4; simp at p0 p1 p2 p3 p4
             have m0 := HB3.out.frozen 0; have m1 := HB3.out.frozen 1; have m2 := HB3.out.frozen 2; have m3 := HB3.out.frozen 3; have m4 := HB3.out.frozen 4
             have y0 := HS3.out.cell 0; have y1 := HS3.out.cell 1; have y2 := HS3.out.cell 2; have y3 := HS3.out.cell 3; have y4 := HS3.out.cell 4; simp at y0 y1 y2 y3 y4
             have z0 := HS3.out.frozen 0; have z1 := HS3.out.frozen 1; have z2 := HS3.out.frozen 2; have z3 := HS3.out.frozen 3; have z4 := HS3.out.frozen 4
             have h0 := ((show Touch (fun _ => False) w2 w3 from t3).cell (p := ⟨g, off + i * 3, none⟩) hg2 (fun e => e)).trans HH0.out
             have h1 := ((show Touch (fun _ => False) w2 w3 from t3).cell (p := ⟨g, off + i * 3 + 1, none⟩) hg2 (fun e => e)).trans HH1.out
             have h2 := ((show Touch (fun _ => False) w2 w3 from t3).cell (p := ⟨g, off + i * 3 + 2, none⟩) hg2 (fun e => e)).trans HH2.out
             have HT23 := Lib.hid (show Touch (fun _ => False) w2 w3 from t3)
             clear t3 hbx hsx))
        have ty := tch5 (w := w3) w.heap.size (.int .i64 E.room) (.slice (some ⟨g, off, none⟩) D.fs.length c) (.bool E.down) (.int .i64 E.armed) (.int .u64 (E.steps : Int))
        have tz := tch5 (w := ((((w3.setCell ⟨w.heap.size, 0, none⟩ (.int .i64 E.room)).setCell ⟨w.heap.size, 1, none⟩ (.slice (some ⟨g, off, none⟩) D.fs.length c)).setCell ⟨w.heap.size, 2, none⟩ (.bool E.down)).setCell ⟨w.heap.size, 3, none⟩ (.int .i64 E.armed)).setCell ⟨w.heap.size, 4, none⟩ (.int .u64 (E.steps : Int))) (w.heap.size + 1) (.int .i64 E.room) (.slice (some ⟨g, off, none⟩) D.fs.length c) (.bool E.down) (.int .i64 E.armed) (.int .u64 (E.steps : Int))
        refine bodyPost_ret (results_cell2 (cs := rdA (some ⟨g, off, none⟩) c E) 4 5 rowRd rfl (by rw [hEr]; exact fin5 (ty.blk HS3.out (by omega)) _ _ _ _ _) rfl rfl) rfl ?_
        exact RkP.same HR.out ((HT3.out.trans ty (fun q hq e => by omega)).trans tz (fun q hq e => by omega)) hEf HV.out
      · obtain ⟨E, hE⟩ : ∃ E, E = D.step.1 := ⟨_, rfl⟩
        have hEf : E.fs = D.fs := by rw [hE]; exact step_fs D
        have hEr : rdA A c E = #[.int .i64 E.room, .slice A D.fs.length c, .bool E.down, .int .i64 E.armed, .int .u64 (E.steps : Int)] := by rw [rdA, hEf]
        have HSt := Lib.hid (show ∀ W : World, Calls Try.prog 108 #[.agg #[.int .i64 D.room, .slice A D.fs.length c, .bool false, .int .i64 D.armed, .int .u64 (D.steps : Int)]] W fun e w' => e = .returned (.tuple #[.agg #[.int .i64 E.room, .slice A D.fs.length c, .bool E.down, .int .i64 E.armed, .int .u64 (E.steps : Int)], .bool true]) ∧ Touch (fun _ => False) W w' from fun W => by
          have := fstep_any D A c W HOk.out.armed hst
          unfold StfP at this
          rw [← hE, hEr, hs] at this
          rwa [hrd] at this)
        have HV := Lib.hid (show D.sync nm = ({ E with fs := putF D.fs ⟨f.nm, f.al, f.al.length⟩ }, 0) by rw [Dk.sync, if_neg (by rw [hd]; simp), hg]; simp only; rw [if_pos hs, hE])
        have HWi := Lib.hid (show ∀ W : World, RfF W F A D.fs → Calls Try.prog 109 #[.agg #[.int .i64 E.room, .slice A D.fs.length c, .bool E.down, .int .i64 E.armed, .int .u64 (E.steps : Int)], .agg #[St f.nm, St f.al, .int .i64 (f.al.length : Int)]] W (RxP { E with fs := putF D.fs ⟨f.nm, f.al, f.al.length⟩ } W) from fun W h => by
          have := fwith_any E F A c ⟨f.nm, f.al, f.al.length⟩ W (hEf ▸ h) (hEf ▸ hn)
          rw [hEr, hEf] at this
          exact this)
        unfold RxP at HWi
        rw [hrd] at HFd ⊢
        clear hr hok hd hg hw1 hs hE
        go_enter Try.func76, Try.ntmps76
        go_upto_if 24 with (first
          | (go_at_call 107; rw [← HW1.out]; go_must (refine HFd.out.mono ?_); rintro e w2 ⟨i, rfl, hi, hf, t2⟩
             have HT2 := Lib.hid (HT1.out.trans t2 (fun _ _ e => e))
             have HB2 := Lib.hid (t2.blk HB1.out (fun e => e))
             have HS2 := Lib.hid (t2.blk HS1.out (fun e => e))
             have hs2 := t2.size
             have p0 := HB2.out.cell 0; have p1 := HB2.out.cell 1; have p2 := HB2.out.cell 2; have p3 := HB2.out.cell 3; have p4 := HB2.out.cell 4; simp at p0 p1 p2 p3 p4
             have m0 := HB2.out.frozen 0; have m1 := HB2.out.frozen 1; have m2 := HB2.out.frozen 2; have m3 := HB2.out.frozen 3; have m4 := HB2.out.frozen 4
             have y0 := HS2.out.cell 0; have y1 := HS2.out.cell 1; have y2 := HS2.out.cell 2; have y3 := HS2.out.cell 3; have y4 := HS2.out.cell 4; simp at y0 y1 y2 y3 y4
             have z0 := HS2.out.frozen 0; have z1 := HS2.out.frozen 1; have z2 := HS2.out.frozen 2; have z3 := HS2.out.frozen 3; have z4 := HS2.out.frozen 4
             obtain ⟨g, off, hA, hg2, hgF, h0, h1, h2⟩ := (HR.out.touch HT2.out (fun _ _ e => e)).at_ hf
             subst hA
             have hgw := HFl.out g hgF
             have hgn : g ≠ w.heap.size := by omega
             have hgn' : g ≠ w.heap.size + 1 := by omega
             have HHf := Lib.hid hf
             have HH0 := Lib.hid h0
             have HH1 := Lib.hid h1
             have HH2 := Lib.hid h2
             clear t2 hf)
          | (go_at_call 108; go_must (refine (HSt.out _).mono ?_); rintro e w3 ⟨rfl, t3⟩
             have HT3 := Lib.hid (Touch.trans (show Touch (fun _ => False) w _ from by repeat (first | exact HT2.out | refine Touch.alloc ?_ _ | refine Touch.set ?_ (fun _ => by omega) _)) t3 (fun _ _ e => e))
             have hbx := HB2.out
             have hsx := HS2.out
             have HB3 := Lib.hid (t3.blk hbx (fun e => e))
             have HS3 := Lib.hid (t3.blk hsx (fun e => e))
             have hs3 := t3.size
             have p0 := HB3.out.cell 0; have p1 := HB3.out.cell 1; have p2 := HB3.out.cell 2; have p3 := HB3.out.cell 3; have p4 := HB3.out.cell 4; simp at p0 p1 p2 p3 p4
             have m0 := HB3.out.frozen 0; have m1 := HB3.out.frozen 1; have m2 := HB3.out.frozen 2; have m3 := HB3.out.frozen 3; have m4 := HB3.out.frozen 4
             have y0 := HS3.out.cell 0; have y1 := HS3.out.cell 1; have y2 := HS3.out.cell 2; have y3 := HS3.out.cell 3; have y4 := HS3.out.cell 4; simp at y0 y1 y2 y3 y4
             have z0 := HS3.out.frozen 0; have z1 := HS3.out.frozen 1; have z2 := HS3.out.frozen 2; have z3 := HS3.out.frozen 3; have z4 := HS3.out.frozen 4
             have h0 := ((show Touch (fun _ => False) w2 w3 from t3).cell (p := ⟨g, off + i * 3, none⟩) hg2 (fun e => e)).trans HH0.out
             have h1 := ((show Touch (fun _ => False) w2 w3 from t3).cell (p := ⟨g, off + i * 3 + 1, none⟩) hg2 (fun e => e)).trans HH1.out
             have h2 := ((show Touch (fun _ => False) w2 w3 from t3).cell (p := ⟨g, off + i * 3 + 2, none⟩) hg2 (fun e => e)).trans HH2.out
             have HT23 := Lib.hid (show Touch (fun _ => False) w2 w3 from t3)
             clear t3 hbx hsx))
        obtain ⟨w4, hw4⟩ : ∃ w4, w4 = ((((w3.setCell ⟨w.heap.size, 0, none⟩ (.int .i64 E.room)).setCell ⟨w.heap.size, 1, none⟩ (.slice (some ⟨g, off, none⟩) D.fs.length c)).setCell ⟨w.heap.size, 2, none⟩ (.bool E.down)).setCell ⟨w.heap.size, 3, none⟩ (.int .i64 E.armed)).setCell ⟨w.heap.size, 4, none⟩ (.int .u64 (E.steps : Int)) := ⟨_, rfl⟩
        have t4 := tch5 (w := w3) w.heap.size (.int .i64 E.room) (.slice (some ⟨g, off, none⟩) D.fs.length c) (.bool E.down) (.int .i64 E.armed) (.int .u64 (E.steps : Int))
        have hb4 := blk5 HB3.out (.int .i64 E.room) (.slice (some ⟨g, off, none⟩) D.fs.length c) (.bool E.down) (.int .i64 E.armed) (.int .u64 (E.steps : Int))
        rw [← hw4] at t4 hb4 ⊢
        have hsr4 := t4.blk HS3.out (by omega)
        have HT4 := Lib.hid (HT3.out.trans t4 (fun q hq e => by omega))
        have hs4 := t4.size
        have HB4 := Lib.hid hb4
        have HS4 := Lib.hid hsr4
        have tt := (HT23.out.mono (S' := fun q => q = w.heap.size) (fun _ _ e => e.elim)).trans t4 (fun q _ e => e)
        clear p0 p1 p2 p3 p4 m0 m1 m2 m3 m4 y0 y1 y2 y3 y4 z0 z1 z2 z3 z4 h0 h1 h2
        have p0 := hb4.cell 0; have p1 := hb4.cell 1; have p2 := hb4.cell 2; have p3 := hb4.cell 3; have p4 := hb4.cell 4; simp at p0 p1 p2 p3 p4
        have m0 := hb4.frozen 0; have m1 := hb4.frozen 1; have m2 := hb4.frozen 2; have m3 := hb4.frozen 3; have m4 := hb4.frozen 4
        have h0 := (tt.cell (p := ⟨g, off + i * 3, none⟩) hg2 hgn).trans HH0.out
        have h1 := (tt.cell (p := ⟨g, off + i * 3 + 1, none⟩) hg2 hgn).trans HH1.out
        have h2 := (tt.cell (p := ⟨g, off + i * 3 + 2, none⟩) hg2 hgn).trans HH2.out
        have hlt4 := hb4.lt
        have hne4 : ¬ w.heap.size = w4.heap.size := by omega
        clear tt t4 hb4 hsr4 hw4
        go_wp2_with (first
          | (go_at_call 109
             obtain ⟨w5, hw5⟩ : ∃ w5, w5 = w4.alloc (.cells #[St f.nm, St f.al, .int .i64 (f.al.length : Int)] 82) := ⟨_, rfl⟩
             rw [← hw5]
             have t5 : Touch (fun _ => False) w4 w5 := hw5 ▸ (Touch.refl (fun _ => False) w4).alloc _
             have HT5 := Lib.hid (HT4.out.trans t5 (fun _ _ e => e))
             go_must (refine (HWi.out w5 (HR.out.touch HT5.out (fun _ _ e => e))).mono ?_); rintro e w6 ⟨A6, c6, rfl, hr6, t6⟩
             rw [show rdA A6 c6 ({ E with fs := putF D.fs ⟨f.nm, f.al, f.al.length⟩ }) = #[.int .i64 E.room, .slice A6 (putF D.fs ⟨f.nm, f.al, f.al.length⟩).length c6, .bool E.down, .int .i64 E.armed, .int .u64 (E.steps : Int)] from rfl]
             have HR6 := Lib.hid hr6
             have HT6 := Lib.hid (HT5.out.trans t6 (fun _ _ e => e))
             have HS6 := Lib.hid (t6.blk (t5.blk HS4.out (fun e => e)) (fun e => e))
             have hs5 := t5.size
             have hs6 := t6.size
             have y0 := HS6.out.cell 0; have y1 := HS6.out.cell 1; have y2 := HS6.out.cell 2; have y3 := HS6.out.cell 3; have y4 := HS6.out.cell 4; simp at y0 y1 y2 y3 y4
             have z0 := HS6.out.frozen 0; have z1 := HS6.out.frozen 1; have z2 := HS6.out.frozen 2; have z3 := HS6.out.frozen 3; have z4 := HS6.out.frozen 4
             clear hr6 t6 t5 hw5))
        have tz := tch5 (w := w6) (w.heap.size + 1) (.int .i64 E.room) (.slice A6 (putF D.fs ⟨f.nm, f.al, f.al.length⟩).length c6) (.bool E.down) (.int .i64 E.armed) (.int .u64 (E.steps : Int))
        refine bodyPost_ret (results_cell2 (cs := rdA A6 c6 ({ E with fs := putF D.fs ⟨f.nm, f.al, f.al.length⟩ })) 4 5 rowRd rfl (by exact fin5 HS6.out _ _ _ _ _) rfl rfl) rfl ?_
        exact RkP.put HV.out ((HR6.out.touch tz (fun q hq e => by omega)).mono (fun q hq => ⟨hq.1, Nat.lt_of_lt_of_le hq.2 tz.size⟩)) (by omega) (HT6.out.trans tz (fun q hq e => by omega))
  · have hrd : rdA A c D = #[.int .i64 D.room, .slice A D.fs.length c, .bool true, .int .i64 D.armed, .int .u64 (D.steps : Int)] := by rw [rdA, hd]
    obtain ⟨w1, hw1⟩ : ∃ w1, w1 = (w.alloc (.cells #[.int .i64 D.room, .slice A D.fs.length c, .bool true, .int .i64 D.armed, .int .u64 (D.steps : Int)] 67)).alloc (.cells #[.int .i64 0, .slice none 0 0, .bool false, .int .i64 0, .int .u64 0] 67) := ⟨_, rfl⟩
    have HT1 := Lib.hid (show Touch (fun _ => False) w w1 from hw1 ▸ T2 w _ _)
    have HB1 := Lib.hid (show Blk w1 w.heap.size 67 #[.int .i64 D.room, .slice A D.fs.length c, .bool true, .int .i64 D.armed, .int .u64 (D.steps : Int)] from hw1 ▸ bk11 w _ _ _ _)
    have HS1 := Lib.hid (show Blk w1 (w.heap.size + 1) 67 #[.int .i64 0, .slice none 0 0, .bool false, .int .i64 0, .int .u64 0] from hw1 ▸ bk12 w _ _ _ _)
    have hs1 : w1.heap.size = w.heap.size + 2 := by rw [hw1]; simp
    have HW1 := Lib.hid hw1
    have HV := Lib.hid (show D.sync nm = (D, 50) by rw [Dk.sync, if_pos hd])
    cases hg : getF D.fs nm with
    | none =>
      have HFd := Lib.hid (ffind_none D F A c nm w1 (hr.touch HT1.out (fun _ _ e => e)) hn hg)
      rw [hrd] at HFd ⊢
      clear hr hok hd hg hw1
      go_enter Try.func76, Try.ntmps76
      go_wp2_with (first
        | (go_at_call 107; rw [← HW1.out]; go_must (refine HFd.out.mono ?_); rintro e w2 ⟨rfl, t2⟩
           have HT2 := Lib.hid (HT1.out.trans t2 (fun _ _ e => e))
           have HB2 := Lib.hid (t2.blk HB1.out (fun e => e))
           have HS2 := Lib.hid (t2.blk HS1.out (fun e => e))
           have hs2 := t2.size
           have p0 := HB2.out.cell 0; have p1 := HB2.out.cell 1; have p2 := HB2.out.cell 2; have p3 := HB2.out.cell 3; have p4 := HB2.out.cell 4; simp at p0 p1 p2 p3 p4
           have m0 := HB2.out.frozen 0; have m1 := HB2.out.frozen 1; have m2 := HB2.out.frozen 2; have m3 := HB2.out.frozen 3; have m4 := HB2.out.frozen 4
           have y0 := HS2.out.cell 0; have y1 := HS2.out.cell 1; have y2 := HS2.out.cell 2; have y3 := HS2.out.cell 3; have y4 := HS2.out.cell 4; simp at y0 y1 y2 y3 y4
           have z0 := HS2.out.frozen 0; have z1 := HS2.out.frozen 1; have z2 := HS2.out.frozen 2; have z3 := HS2.out.frozen 3; have z4 := HS2.out.frozen 4
           clear t2))
      have tz := tch5 (w := w2) (w.heap.size + 1) (.int .i64 D.room) (.slice A D.fs.length c) (.bool true) (.int .i64 D.armed) (.int .u64 (D.steps : Int))
      refine bodyPost_ret (results_cell2 (cs := rdA A c D) 4 5 rowRd rfl (by rw [hrd]; exact fin5 HS2.out _ _ _ _ _) rfl rfl) rfl ?_
      exact RkP.same HR.out (HT2.out.trans tz (fun q hq e => by omega)) rfl HV.out
    | some f =>
      have HFd := Lib.hid (ffind_some D F A c nm w1 (hr.touch HT1.out (fun _ _ e => e)) hn hg)
      rw [hrd] at HFd ⊢
      clear hr hok hd hg hw1
      go_enter Try.func76, Try.ntmps76
      go_wp2_with (first
        | (go_at_call 107; rw [← HW1.out]; go_must (refine HFd.out.mono ?_); rintro e w2 ⟨i, rfl, hi, hf, t2⟩
           have HT2 := Lib.hid (HT1.out.trans t2 (fun _ _ e => e))
           have HB2 := Lib.hid (t2.blk HB1.out (fun e => e))
           have HS2 := Lib.hid (t2.blk HS1.out (fun e => e))
           have hs2 := t2.size
           have p0 := HB2.out.cell 0; have p1 := HB2.out.cell 1; have p2 := HB2.out.cell 2; have p3 := HB2.out.cell 3; have p4 := HB2.out.cell 4; simp at p0 p1 p2 p3 p4
           have m0 := HB2.out.frozen 0; have m1 := HB2.out.frozen 1; have m2 := HB2.out.frozen 2; have m3 := HB2.out.frozen 3; have m4 := HB2.out.frozen 4
           have y0 := HS2.out.cell 0; have y1 := HS2.out.cell 1; have y2 := HS2.out.cell 2; have y3 := HS2.out.cell 3; have y4 := HS2.out.cell 4; simp at y0 y1 y2 y3 y4
           have z0 := HS2.out.frozen 0; have z1 := HS2.out.frozen 1; have z2 := HS2.out.frozen 2; have z3 := HS2.out.frozen 3; have z4 := HS2.out.frozen 4
           obtain ⟨g, off, hA, hg2, hgF, h0, h1, h2⟩ := (HR.out.touch HT2.out (fun _ _ e => e)).at_ hf
           subst hA
           have hgw := HFl.out g hgF
           have hgn : g ≠ w.heap.size := by omega
           have hgn' : g ≠ w.heap.size + 1 := by omega
           have HHf := Lib.hid hf
           have HH0 := Lib.hid h0
           have HH1 := Lib.hid h1
           have HH2 := Lib.hid h2
           clear t2 hf))
      have tz := tch5 (w := w2) (w.heap.size + 1) (.int .i64 D.room) (.slice (some ⟨g, off, none⟩) D.fs.length c) (.bool true) (.int .i64 D.armed) (.int .u64 (D.steps : Int))
      refine bodyPost_ret (results_cell2 (cs := rdA (some ⟨g, off, none⟩) c D) 4 5 rowRd rfl (by rw [hrd]; exact fin5 HS2.out _ _ _ _ _) rfl rfl) rfl ?_
      exact RkP.same HR.out (HT2.out.trans tz (fun q hq e => by omega)) rfl HV.out
theorem fremove_any (D : Dk) (F : Nat → Prop) (A : Option Addr) (c : Nat) (nm : List UInt8) (w : World) (hr : RfF w F A D.fs) (hok : D.Ok) (hF : ∀ q, F q → q < w.heap.size) (hst : D.steps ≤ 1000000) :
    Calls Try.prog 78 #[.agg (rdA A c D), St nm] w (RkP (D.remove nm) F w) := by
  have HR := Lib.hid hr
  have HOk := Lib.hid hok
  have HFl := Lib.hid hF
  have hn := hok.n
  cases hd : D.down
  · cases hg : getF D.fs nm with
    | none =>
      have hrd : rdA A c D = #[.int .i64 D.room, .slice A D.fs.length c, .bool false, .int .i64 D.armed, .int .u64 (D.steps : Int)] := by rw [rdA, hd]
      obtain ⟨w1, hw1⟩ : ∃ w1, w1 = (w.alloc (.cells #[.int .i64 D.room, .slice A D.fs.length c, .bool false, .int .i64 D.armed, .int .u64 (D.steps : Int)] 67)).alloc (.cells #[.int .i64 0, .slice none 0 0, .bool false, .int .i64 0, .int .u64 0] 67) := ⟨_, rfl⟩
      have HT1 := Lib.hid (show Touch (fun _ => False) w w1 from hw1 ▸ T2 w _ _)
      have HB1 := Lib.hid (show Blk w1 w.heap.size 67 #[.int .i64 D.room, .slice A D.fs.length c, .bool false, .int .i64 D.armed, .int .u64 (D.steps : Int)] from hw1 ▸ bk11 w _ _ _ _)
      have HS1 := Lib.hid (show Blk w1 (w.heap.size + 1) 67 #[.int .i64 0, .slice none 0 0, .bool false, .int .i64 0, .int .u64 0] from hw1 ▸ bk12 w _ _ _ _)
      have hs1 : w1.heap.size = w.heap.size + 2 := by rw [hw1]; simp
      have HW1 := Lib.hid hw1
      have HV := Lib.hid (show D.remove nm = (D, 31) by rw [Dk.remove, if_neg (by rw [hd]; simp), hg])
      have HFd := Lib.hid (ffind_none D F A c nm w1 (hr.touch HT1.out (fun _ _ e => e)) hn hg)
      rw [hrd] at HFd ⊢
      clear hr hok hd hg hw1
      go_enter Try.func78, Try.ntmps78
      go_wp2_with (first
        | (go_at_call 107; rw [← HW1.out]; go_must (refine HFd.out.mono ?_); rintro e w2 ⟨rfl, t2⟩
           have HT2 := Lib.hid (HT1.out.trans t2 (fun _ _ e => e))
           have HB2 := Lib.hid (t2.blk HB1.out (fun e => e))
           have HS2 := Lib.hid (t2.blk HS1.out (fun e => e))
           have hs2 := t2.size
           have p0 := HB2.out.cell 0; have p1 := HB2.out.cell 1; have p2 := HB2.out.cell 2; have p3 := HB2.out.cell 3; have p4 := HB2.out.cell 4; simp at p0 p1 p2 p3 p4
           have m0 := HB2.out.frozen 0; have m1 := HB2.out.frozen 1; have m2 := HB2.out.frozen 2; have m3 := HB2.out.frozen 3; have m4 := HB2.out.frozen 4
           have y0 := HS2.out.cell 0; have y1 := HS2.out.cell 1; have y2 := HS2.out.cell 2; have y3 := HS2.out.cell 3; have y4 := HS2.out.cell 4; simp at y0 y1 y2 y3 y4
           have z0 := HS2.out.frozen 0; have z1 := HS2.out.frozen 1; have z2 := HS2.out.frozen 2; have z3 := HS2.out.frozen 3; have z4 := HS2.out.frozen 4
           clear t2))
      have tz := tch5 (w := w2) (w.heap.size + 1) (.int .i64 D.room) (.slice A D.fs.length c) (.bool false) (.int .i64 D.armed) (.int .u64 (D.steps : Int))
      refine bodyPost_ret (results_cell2 (cs := rdA A c D) 4 5 rowRd rfl (by rw [hrd]; exact fin5 HS2.out _ _ _ _ _) rfl rfl) rfl ?_
      exact RkP.same HR.out (HT2.out.trans tz (fun q hq e => by omega)) rfl HV.out
    | some f =>
      have hrd : rdA A c D = #[.int .i64 D.room, .slice A D.fs.length c, .bool false, .int .i64 D.armed, .int .u64 (D.steps : Int)] := by rw [rdA, hd]
      obtain ⟨w1, hw1⟩ : ∃ w1, w1 = (w.alloc (.cells #[.int .i64 D.room, .slice A D.fs.length c, .bool false, .int .i64 D.armed, .int .u64 (D.steps : Int)] 67)).alloc (.cells #[.int .i64 0, .slice none 0 0, .bool false, .int .i64 0, .int .u64 0] 67) := ⟨_, rfl⟩
      have HT1 := Lib.hid (show Touch (fun _ => False) w w1 from hw1 ▸ T2 w _ _)
      have HB1 := Lib.hid (show Blk w1 w.heap.size 67 #[.int .i64 D.room, .slice A D.fs.length c, .bool false, .int .i64 D.armed, .int .u64 (D.steps : Int)] from hw1 ▸ bk11 w _ _ _ _)
      have HS1 := Lib.hid (show Blk w1 (w.heap.size + 1) 67 #[.int .i64 0, .slice none 0 0, .bool false, .int .i64 0, .int .u64 0] from hw1 ▸ bk12 w _ _ _ _)
      have hs1 : w1.heap.size = w.heap.size + 2 := by rw [hw1]; simp
      have HW1 := Lib.hid hw1
      have HFd := Lib.hid (ffind_some D F A c nm w1 (hr.touch HT1.out (fun _ _ e => e)) hn hg)
      obtain ⟨hfm, hfn⟩ := getF_some hg
      have hfo := hok.nm f hfm
      have hfl := len_le_tot hfm
      have htot := hok.tot
      have hsa := stSize f.al
      have HFn := Lib.hid hfn
      clear hfn
      cases hs : D.step.2
      · obtain ⟨E, hE⟩ : ∃ E, E = D.step.1 := ⟨_, rfl⟩
        have hEf : E.fs = D.fs := by rw [hE]; exact step_fs D
        have hEr : rdA A c E = #[.int .i64 E.room, .slice A D.fs.length c, .bool E.down, .int .i64 E.armed, .int .u64 (E.steps : Int)] := by rw [rdA, hEf]
        have HSt := Lib.hid (show ∀ W : World, Calls Try.prog 108 #[.agg #[.int .i64 D.room, .slice A D.fs.length c, .bool false, .int .i64 D.armed, .int .u64 (D.steps : Int)]] W fun e w' => e = .returned (.tuple #[.agg #[.int .i64 E.room, .slice A D.fs.length c, .bool E.down, .int .i64 E.armed, .int .u64 (E.steps : Int)], .bool false]) ∧ Touch (fun _ => False) W w' from fun W => by
          have := fstep_any D A c W HOk.out.armed hst
          unfold StfP at this
          rw [← hE, hEr, hs] at this
          rwa [hrd] at this)
        have HV := Lib.hid (show D.remove nm = (E, 50) by rw [Dk.remove, if_neg (by rw [hd]; simp), hg]; simp only; rw [if_neg (by rw [hs]; simp), hE])
        rw [hrd] at HFd ⊢
        clear hr hok hd hg hw1 hs hE
        go_enter Try.func78, Try.ntmps78
        go_wp2_with (first
          | (go_at_call 107; rw [← HW1.out]; go_must (refine HFd.out.mono ?_); rintro e w2 ⟨i, rfl, hi, hf, t2⟩
             have HT2 := Lib.hid (HT1.out.trans t2 (fun _ _ e => e))
             have HB2 := Lib.hid (t2.blk HB1.out (fun e => e))
             have HS2 := Lib.hid (t2.blk HS1.out (fun e => e))
             have hs2 := t2.size
             have p0 := HB2.out.cell 0; have p1 := HB2.out.cell 1; have p2 := HB2.out.cell 2; have p3 := HB2.out.cell 3; have p4 := HB2.out.cell 4; simp at p0 p1 p2 p3 p4
             have m0 := HB2.out.frozen 0; have m1 := HB2.out.frozen 1; have m2 := HB2.out.frozen 2; have m3 := HB2.out.frozen 3; have m4 := HB2.out.frozen 4
             have y0 := HS2.out.cell 0; have y1 := HS2.out.cell 1; have y2 := HS2.out.cell 2; have y3 := HS2.out.cell 3; have y4 := HS2.out.cell 4; simp at y0 y1 y2 y3 y4
             have z0 := HS2.out.frozen 0; have z1 := HS2.out.frozen 1; have z2 := HS2.out.frozen 2; have z3 := HS2.out.frozen 3; have z4 := HS2.out.frozen 4
             obtain ⟨g, off, hA, hg2, hgF, h0, h1, h2⟩ := (HR.out.touch HT2.out (fun _ _ e => e)).at_ hf
             subst hA
             have hgw := HFl.out g hgF
             have hgn : g ≠ w.heap.size := by omega
             have hgn' : g ≠ w.heap.size + 1 := by omega
             have HHf := Lib.hid hf
             have HH0 := Lib.hid h0
             have HH1 := Lib.hid h1
             have HH2 := Lib.hid h2
             clear t2 hf)
          | (go_at_call 108; go_must (refine (HSt.out _).mono ?_); rintro e w3 ⟨rfl, t3⟩
             have HT3 := Lib.hid (Touch.trans (show Touch (fun _ => False) w _ from by repeat (first | exact HT2.out | refine Touch.alloc ?_ _ | refine Touch.set ?_ (fun _ => by omega) _)) t3 (fun _ _ e => e))
             have hbx := HB2.out
             have hsx := HS2.out
             have HB3 := Lib.hid (t3.blk hbx (fun e => e))
             have HS3 := Lib.hid (t3.blk hsx (fun e => e))
             have hs3 := t3.size
             have p0 := HB3.out.cell 0; have p1 := HB3.out.cell 1; have p2 := HB3.out.cell 2; have p3 := HB3.out.cell 3; have p4 := HB3.out.cell 4; simp at p0 p1 p2 p3 p4
             have m0 := HB3.out.frozen 0; have m1 := HB3.out.frozen 1; have m2 := HB3.out.frozen 2; have m3 := HB3.out.frozen 3; have m4 := HB3.out.frozen 4
             have y0 := HS3.out.cell 0; have y1 := HS3.out.cell 1; have y2 := HS3.out.cell 2; have y3 := HS3.out.cell 3; have y4 := HS3.out.cell 4; simp at y0 y1 y2 y3 y4
             have z0 := HS3.out.frozen 0; have z1 := HS3.out.frozen 1; have z2 := HS3.out.frozen 2; have z3 := HS3.out.frozen 3; have z4 := HS3.out.frozen 4
             have h0 := ((show Touch (fun _ => False) w2 w3 from t3).cell (p := ⟨g, off + i * 3, none⟩) hg2 (fun e => e)).trans HH0.out
             have h1 := ((show Touch (fun _ => False) w2 w3 from t3).cell (p := ⟨g, off + i * 3 + 1, none⟩) hg2 (fun e => e)).trans HH1.out
             have h2 := ((show Touch (fun _ => False) w2 w3 from t3).cell (p := ⟨g, off + i * 3 + 2, none⟩) hg2 (fun e => e)).trans HH2.out
             have HT23 := Lib.hid (show Touch (fun _ => False) w2 w3 from t3)
             clear t3 hbx hsx))
        have ty := tch5 (w := w3) w.heap.size (.int .i64 E.room) (.slice (some ⟨g, off, none⟩) D.fs.length c) (.bool E.down) (.int .i64 E.armed) (.int .u64 (E.steps : Int))
        have tz := tch5 (w := ((((w3.setCell ⟨w.heap.size, 0, none⟩ (.int .i64 E.room)).setCell ⟨w.heap.size, 1, none⟩ (.slice (some ⟨g, off, none⟩) D.fs.length c)).setCell ⟨w.heap.size, 2, none⟩ (.bool E.down)).setCell ⟨w.heap.size, 3, none⟩ (.int .i64 E.armed)).setCell ⟨w.heap.size, 4, none⟩ (.int .u64 (E.steps : Int))) (w.heap.size + 1) (.int .i64 E.room) (.slice (some ⟨g, off, none⟩) D.fs.length c) (.bool E.down) (.int .i64 E.armed) (.int .u64 (E.steps : Int))
        refine bodyPost_ret (results_cell2 (cs := rdA (some ⟨g, off, none⟩) c E) 4 5 rowRd rfl (by rw [hEr]; exact fin5 (ty.blk HS3.out (by omega)) _ _ _ _ _) rfl rfl) rfl ?_
        exact RkP.same HR.out ((HT3.out.trans ty (fun q hq e => by omega)).trans tz (fun q hq e => by omega)) hEf HV.out
      · obtain ⟨E, hE⟩ : ∃ E, E = D.step.1 := ⟨_, rfl⟩
        have hEf : E.fs = D.fs := by rw [hE]; exact step_fs D
        have hEr : rdA A c E = #[.int .i64 E.room, .slice A D.fs.length c, .bool E.down, .int .i64 E.armed, .int .u64 (E.steps : Int)] := by rw [rdA, hEf]
        have HSt := Lib.hid (show ∀ W : World, Calls Try.prog 108 #[.agg #[.int .i64 D.room, .slice A D.fs.length c, .bool false, .int .i64 D.armed, .int .u64 (D.steps : Int)]] W fun e w' => e = .returned (.tuple #[.agg #[.int .i64 E.room, .slice A D.fs.length c, .bool E.down, .int .i64 E.armed, .int .u64 (E.steps : Int)], .bool true]) ∧ Touch (fun _ => False) W w' from fun W => by
          have := fstep_any D A c W HOk.out.armed hst
          unfold StfP at this
          rw [← hE, hEr, hs] at this
          rwa [hrd] at this)
        have HV := Lib.hid (show D.remove nm = ({ E with fs := outF D.fs nm }, 0) by rw [Dk.remove, if_neg (by rw [hd]; simp), hg]; simp only; rw [if_pos hs, hE])
        have HWo := Lib.hid (show ∀ W : World, RfF W F A D.fs → Calls Try.prog 110 #[.agg #[.int .i64 E.room, .slice A D.fs.length c, .bool E.down, .int .i64 E.armed, .int .u64 (E.steps : Int)], St nm] W (RxP { E with fs := outF D.fs nm } W) from fun W h => by
          have := fwithout_any E F A c nm W (hEf ▸ h) (hEf ▸ hn)
          rw [hEr, hEf] at this
          exact this)
        unfold RxP at HWo
        rw [hrd] at HFd ⊢
        clear hr hok hd hg hw1 hs hE
        go_enter Try.func78, Try.ntmps78
        go_upto_if 21 with (first
          | (go_at_call 107; rw [← HW1.out]; go_must (refine HFd.out.mono ?_); rintro e w2 ⟨i, rfl, hi, hf, t2⟩
             have HT2 := Lib.hid (HT1.out.trans t2 (fun _ _ e => e))
             have HB2 := Lib.hid (t2.blk HB1.out (fun e => e))
             have HS2 := Lib.hid (t2.blk HS1.out (fun e => e))
             have hs2 := t2.size
             have p0 := HB2.out.cell 0; have p1 := HB2.out.cell 1; have p2 := HB2.out.cell 2; have p3 := HB2.out.cell 3; have p4 := HB2.out.cell 4; simp at p0 p1 p2 p3 p4
             have m0 := HB2.out.frozen 0; have m1 := HB2.out.frozen 1; have m2 := HB2.out.frozen 2; have m3 := HB2.out.frozen 3; have m4 := HB2.out.frozen 4
             have y0 := HS2.out.cell 0; have y1 := HS2.out.cell 1; have y2 := HS2.out.cell 2; have y3 := HS2.out.cell 3; have y4 := HS2.out.cell 4; simp at y0 y1 y2 y3 y4
             have z0 := HS2.out.frozen 0; have z1 := HS2.out.frozen 1; have z2 := HS2.out.frozen 2; have z3 := HS2.out.frozen 3; have z4 := HS2.out.frozen 4
             obtain ⟨g, off, hA, hg2, hgF, h0, h1, h2⟩ := (HR.out.touch HT2.out (fun _ _ e => e)).at_ hf
             subst hA
             have hgw := HFl.out g hgF
             have hgn : g ≠ w.heap.size := by omega
             have hgn' : g ≠ w.heap.size + 1 := by omega
             have HHf := Lib.hid hf
             have HH0 := Lib.hid h0
             have HH1 := Lib.hid h1
             have HH2 := Lib.hid h2
             clear t2 hf)
          | (go_at_call 108; go_must (refine (HSt.out _).mono ?_); rintro e w3 ⟨rfl, t3⟩
             have HT3 := Lib.hid (Touch.trans (show Touch (fun _ => False) w _ from by repeat (first | exact HT2.out | refine Touch.alloc ?_ _ | refine Touch.set ?_ (fun _ => by omega) _)) t3 (fun _ _ e => e))
             have hbx := HB2.out
             have hsx := HS2.out
             have HB3 := Lib.hid (t3.blk hbx (fun e => e))
             have HS3 := Lib.hid (t3.blk hsx (fun e => e))
             have hs3 := t3.size
             have p0 := HB3.out.cell 0; have p1 := HB3.out.cell 1; have p2 := HB3.out.cell 2; have p3 := HB3.out.cell 3; have p4 := HB3.out.cell 4; simp at p0 p1 p2 p3 p4
             have m0 := HB3.out.frozen 0; have m1 := HB3.out.frozen 1; have m2 := HB3.out.frozen 2; have m3 := HB3.out.frozen 3; have m4 := HB3.out.frozen 4
             have y0 := HS3.out.cell 0; have y1 := HS3.out.cell 1; have y2 := HS3.out.cell 2; have y3 := HS3.out.cell 3; have y4 := HS3.out.cell 4; simp at y0 y1 y2 y3 y4
             have z0 := HS3.out.frozen 0; have z1 := HS3.out.frozen 1; have z2 := HS3.out.frozen 2; have z3 := HS3.out.frozen 3; have z4 := HS3.out.frozen 4
             have h0 := ((show Touch (fun _ => False) w2 w3 from t3).cell (p := ⟨g, off + i * 3, none⟩) hg2 (fun e => e)).trans HH0.out
             have h1 := ((show Touch (fun _ => False) w2 w3 from t3).cell (p := ⟨g, off + i * 3 + 1, none⟩) hg2 (fun e => e)).trans HH1.out
             have h2 := ((show Touch (fun _ => False) w2 w3 from t3).cell (p := ⟨g, off + i * 3 + 2, none⟩) hg2 (fun e => e)).trans HH2.out
             have HT23 := Lib.hid (show Touch (fun _ => False) w2 w3 from t3)
             clear t3 hbx hsx))
        obtain ⟨w4, hw4⟩ : ∃ w4, w4 = ((((w3.setCell ⟨w.heap.size, 0, none⟩ (.int .i64 E.room)).setCell ⟨w.heap.size, 1, none⟩ (.slice (some ⟨g, off, none⟩) D.fs.length c)).setCell ⟨w.heap.size, 2, none⟩ (.bool E.down)).setCell ⟨w.heap.size, 3, none⟩ (.int .i64 E.armed)).setCell ⟨w.heap.size, 4, none⟩ (.int .u64 (E.steps : Int)) := ⟨_, rfl⟩
        have t4 := tch5 (w := w3) w.heap.size (.int .i64 E.room) (.slice (some ⟨g, off, none⟩) D.fs.length c) (.bool E.down) (.int .i64 E.armed) (.int .u64 (E.steps : Int))
        have hb4 := blk5 HB3.out (.int .i64 E.room) (.slice (some ⟨g, off, none⟩) D.fs.length c) (.bool E.down) (.int .i64 E.armed) (.int .u64 (E.steps : Int))
        rw [← hw4] at t4 hb4 ⊢
        have hsr4 := t4.blk HS3.out (by omega)
        have HT4 := Lib.hid (HT3.out.trans t4 (fun q hq e => by omega))
        have hs4 := t4.size
        have HB4 := Lib.hid hb4
        have HS4 := Lib.hid hsr4
        have tt := (HT23.out.mono (S' := fun q => q = w.heap.size) (fun _ _ e => e.elim)).trans t4 (fun q _ e => e)
        clear p0 p1 p2 p3 p4 m0 m1 m2 m3 m4 y0 y1 y2 y3 y4 z0 z1 z2 z3 z4 h0 h1 h2
        have p0 := hb4.cell 0; have p1 := hb4.cell 1; have p2 := hb4.cell 2; have p3 := hb4.cell 3; have p4 := hb4.cell 4; simp at p0 p1 p2 p3 p4
        have m0 := hb4.frozen 0; have m1 := hb4.frozen 1; have m2 := hb4.frozen 2; have m3 := hb4.frozen 3; have m4 := hb4.frozen 4
        have h0 := (tt.cell (p := ⟨g, off + i * 3, none⟩) hg2 hgn).trans HH0.out
        have h1 := (tt.cell (p := ⟨g, off + i * 3 + 1, none⟩) hg2 hgn).trans HH1.out
        have h2 := (tt.cell (p := ⟨g, off + i * 3 + 2, none⟩) hg2 hgn).trans HH2.out
        have hlt4 := hb4.lt
        have hne4 : ¬ w.heap.size = w4.heap.size := by omega
        clear tt t4 hb4 hsr4 hw4
        go_wp2_with (first
          | (go_at_call 110; go_must (refine (HWo.out w4 (HR.out.touch HT4.out (fun _ _ e => e))).mono ?_); rintro e w6 ⟨A6, c6, rfl, hr6, t6⟩
             rw [show rdA A6 c6 ({ E with fs := outF D.fs nm }) = #[.int .i64 E.room, .slice A6 (outF D.fs nm).length c6, .bool E.down, .int .i64 E.armed, .int .u64 (E.steps : Int)] from rfl]
             have HR6 := Lib.hid hr6
             have HT6 := Lib.hid (HT4.out.trans t6 (fun _ _ e => e))
             have HS6 := Lib.hid (t6.blk HS4.out (fun e => e))
             have hs6 := t6.size
             have y0 := HS6.out.cell 0; have y1 := HS6.out.cell 1; have y2 := HS6.out.cell 2; have y3 := HS6.out.cell 3; have y4 := HS6.out.cell 4; simp at y0 y1 y2 y3 y4
             have z0 := HS6.out.frozen 0; have z1 := HS6.out.frozen 1; have z2 := HS6.out.frozen 2; have z3 := HS6.out.frozen 3; have z4 := HS6.out.frozen 4
             clear hr6 t6))
        have tz := tch5 (w := w6) (w.heap.size + 1) (.int .i64 E.room) (.slice A6 (outF D.fs nm).length c6) (.bool E.down) (.int .i64 E.armed) (.int .u64 (E.steps : Int))
        refine bodyPost_ret (results_cell2 (cs := rdA A6 c6 ({ E with fs := outF D.fs nm })) 4 5 rowRd rfl (by exact fin5 HS6.out _ _ _ _ _) rfl rfl) rfl ?_
        exact RkP.put HV.out ((HR6.out.touch tz (fun q hq e => by omega)).mono (fun q hq => ⟨hq.1, Nat.lt_of_lt_of_le hq.2 tz.size⟩)) (by omega) (HT6.out.trans tz (fun q hq e => by omega))
  · have hrd : rdA A c D = #[.int .i64 D.room, .slice A D.fs.length c, .bool true, .int .i64 D.armed, .int .u64 (D.steps : Int)] := by rw [rdA, hd]
    have HV := Lib.hid (show D.remove nm = (D, 50) by rw [Dk.remove, if_pos hd])
    rw [hrd]
    clear hr hok hd
    go_enter Try.func78, Try.ntmps78
    go_wp2
    refine bodyPost_ret (results_cell2 (cs := rdA A c D) 4 5 rowRd rfl (by rw [hrd]; exact new2 _ _ _ _) rfl rfl) rfl ?_
    exact RkP.same HR.out (T2 _ _ _) rfl HV.out
theorem fdcut_any (D : Dk) (F : Nat → Prop) (A : Option Addr) (c : Nat) (nm : List UInt8) (n : Int) (w : World) (hr : RfF w F A D.fs) (hok : D.Ok) (hF : ∀ q, F q → q < w.heap.size) (hst : D.steps ≤ 1000000) :
    Calls Try.prog 77 #[.agg (rdA A c D), St nm, .int .i64 n] w (RkP (D.cut nm n) F w) := by
  have HR := Lib.hid hr
  have HOk := Lib.hid hok
  have HFl := Lib.hid hF
  have hn := hok.n
  cases hd : D.down
  · cases hg : getF D.fs nm with
    | none =>
      have hrd : rdA A c D = #[.int .i64 D.room, .slice A D.fs.length c, .bool false, .int .i64 D.armed, .int .u64 (D.steps : Int)] := by rw [rdA, hd]
      obtain ⟨w1, hw1⟩ : ∃ w1, w1 = (w.alloc (.cells #[.int .i64 D.room, .slice A D.fs.length c, .bool false, .int .i64 D.armed, .int .u64 (D.steps : Int)] 67)).alloc (.cells #[.int .i64 0, .slice none 0 0, .bool false, .int .i64 0, .int .u64 0] 67) := ⟨_, rfl⟩
      have HT1 := Lib.hid (show Touch (fun _ => False) w w1 from hw1 ▸ T2 w _ _)
      have HB1 := Lib.hid (show Blk w1 w.heap.size 67 #[.int .i64 D.room, .slice A D.fs.length c, .bool false, .int .i64 D.armed, .int .u64 (D.steps : Int)] from hw1 ▸ bk11 w _ _ _ _)
      have HS1 := Lib.hid (show Blk w1 (w.heap.size + 1) 67 #[.int .i64 0, .slice none 0 0, .bool false, .int .i64 0, .int .u64 0] from hw1 ▸ bk12 w _ _ _ _)
      have hs1 : w1.heap.size = w.heap.size + 2 := by rw [hw1]; simp
      have HW1 := Lib.hid hw1
      have HV := Lib.hid (show D.cut nm n = (D, 31) by rw [Dk.cut, if_neg (by rw [hd]; simp), hg])
      have HFd := Lib.hid (ffind_none D F A c nm w1 (hr.touch HT1.out (fun _ _ e => e)) hn hg)
      rw [hrd] at HFd ⊢
      clear hr hok hd hg hw1
      go_enter Try.func77, Try.ntmps77
      go_wp2_with (first
        | (go_at_call 107; rw [← HW1.out]; go_must (refine HFd.out.mono ?_); rintro e w2 ⟨rfl, t2⟩
           have HT2 := Lib.hid (HT1.out.trans t2 (fun _ _ e => e))
           have HB2 := Lib.hid (t2.blk HB1.out (fun e => e))
           have HS2 := Lib.hid (t2.blk HS1.out (fun e => e))
           have hs2 := t2.size
           have p0 := HB2.out.cell 0; have p1 := HB2.out.cell 1; have p2 := HB2.out.cell 2; have p3 := HB2.out.cell 3; have p4 := HB2.out.cell 4; simp at p0 p1 p2 p3 p4
           have m0 := HB2.out.frozen 0; have m1 := HB2.out.frozen 1; have m2 := HB2.out.frozen 2; have m3 := HB2.out.frozen 3; have m4 := HB2.out.frozen 4
           have y0 := HS2.out.cell 0; have y1 := HS2.out.cell 1; have y2 := HS2.out.cell 2; have y3 := HS2.out.cell 3; have y4 := HS2.out.cell 4; simp at y0 y1 y2 y3 y4
           have z0 := HS2.out.frozen 0; have z1 := HS2.out.frozen 1; have z2 := HS2.out.frozen 2; have z3 := HS2.out.frozen 3; have z4 := HS2.out.frozen 4
           clear t2))
      have tz := tch5 (w := w2) (w.heap.size + 1) (.int .i64 D.room) (.slice A D.fs.length c) (.bool false) (.int .i64 D.armed) (.int .u64 (D.steps : Int))
      refine bodyPost_ret (results_cell2 (cs := rdA A c D) 6 7 rowRd rfl (by rw [hrd]; exact fin5 HS2.out _ _ _ _ _) rfl rfl) rfl ?_
      exact RkP.same HR.out (HT2.out.trans tz (fun q hq e => by omega)) rfl HV.out
    | some f =>
      have hrd : rdA A c D = #[.int .i64 D.room, .slice A D.fs.length c, .bool false, .int .i64 D.armed, .int .u64 (D.steps : Int)] := by rw [rdA, hd]
      obtain ⟨w1, hw1⟩ : ∃ w1, w1 = (w.alloc (.cells #[.int .i64 D.room, .slice A D.fs.length c, .bool false, .int .i64 D.armed, .int .u64 (D.steps : Int)] 67)).alloc (.cells #[.int .i64 0, .slice none 0 0, .bool false, .int .i64 0, .int .u64 0] 67) := ⟨_, rfl⟩
      have HT1 := Lib.hid (show Touch (fun _ => False) w w1 from hw1 ▸ T2 w _ _)
      have HB1 := Lib.hid (show Blk w1 w.heap.size 67 #[.int .i64 D.room, .slice A D.fs.length c, .bool false, .int .i64 D.armed, .int .u64 (D.steps : Int)] from hw1 ▸ bk11 w _ _ _ _)
      have HS1 := Lib.hid (show Blk w1 (w.heap.size + 1) 67 #[.int .i64 0, .slice none 0 0, .bool false, .int .i64 0, .int .u64 0] from hw1 ▸ bk12 w _ _ _ _)
      have hs1 : w1.heap.size = w.heap.size + 2 := by rw [hw1]; simp
      have HW1 := Lib.hid hw1
      have HFd := Lib.hid (ffind_some D F A c nm w1 (hr.touch HT1.out (fun _ _ e => e)) hn hg)
      obtain ⟨hfm, hfn⟩ := getF_some hg
      have hfo := hok.nm f hfm
      have hfl := len_le_tot hfm
      have htot := hok.tot
      have hsa := stSize f.al
      have HFn := Lib.hid hfn
      clear hfn
      rcases (by rcases Int.lt_or_le n 0 with h | h; exact .inl h; rcases Int.lt_or_le f.al.length n with h' | h'; exact .inr (.inl ⟨by omega, h'⟩); exact .inr (.inr ⟨n.toNat, by omega, by omega⟩) : n < 0 ∨ (¬ n < 0 ∧ (f.al.length : Int) < n) ∨ ∃ k : Nat, n = k ∧ k ≤ f.al.length) with h0 | ⟨h0, h1⟩ | ⟨k, rfl, hk⟩
      · have HV := Lib.hid (show D.cut nm n = (D, 2) by rw [Dk.cut, if_neg (by rw [hd]; simp), hg]; simp only; rw [if_pos (by omega)])
        rw [hrd] at HFd ⊢
        clear hr hok hd hg hw1
        go_enter Try.func77, Try.ntmps77
        go_wp2_with (first
          | (go_at_call 107; rw [← HW1.out]; go_must (refine HFd.out.mono ?_); rintro e w2 ⟨i, rfl, hi, hf, t2⟩
             have HT2 := Lib.hid (HT1.out.trans t2 (fun _ _ e => e))
             have HB2 := Lib.hid (t2.blk HB1.out (fun e => e))
             have HS2 := Lib.hid (t2.blk HS1.out (fun e => e))
             have hs2 := t2.size
             have p0 := HB2.out.cell 0; have p1 := HB2.out.cell 1; have p2 := HB2.out.cell 2; have p3 := HB2.out.cell 3; have p4 := HB2.out.cell 4; simp at p0 p1 p2 p3 p4
             have m0 := HB2.out.frozen 0; have m1 := HB2.out.frozen 1; have m2 := HB2.out.frozen 2; have m3 := HB2.out.frozen 3; have m4 := HB2.out.frozen 4
             have y0 := HS2.out.cell 0; have y1 := HS2.out.cell 1; have y2 := HS2.out.cell 2; have y3 := HS2.out.cell 3; have y4 := HS2.out.cell 4; simp at y0 y1 y2 y3 y4
             have z0 := HS2.out.frozen 0; have z1 := HS2.out.frozen 1; have z2 := HS2.out.frozen 2; have z3 := HS2.out.frozen 3; have z4 := HS2.out.frozen 4
             obtain ⟨g, off, hA, hg2, hgF, h0, h1, h2⟩ := (HR.out.touch HT2.out (fun _ _ e => e)).at_ hf
             subst hA
             have hgw := HFl.out g hgF
             have hgn : g ≠ w.heap.size := by omega
             have hgn' : g ≠ w.heap.size + 1 := by omega
             have HHf := Lib.hid hf
             have HH0 := Lib.hid h0
             have HH1 := Lib.hid h1
             have HH2 := Lib.hid h2
             clear t2 hf
             have hlt2 : w.heap.size < w2.heap.size := by omega
             have hne2 : ¬ w.heap.size = w2.heap.size := by omega
             have hlt2' : w.heap.size + 1 < w2.heap.size := by omega
             have hne2' : ¬ w.heap.size + 1 = w2.heap.size := by omega
             have hgn2 : ¬ g = w2.heap.size := by omega))
        have tz := tch5 (w := w2) (w.heap.size + 1) (.int .i64 D.room) (.slice (some ⟨g, off, none⟩) D.fs.length c) (.bool false) (.int .i64 D.armed) (.int .u64 (D.steps : Int))
        have h5 := ((Touch.refl (fun _ => False) _).alloc (.cells #[St f.nm, St f.al, .int .i64 (f.kp : Int)] 82)).blk (blk5 HS2.out (.int .i64 D.room) (.slice (some ⟨g, off, none⟩) D.fs.length c) (.bool false) (.int .i64 D.armed) (.int .u64 (D.steps : Int))) (fun e => e)
        refine bodyPost_ret (results_cell2 (cs := rdA (some ⟨g, off, none⟩) c D) 6 7 rowRd rfl (by rw [hrd]; exact h5.whole) rfl rfl) rfl ?_
        exact RkP.same HR.out ((HT2.out.trans tz (fun q hq e => by omega)).alloc _) rfl HV.out
      · have HV := Lib.hid (show D.cut nm n = (D, 2) by rw [Dk.cut, if_neg (by rw [hd]; simp), hg]; simp only; rw [if_pos (by omega)])
        rw [hrd] at HFd ⊢
        clear hr hok hd hg hw1
        go_enter Try.func77, Try.ntmps77
        go_wp2_with (first
          | (go_at_call 107; rw [← HW1.out]; go_must (refine HFd.out.mono ?_); rintro e w2 ⟨i, rfl, hi, hf, t2⟩
             have HT2 := Lib.hid (HT1.out.trans t2 (fun _ _ e => e))
             have HB2 := Lib.hid (t2.blk HB1.out (fun e => e))
             have HS2 := Lib.hid (t2.blk HS1.out (fun e => e))
             have hs2 := t2.size
             have p0 := HB2.out.cell 0; have p1 := HB2.out.cell 1; have p2 := HB2.out.cell 2; have p3 := HB2.out.cell 3; have p4 := HB2.out.cell 4; simp at p0 p1 p2 p3 p4
             have m0 := HB2.out.frozen 0; have m1 := HB2.out.frozen 1; have m2 := HB2.out.frozen 2; have m3 := HB2.out.frozen 3; have m4 := HB2.out.frozen 4
             have y0 := HS2.out.cell 0; have y1 := HS2.out.cell 1; have y2 := HS2.out.cell 2; have y3 := HS2.out.cell 3; have y4 := HS2.out.cell 4; simp at y0 y1 y2 y3 y4
             have z0 := HS2.out.frozen 0; have z1 := HS2.out.frozen 1; have z2 := HS2.out.frozen 2; have z3 := HS2.out.frozen 3; have z4 := HS2.out.frozen 4
             obtain ⟨g, off, hA, hg2, hgF, h0, h1, h2⟩ := (HR.out.touch HT2.out (fun _ _ e => e)).at_ hf
             subst hA
             have hgw := HFl.out g hgF
             have hgn : g ≠ w.heap.size := by omega
             have hgn' : g ≠ w.heap.size + 1 := by omega
             have HHf := Lib.hid hf
             have HH0 := Lib.hid h0
             have HH1 := Lib.hid h1
             have HH2 := Lib.hid h2
             clear t2 hf
             have hlt2 : w.heap.size < w2.heap.size := by omega
             have hne2 : ¬ w.heap.size = w2.heap.size := by omega
             have hlt2' : w.heap.size + 1 < w2.heap.size := by omega
             have hne2' : ¬ w.heap.size + 1 = w2.heap.size := by omega
             have hgn2 : ¬ g = w2.heap.size := by omega))
        have tz := tch5 (w := w2) (w.heap.size + 1) (.int .i64 D.room) (.slice (some ⟨g, off, none⟩) D.fs.length c) (.bool false) (.int .i64 D.armed) (.int .u64 (D.steps : Int))
        have h5 := ((Touch.refl (fun _ => False) _).alloc (.cells #[St f.nm, St f.al, .int .i64 (f.kp : Int)] 82)).blk (blk5 HS2.out (.int .i64 D.room) (.slice (some ⟨g, off, none⟩) D.fs.length c) (.bool false) (.int .i64 D.armed) (.int .u64 (D.steps : Int))) (fun e => e)
        refine bodyPost_ret (results_cell2 (cs := rdA (some ⟨g, off, none⟩) c D) 6 7 rowRd rfl (by rw [hrd]; exact h5.whole) rfl rfl) rfl ?_
        exact RkP.same HR.out ((HT2.out.trans tz (fun q hq e => by omega)).alloc _) rfl HV.out
      · have hkk : ¬ (k : Int) < 0 := by omega
        have hkl : ¬ (f.al.length : Int) < (k : Int) := by omega
        cases hs : D.step.2
        · obtain ⟨E, hE⟩ : ∃ E, E = D.step.1 := ⟨_, rfl⟩
          have hEf : E.fs = D.fs := by rw [hE]; exact step_fs D
          have hEr : rdA A c E = #[.int .i64 E.room, .slice A D.fs.length c, .bool E.down, .int .i64 E.armed, .int .u64 (E.steps : Int)] := by rw [rdA, hEf]
          have HSt := Lib.hid (show ∀ W : World, Calls Try.prog 108 #[.agg #[.int .i64 D.room, .slice A D.fs.length c, .bool false, .int .i64 D.armed, .int .u64 (D.steps : Int)]] W fun e w' => e = .returned (.tuple #[.agg #[.int .i64 E.room, .slice A D.fs.length c, .bool E.down, .int .i64 E.armed, .int .u64 (E.steps : Int)], .bool false]) ∧ Touch (fun _ => False) W w' from fun W => by
            have := fstep_any D A c W HOk.out.armed hst
            unfold StfP at this
            rw [← hE, hEr, hs] at this
            rwa [hrd] at this)
          have HV := Lib.hid (show D.cut nm k = (E, 50) by rw [Dk.cut, if_neg (by rw [hd]; simp), hg]; simp only; rw [if_neg (by omega), if_neg (by rw [hs]; simp), hE])
          rw [hrd] at HFd ⊢
          clear hr hok hd hg hw1 hs hE
          go_enter Try.func77, Try.ntmps77
          go_wp2_with (first
            | (go_at_call 107; rw [← HW1.out]; go_must (refine HFd.out.mono ?_); rintro e w2 ⟨i, rfl, hi, hf, t2⟩
               have HT2 := Lib.hid (HT1.out.trans t2 (fun _ _ e => e))
               have HB2 := Lib.hid (t2.blk HB1.out (fun e => e))
               have HS2 := Lib.hid (t2.blk HS1.out (fun e => e))
               have hs2 := t2.size
               have p0 := HB2.out.cell 0; have p1 := HB2.out.cell 1; have p2 := HB2.out.cell 2; have p3 := HB2.out.cell 3; have p4 := HB2.out.cell 4; simp at p0 p1 p2 p3 p4
               have m0 := HB2.out.frozen 0; have m1 := HB2.out.frozen 1; have m2 := HB2.out.frozen 2; have m3 := HB2.out.frozen 3; have m4 := HB2.out.frozen 4
               have y0 := HS2.out.cell 0; have y1 := HS2.out.cell 1; have y2 := HS2.out.cell 2; have y3 := HS2.out.cell 3; have y4 := HS2.out.cell 4; simp at y0 y1 y2 y3 y4
               have z0 := HS2.out.frozen 0; have z1 := HS2.out.frozen 1; have z2 := HS2.out.frozen 2; have z3 := HS2.out.frozen 3; have z4 := HS2.out.frozen 4
               obtain ⟨g, off, hA, hg2, hgF, h0, h1, h2⟩ := (HR.out.touch HT2.out (fun _ _ e => e)).at_ hf
               subst hA
               have hgw := HFl.out g hgF
               have hgn : g ≠ w.heap.size := by omega
               have hgn' : g ≠ w.heap.size + 1 := by omega
               have HHf := Lib.hid hf
               have HH0 := Lib.hid h0
               have HH1 := Lib.hid h1
               have HH2 := Lib.hid h2
               clear t2 hf
               have hlt2 : w.heap.size < w2.heap.size := by omega
               have hne2 : ¬ w.heap.size = w2.heap.size := by omega
               have hlt2' : w.heap.size + 1 < w2.heap.size := by omega
               have hne2' : ¬ w.heap.size + 1 = w2.heap.size := by omega
               have hgn2 : ¬ g = w2.heap.size := by omega)
            | (go_at_call 108; go_must (refine (HSt.out _).mono ?_); rintro e w3 ⟨rfl, t3⟩
               have HT3 := Lib.hid (Touch.trans (show Touch (fun _ => False) w _ from by repeat (first | exact HT2.out | refine Touch.alloc ?_ _ | refine Touch.set ?_ (fun _ => by omega) _)) t3 (fun _ _ e => e))
               have ta : Touch (fun _ => False) w2 (w2.alloc (.cells #[St f.nm, St f.al, .int .i64 (f.kp : Int)] 82)) := (Touch.refl (fun _ => False) w2).alloc _
               have hbx := ta.blk HB2.out (fun e => e)
               have hsx := ta.blk HS2.out (fun e => e)
               have HK3 := Lib.hid (t3.blk (Blk.new w2 82 #[St f.nm, St f.al, .int .i64 (f.kp : Int)]) (fun e => e))
               have h23 := ta.trans t3 (fun _ _ e => e)
               have hs23 := h23.size
               have HB3 := Lib.hid (t3.blk hbx (fun e => e))
               have HS3 := Lib.hid (t3.blk hsx (fun e => e))
               have hs3 := t3.size
               have p0 := HB3.out.cell 0; have p1 := HB3.out.cell 1; have p2 := HB3.out.cell 2; have p3 := HB3.out.cell 3; have p4 := HB3.out.cell 4; simp at p0 p1 p2 p3 p4
               have m0 := HB3.out.frozen 0; have m1 := HB3.out.frozen 1; have m2 := HB3.out.frozen 2; have m3 := HB3.out.frozen 3; have m4 := HB3.out.frozen 4
               have y0 := HS3.out.cell 0; have y1 := HS3.out.cell 1; have y2 := HS3.out.cell 2; have y3 := HS3.out.cell 3; have y4 := HS3.out.cell 4; simp at y0 y1 y2 y3 y4
               have z0 := HS3.out.frozen 0; have z1 := HS3.out.frozen 1; have z2 := HS3.out.frozen 2; have z3 := HS3.out.frozen 3; have z4 := HS3.out.frozen 4
               have h0 := ((show Touch (fun _ => False) w2 w3 from h23).cell (p := ⟨g, off + i * 3, none⟩) hg2 (fun e => e)).trans HH0.out
               have h1 := ((show Touch (fun _ => False) w2 w3 from h23).cell (p := ⟨g, off + i * 3 + 1, none⟩) hg2 (fun e => e)).trans HH1.out
               have h2 := ((show Touch (fun _ => False) w2 w3 from h23).cell (p := ⟨g, off + i * 3 + 2, none⟩) hg2 (fun e => e)).trans HH2.out
               have HT23 := Lib.hid (show Touch (fun _ => False) w2 w3 from h23)
               clear t3 ta h23 hbx hsx))
          have ty := tch5 (w := w3) w.heap.size (.int .i64 E.room) (.slice (some ⟨g, off, none⟩) D.fs.length c) (.bool E.down) (.int .i64 E.armed) (.int .u64 (E.steps : Int))
          have tz := tch5 (w := ((((w3.setCell ⟨w.heap.size, 0, none⟩ (.int .i64 E.room)).setCell ⟨w.heap.size, 1, none⟩ (.slice (some ⟨g, off, none⟩) D.fs.length c)).setCell ⟨w.heap.size, 2, none⟩ (.bool E.down)).setCell ⟨w.heap.size, 3, none⟩ (.int .i64 E.armed)).setCell ⟨w.heap.size, 4, none⟩ (.int .u64 (E.steps : Int))) (w.heap.size + 1) (.int .i64 E.room) (.slice (some ⟨g, off, none⟩) D.fs.length c) (.bool E.down) (.int .i64 E.armed) (.int .u64 (E.steps : Int))
          refine bodyPost_ret (results_cell2 (cs := rdA (some ⟨g, off, none⟩) c E) 6 7 rowRd rfl (by rw [hEr]; exact fin5 (ty.blk HS3.out (by omega)) _ _ _ _ _) rfl rfl) rfl ?_
          exact RkP.same HR.out ((HT3.out.trans ty (fun q hq e => by omega)).trans tz (fun q hq e => by omega)) hEf HV.out
        · obtain ⟨E, hE⟩ : ∃ E, E = D.step.1 := ⟨_, rfl⟩
          have hEf : E.fs = D.fs := by rw [hE]; exact step_fs D
          have hEr : rdA A c E = #[.int .i64 E.room, .slice A D.fs.length c, .bool E.down, .int .i64 E.armed, .int .u64 (E.steps : Int)] := by rw [rdA, hEf]
          have HSt := Lib.hid (show ∀ W : World, Calls Try.prog 108 #[.agg #[.int .i64 D.room, .slice A D.fs.length c, .bool false, .int .i64 D.armed, .int .u64 (D.steps : Int)]] W fun e w' => e = .returned (.tuple #[.agg #[.int .i64 E.room, .slice A D.fs.length c, .bool E.down, .int .i64 E.armed, .int .u64 (E.steps : Int)], .bool true]) ∧ Touch (fun _ => False) W w' from fun W => by
            have := fstep_any D A c W HOk.out.armed hst
            unfold StfP at this
            rw [← hE, hEr, hs] at this
            rwa [hrd] at this)
          have HV := Lib.hid (show D.cut nm k = ({ E with fs := putF D.fs ⟨f.nm, f.al.take k, min f.kp k⟩ }, 0) by rw [Dk.cut, if_neg (by rw [hd]; simp), hg]; simp only; rw [if_neg (by omega), if_pos hs, hE]; rfl)
          by_cases hkm : (k : Int) < (f.kp : Int)
          · have hmk : min f.kp k = k := by omega
            have HWi := Lib.hid (show ∀ W : World, RfF W F A D.fs → Calls Try.prog 109 #[.agg #[.int .i64 E.room, .slice A D.fs.length c, .bool E.down, .int .i64 E.armed, .int .u64 (E.steps : Int)], .agg #[St f.nm, St (f.al.take k), .int .i64 (k : Int)]] W (RxP { E with fs := putF D.fs ⟨f.nm, f.al.take k, min f.kp k⟩ } W) from fun W h => by
              have := fwith_any E F A c ⟨f.nm, f.al.take k, min f.kp k⟩ W (hEf ▸ h) (hEf ▸ hn)
              rw [hEr, hEf] at this
              simp only [hmk] at this ⊢
              exact this)
            unfold RxP at HWi

            rw [hrd] at HFd ⊢
            clear hr hok hd hg hw1 hs hE hmk
            go_enter Try.func77, Try.ntmps77
            go_upto_if 41 with (first
              | (go_at_call 107; rw [← HW1.out]; go_must (refine HFd.out.mono ?_); rintro e w2 ⟨i, rfl, hi, hf, t2⟩
                 have HT2 := Lib.hid (HT1.out.trans t2 (fun _ _ e => e))
                 have HB2 := Lib.hid (t2.blk HB1.out (fun e => e))
                 have HS2 := Lib.hid (t2.blk HS1.out (fun e => e))
                 have hs2 := t2.size
                 have p0 := HB2.out.cell 0; have p1 := HB2.out.cell 1; have p2 := HB2.out.cell 2; have p3 := HB2.out.cell 3; have p4 := HB2.out.cell 4; simp at p0 p1 p2 p3 p4
                 have m0 := HB2.out.frozen 0; have m1 := HB2.out.frozen 1; have m2 := HB2.out.frozen 2; have m3 := HB2.out.frozen 3; have m4 := HB2.out.frozen 4
                 have y0 := HS2.out.cell 0; have y1 := HS2.out.cell 1; have y2 := HS2.out.cell 2; have y3 := HS2.out.cell 3; have y4 := HS2.out.cell 4; simp at y0 y1 y2 y3 y4
                 have z0 := HS2.out.frozen 0; have z1 := HS2.out.frozen 1; have z2 := HS2.out.frozen 2; have z3 := HS2.out.frozen 3; have z4 := HS2.out.frozen 4
                 obtain ⟨g, off, hA, hg2, hgF, h0, h1, h2⟩ := (HR.out.touch HT2.out (fun _ _ e => e)).at_ hf
                 subst hA
                 have hgw := HFl.out g hgF
                 have hgn : g ≠ w.heap.size := by omega
                 have hgn' : g ≠ w.heap.size + 1 := by omega
                 have HHf := Lib.hid hf
                 have HH0 := Lib.hid h0
                 have HH1 := Lib.hid h1
                 have HH2 := Lib.hid h2
                 clear t2 hf
                 have hlt2 : w.heap.size < w2.heap.size := by omega
                 have hne2 : ¬ w.heap.size = w2.heap.size := by omega
                 have hlt2' : w.heap.size + 1 < w2.heap.size := by omega
                 have hne2' : ¬ w.heap.size + 1 = w2.heap.size := by omega
                 have hgn2 : ¬ g = w2.heap.size := by omega)
              | (go_at_call 108; go_must (refine (HSt.out _).mono ?_); rintro e w3 ⟨rfl, t3⟩
                 have HT3 := Lib.hid (Touch.trans (show Touch (fun _ => False) w _ from by repeat (first | exact HT2.out | refine Touch.alloc ?_ _ | refine Touch.set ?_ (fun _ => by omega) _)) t3 (fun _ _ e => e))
                 have ta : Touch (fun _ => False) w2 (w2.alloc (.cells #[St f.nm, St f.al, .int .i64 (f.kp : Int)] 82)) := (Touch.refl (fun _ => False) w2).alloc _
                 have hbx := ta.blk HB2.out (fun e => e)
                 have hsx := ta.blk HS2.out (fun e => e)
                 have HK3 := Lib.hid (t3.blk (Blk.new w2 82 #[St f.nm, St f.al, .int .i64 (f.kp : Int)]) (fun e => e))
                 have h23 := ta.trans t3 (fun _ _ e => e)
                 have hs23 := h23.size
                 have HB3 := Lib.hid (t3.blk hbx (fun e => e))
                 have HS3 := Lib.hid (t3.blk hsx (fun e => e))
                 have hs3 := t3.size
                 have p0 := HB3.out.cell 0; have p1 := HB3.out.cell 1; have p2 := HB3.out.cell 2; have p3 := HB3.out.cell 3; have p4 := HB3.out.cell 4; simp at p0 p1 p2 p3 p4
                 have m0 := HB3.out.frozen 0; have m1 := HB3.out.frozen 1; have m2 := HB3.out.frozen 2; have m3 := HB3.out.frozen 3; have m4 := HB3.out.frozen 4
                 have y0 := HS3.out.cell 0; have y1 := HS3.out.cell 1; have y2 := HS3.out.cell 2; have y3 := HS3.out.cell 3; have y4 := HS3.out.cell 4; simp at y0 y1 y2 y3 y4
                 have z0 := HS3.out.frozen 0; have z1 := HS3.out.frozen 1; have z2 := HS3.out.frozen 2; have z3 := HS3.out.frozen 3; have z4 := HS3.out.frozen 4
                 have h0 := ((show Touch (fun _ => False) w2 w3 from h23).cell (p := ⟨g, off + i * 3, none⟩) hg2 (fun e => e)).trans HH0.out
                 have h1 := ((show Touch (fun _ => False) w2 w3 from h23).cell (p := ⟨g, off + i * 3 + 1, none⟩) hg2 (fun e => e)).trans HH1.out
                 have h2 := ((show Touch (fun _ => False) w2 w3 from h23).cell (p := ⟨g, off + i * 3 + 2, none⟩) hg2 (fun e => e)).trans HH2.out
                 have HT23 := Lib.hid (show Touch (fun _ => False) w2 w3 from h23)
                 clear t3 ta h23 hbx hsx))
            obtain ⟨w4, hw4⟩ : ∃ w4, w4 = ((((w3.setCell ⟨w.heap.size, 0, none⟩ (.int .i64 E.room)).setCell ⟨w.heap.size, 1, none⟩ (.slice (some ⟨g, off, none⟩) D.fs.length c)).setCell ⟨w.heap.size, 2, none⟩ (.bool E.down)).setCell ⟨w.heap.size, 3, none⟩ (.int .i64 E.armed)).setCell ⟨w.heap.size, 4, none⟩ (.int .u64 (E.steps : Int)) := ⟨_, rfl⟩
            have t4 := tch5 (w := w3) w.heap.size (.int .i64 E.room) (.slice (some ⟨g, off, none⟩) D.fs.length c) (.bool E.down) (.int .i64 E.armed) (.int .u64 (E.steps : Int))
            have hb4 := blk5 HB3.out (.int .i64 E.room) (.slice (some ⟨g, off, none⟩) D.fs.length c) (.bool E.down) (.int .i64 E.armed) (.int .u64 (E.steps : Int))
            rw [← hw4] at t4 hb4 ⊢
            have hsr4 := t4.blk HS3.out (by omega)
            have HT4 := Lib.hid (HT3.out.trans t4 (fun q hq e => by omega))
            have hs4 := t4.size
            have HB4 := Lib.hid hb4
            have HS4 := Lib.hid hsr4
            have tt := (HT23.out.mono (S' := fun q => q = w.heap.size) (fun _ _ e => e.elim)).trans t4 (fun q _ e => e)
            clear p0 p1 p2 p3 p4 m0 m1 m2 m3 m4 y0 y1 y2 y3 y4 z0 z1 z2 z3 z4 h0 h1 h2
            have p0 := hb4.cell 0; have p1 := hb4.cell 1; have p2 := hb4.cell 2; have p3 := hb4.cell 3; have p4 := hb4.cell 4; simp at p0 p1 p2 p3 p4
            have m0 := hb4.frozen 0; have m1 := hb4.frozen 1; have m2 := hb4.frozen 2; have m3 := hb4.frozen 3; have m4 := hb4.frozen 4
            have h0 := (tt.cell (p := ⟨g, off + i * 3, none⟩) hg2 hgn).trans HH0.out
            have h1 := (tt.cell (p := ⟨g, off + i * 3 + 1, none⟩) hg2 hgn).trans HH1.out
            have h2 := (tt.cell (p := ⟨g, off + i * 3 + 2, none⟩) hg2 hgn).trans HH2.out
            have hlt4 := hb4.lt
            have hne4 : ¬ w.heap.size = w4.heap.size := by omega
            have HK4 := Lib.hid (t4.blk HK3.out (by omega))
            have k0 := HK4.out.cell 0; have k1 := HK4.out.cell 1; have k2 := HK4.out.cell 2; simp at k0 k1 k2
            have l0 := HK4.out.frozen 0; have l1 := HK4.out.frozen 1; have l2 := HK4.out.frozen 2
            clear tt t4 hb4 hsr4 hw4
            have hsl := st_h f.al k hk
            go_wp2_with (first
              | (go_at_call 109
                 obtain ⟨w5, hw5⟩ : ∃ w5, w5 = (w4.setCell ⟨w2.heap.size, 1, none⟩ (St (f.al.take k))).setCell ⟨w2.heap.size, 2, none⟩ (.int .i64 (k : Int)) := ⟨_, rfl⟩
                 rw [← hw5]
                 have t5 : Touch (fun q => q = w2.heap.size) w4 w5 := hw5 ▸ ((Touch.refl (fun q => q = w2.heap.size) w4).set (b := w2.heap.size) (o := 1) (fun _ => rfl) _).set (b := w2.heap.size) (o := 2) (fun _ => rfl) _
                 have HT5 := Lib.hid (HT4.out.trans t5 (fun q hq e => by omega))
                 go_must (refine (HWi.out w5 (HR.out.touch HT5.out (fun _ _ e => e))).mono ?_); rintro e w6 ⟨A6, c6, rfl, hr6, t6⟩
                 rw [show rdA A6 c6 ({ E with fs := putF D.fs ⟨f.nm, f.al.take k, min f.kp k⟩ }) = #[.int .i64 E.room, .slice A6 (putF D.fs ⟨f.nm, f.al.take k, min f.kp k⟩).length c6, .bool E.down, .int .i64 E.armed, .int .u64 (E.steps : Int)] from rfl]
                 have HR6 := Lib.hid hr6
                 have HT6 := Lib.hid (HT5.out.trans t6 (fun _ _ e => e))
                 have HS6 := Lib.hid (t6.blk (t5.blk HS4.out (by omega)) (fun e => e))
                 have hs5 := t5.size
                 have hs6 := t6.size
                 have y0 := HS6.out.cell 0; have y1 := HS6.out.cell 1; have y2 := HS6.out.cell 2; have y3 := HS6.out.cell 3; have y4 := HS6.out.cell 4; simp at y0 y1 y2 y3 y4
                 have z0 := HS6.out.frozen 0; have z1 := HS6.out.frozen 1; have z2 := HS6.out.frozen 2; have z3 := HS6.out.frozen 3; have z4 := HS6.out.frozen 4
                 clear hr6 t6 t5 hw5))
            have tz := tch5 (w := w6) (w.heap.size + 1) (.int .i64 E.room) (.slice A6 (putF D.fs ⟨f.nm, f.al.take k, min f.kp k⟩).length c6) (.bool E.down) (.int .i64 E.armed) (.int .u64 (E.steps : Int))
            refine bodyPost_ret (results_cell2 (cs := rdA A6 c6 ({ E with fs := putF D.fs ⟨f.nm, f.al.take k, min f.kp k⟩ })) 6 7 rowRd rfl (by exact fin5 HS6.out _ _ _ _ _) rfl rfl) rfl ?_
            exact RkP.put HV.out ((HR6.out.touch tz (fun q hq e => by omega)).mono (fun q hq => ⟨hq.1, Nat.lt_of_lt_of_le hq.2 tz.size⟩)) (by omega) (HT6.out.trans tz (fun q hq e => by omega))
          · have hmk : min f.kp k = f.kp := by omega
            have HWi := Lib.hid (show ∀ W : World, RfF W F A D.fs → Calls Try.prog 109 #[.agg #[.int .i64 E.room, .slice A D.fs.length c, .bool E.down, .int .i64 E.armed, .int .u64 (E.steps : Int)], .agg #[St f.nm, St (f.al.take k), .int .i64 (f.kp : Int)]] W (RxP { E with fs := putF D.fs ⟨f.nm, f.al.take k, min f.kp k⟩ } W) from fun W h => by
              have := fwith_any E F A c ⟨f.nm, f.al.take k, min f.kp k⟩ W (hEf ▸ h) (hEf ▸ hn)
              rw [hEr, hEf] at this
              simp only [hmk] at this ⊢
              exact this)
            unfold RxP at HWi

            rw [hrd] at HFd ⊢
            clear hr hok hd hg hw1 hs hE hmk
            go_enter Try.func77, Try.ntmps77
            go_upto_if 41 with (first
              | (go_at_call 107; rw [← HW1.out]; go_must (refine HFd.out.mono ?_); rintro e w2 ⟨i, rfl, hi, hf, t2⟩
                 have HT2 := Lib.hid (HT1.out.trans t2 (fun _ _ e => e))
                 have HB2 := Lib.hid (t2.blk HB1.out (fun e => e))
                 have HS2 := Lib.hid (t2.blk HS1.out (fun e => e))
                 have hs2 := t2.size
                 have p0 := HB2.out.cell 0; have p1 := HB2.out.cell 1; have p2 := HB2.out.cell 2; have p3 := HB2.out.cell 3; have p4 := HB2.out.cell 4; simp at p0 p1 p2 p3 p4
                 have m0 := HB2.out.frozen 0; have m1 := HB2.out.frozen 1; have m2 := HB2.out.frozen 2; have m3 := HB2.out.frozen 3; have m4 := HB2.out.frozen 4
                 have y0 := HS2.out.cell 0; have y1 := HS2.out.cell 1; have y2 := HS2.out.cell 2; have y3 := HS2.out.cell 3; have y4 := HS2.out.cell 4; simp at y0 y1 y2 y3 y4
                 have z0 := HS2.out.frozen 0; have z1 := HS2.out.frozen 1; have z2 := HS2.out.frozen 2; have z3 := HS2.out.frozen 3; have z4 := HS2.out.frozen 4
                 obtain ⟨g, off, hA, hg2, hgF, h0, h1, h2⟩ := (HR.out.touch HT2.out (fun _ _ e => e)).at_ hf
                 subst hA
                 have hgw := HFl.out g hgF
                 have hgn : g ≠ w.heap.size := by omega
                 have hgn' : g ≠ w.heap.size + 1 := by omega
                 have HHf := Lib.hid hf
                 have HH0 := Lib.hid h0
                 have HH1 := Lib.hid h1
                 have HH2 := Lib.hid h2
                 clear t2 hf
                 have hlt2 : w.heap.size < w2.heap.size := by omega
                 have hne2 : ¬ w.heap.size = w2.heap.size := by omega
                 have hlt2' : w.heap.size + 1 < w2.heap.size := by omega
                 have hne2' : ¬ w.heap.size + 1 = w2.heap.size := by omega
                 have hgn2 : ¬ g = w2.heap.size := by omega)
              | (go_at_call 108; go_must (refine (HSt.out _).mono ?_); rintro e w3 ⟨rfl, t3⟩
                 have HT3 := Lib.hid (Touch.trans (show Touch (fun _ => False) w _ from by repeat (first | exact HT2.out | refine Touch.alloc ?_ _ | refine Touch.set ?_ (fun _ => by omega) _)) t3 (fun _ _ e => e))
                 have ta : Touch (fun _ => False) w2 (w2.alloc (.cells #[St f.nm, St f.al, .int .i64 (f.kp : Int)] 82)) := (Touch.refl (fun _ => False) w2).alloc _
                 have hbx := ta.blk HB2.out (fun e => e)
                 have hsx := ta.blk HS2.out (fun e => e)
                 have HK3 := Lib.hid (t3.blk (Blk.new w2 82 #[St f.nm, St f.al, .int .i64 (f.kp : Int)]) (fun e => e))
                 have h23 := ta.trans t3 (fun _ _ e => e)
                 have hs23 := h23.size
                 have HB3 := Lib.hid (t3.blk hbx (fun e => e))
                 have HS3 := Lib.hid (t3.blk hsx (fun e => e))
                 have hs3 := t3.size
                 have p0 := HB3.out.cell 0; have p1 := HB3.out.cell 1; have p2 := HB3.out.cell 2; have p3 := HB3.out.cell 3; have p4 := HB3.out.cell 4; simp at p0 p1 p2 p3 p4
                 have m0 := HB3.out.frozen 0; have m1 := HB3.out.frozen 1; have m2 := HB3.out.frozen 2; have m3 := HB3.out.frozen 3; have m4 := HB3.out.frozen 4
                 have y0 := HS3.out.cell 0; have y1 := HS3.out.cell 1; have y2 := HS3.out.cell 2; have y3 := HS3.out.cell 3; have y4 := HS3.out.cell 4; simp at y0 y1 y2 y3 y4
                 have z0 := HS3.out.frozen 0; have z1 := HS3.out.frozen 1; have z2 := HS3.out.frozen 2; have z3 := HS3.out.frozen 3; have z4 := HS3.out.frozen 4
                 have h0 := ((show Touch (fun _ => False) w2 w3 from h23).cell (p := ⟨g, off + i * 3, none⟩) hg2 (fun e => e)).trans HH0.out
                 have h1 := ((show Touch (fun _ => False) w2 w3 from h23).cell (p := ⟨g, off + i * 3 + 1, none⟩) hg2 (fun e => e)).trans HH1.out
                 have h2 := ((show Touch (fun _ => False) w2 w3 from h23).cell (p := ⟨g, off + i * 3 + 2, none⟩) hg2 (fun e => e)).trans HH2.out
                 have HT23 := Lib.hid (show Touch (fun _ => False) w2 w3 from h23)
                 clear t3 ta h23 hbx hsx))
            obtain ⟨w4, hw4⟩ : ∃ w4, w4 = ((((w3.setCell ⟨w.heap.size, 0, none⟩ (.int .i64 E.room)).setCell ⟨w.heap.size, 1, none⟩ (.slice (some ⟨g, off, none⟩) D.fs.length c)).setCell ⟨w.heap.size, 2, none⟩ (.bool E.down)).setCell ⟨w.heap.size, 3, none⟩ (.int .i64 E.armed)).setCell ⟨w.heap.size, 4, none⟩ (.int .u64 (E.steps : Int)) := ⟨_, rfl⟩
            have t4 := tch5 (w := w3) w.heap.size (.int .i64 E.room) (.slice (some ⟨g, off, none⟩) D.fs.length c) (.bool E.down) (.int .i64 E.armed) (.int .u64 (E.steps : Int))
            have hb4 := blk5 HB3.out (.int .i64 E.room) (.slice (some ⟨g, off, none⟩) D.fs.length c) (.bool E.down) (.int .i64 E.armed) (.int .u64 (E.steps : Int))
            rw [← hw4] at t4 hb4 ⊢
            have hsr4 := t4.blk HS3.out (by omega)
            have HT4 := Lib.hid (HT3.out.trans t4 (fun q hq e => by omega))
            have hs4 := t4.size
            have HB4 := Lib.hid hb4
            have HS4 := Lib.hid hsr4
            have tt := (HT23.out.mono (S' := fun q => q = w.heap.size) (fun _ _ e => e.elim)).trans t4 (fun q _ e => e)
            clear p0 p1 p2 p3 p4 m0 m1 m2 m3 m4 y0 y1 y2 y3 y4 z0 z1 z2 z3 z4 h0 h1 h2
            have p0 := hb4.cell 0; have p1 := hb4.cell 1; have p2 := hb4.cell 2; have p3 := hb4.cell 3; have p4 := hb4.cell 4; simp at p0 p1 p2 p3 p4
            have m0 := hb4.frozen 0; have m1 := hb4.frozen 1; have m2 := hb4.frozen 2; have m3 := hb4.frozen 3; have m4 := hb4.frozen 4
            have h0 := (tt.cell (p := ⟨g, off + i * 3, none⟩) hg2 hgn).trans HH0.out
            have h1 := (tt.cell (p := ⟨g, off + i * 3 + 1, none⟩) hg2 hgn).trans HH1.out
            have h2 := (tt.cell (p := ⟨g, off + i * 3 + 2, none⟩) hg2 hgn).trans HH2.out
            have hlt4 := hb4.lt
            have hne4 : ¬ w.heap.size = w4.heap.size := by omega
            have HK4 := Lib.hid (t4.blk HK3.out (by omega))
            have k0 := HK4.out.cell 0; have k1 := HK4.out.cell 1; have k2 := HK4.out.cell 2; simp at k0 k1 k2
            have l0 := HK4.out.frozen 0; have l1 := HK4.out.frozen 1; have l2 := HK4.out.frozen 2
            clear tt t4 hb4 hsr4 hw4
            have hsl := st_h f.al k hk
            go_wp2_with (first
              | (go_at_call 109
                 obtain ⟨w5, hw5⟩ : ∃ w5, w5 = (w4.setCell ⟨w2.heap.size, 1, none⟩ (St (f.al.take k))) := ⟨_, rfl⟩
                 rw [← hw5]
                 have t5 : Touch (fun q => q = w2.heap.size) w4 w5 := hw5 ▸ ((Touch.refl (fun q => q = w2.heap.size) w4).set (b := w2.heap.size) (o := 1) (fun _ => rfl) _)
                 have HT5 := Lib.hid (HT4.out.trans t5 (fun q hq e => by omega))
                 go_must (refine (HWi.out w5 (HR.out.touch HT5.out (fun _ _ e => e))).mono ?_); rintro e w6 ⟨A6, c6, rfl, hr6, t6⟩
                 rw [show rdA A6 c6 ({ E with fs := putF D.fs ⟨f.nm, f.al.take k, min f.kp k⟩ }) = #[.int .i64 E.room, .slice A6 (putF D.fs ⟨f.nm, f.al.take k, min f.kp k⟩).length c6, .bool E.down, .int .i64 E.armed, .int .u64 (E.steps : Int)] from rfl]
                 have HR6 := Lib.hid hr6
                 have HT6 := Lib.hid (HT5.out.trans t6 (fun _ _ e => e))
                 have HS6 := Lib.hid (t6.blk (t5.blk HS4.out (by omega)) (fun e => e))
                 have hs5 := t5.size
                 have hs6 := t6.size
                 have y0 := HS6.out.cell 0; have y1 := HS6.out.cell 1; have y2 := HS6.out.cell 2; have y3 := HS6.out.cell 3; have y4 := HS6.out.cell 4; simp at y0 y1 y2 y3 y4
                 have z0 := HS6.out.frozen 0; have z1 := HS6.out.frozen 1; have z2 := HS6.out.frozen 2; have z3 := HS6.out.frozen 3; have z4 := HS6.out.frozen 4
                 clear hr6 t6 t5 hw5))
            have tz := tch5 (w := w6) (w.heap.size + 1) (.int .i64 E.room) (.slice A6 (putF D.fs ⟨f.nm, f.al.take k, min f.kp k⟩).length c6) (.bool E.down) (.int .i64 E.armed) (.int .u64 (E.steps : Int))
            refine bodyPost_ret (results_cell2 (cs := rdA A6 c6 ({ E with fs := putF D.fs ⟨f.nm, f.al.take k, min f.kp k⟩ })) 6 7 rowRd rfl (by exact fin5 HS6.out _ _ _ _ _) rfl rfl) rfl ?_
            exact RkP.put HV.out ((HR6.out.touch tz (fun q hq e => by omega)).mono (fun q hq => ⟨hq.1, Nat.lt_of_lt_of_le hq.2 tz.size⟩)) (by omega) (HT6.out.trans tz (fun q hq e => by omega))
  · have hrd : rdA A c D = #[.int .i64 D.room, .slice A D.fs.length c, .bool true, .int .i64 D.armed, .int .u64 (D.steps : Int)] := by rw [rdA, hd]
    obtain ⟨w1, hw1⟩ : ∃ w1, w1 = (w.alloc (.cells #[.int .i64 D.room, .slice A D.fs.length c, .bool true, .int .i64 D.armed, .int .u64 (D.steps : Int)] 67)).alloc (.cells #[.int .i64 0, .slice none 0 0, .bool false, .int .i64 0, .int .u64 0] 67) := ⟨_, rfl⟩
    have HT1 := Lib.hid (show Touch (fun _ => False) w w1 from hw1 ▸ T2 w _ _)
    have HB1 := Lib.hid (show Blk w1 w.heap.size 67 #[.int .i64 D.room, .slice A D.fs.length c, .bool true, .int .i64 D.armed, .int .u64 (D.steps : Int)] from hw1 ▸ bk11 w _ _ _ _)
    have HS1 := Lib.hid (show Blk w1 (w.heap.size + 1) 67 #[.int .i64 0, .slice none 0 0, .bool false, .int .i64 0, .int .u64 0] from hw1 ▸ bk12 w _ _ _ _)
    have hs1 : w1.heap.size = w.heap.size + 2 := by rw [hw1]; simp
    have HW1 := Lib.hid hw1
    have HV := Lib.hid (show D.cut nm n = (D, 50) by rw [Dk.cut, if_pos hd])
    cases hg : getF D.fs nm with
    | none =>
      have HFd := Lib.hid (ffind_none D F A c nm w1 (hr.touch HT1.out (fun _ _ e => e)) hn hg)
      rw [hrd] at HFd ⊢
      clear hr hok hd hg hw1
      go_enter Try.func77, Try.ntmps77
      go_wp2_with (first
        | (go_at_call 107; rw [← HW1.out]; go_must (refine HFd.out.mono ?_); rintro e w2 ⟨rfl, t2⟩
           have HT2 := Lib.hid (HT1.out.trans t2 (fun _ _ e => e))
           have HB2 := Lib.hid (t2.blk HB1.out (fun e => e))
           have HS2 := Lib.hid (t2.blk HS1.out (fun e => e))
           have hs2 := t2.size
           have p0 := HB2.out.cell 0; have p1 := HB2.out.cell 1; have p2 := HB2.out.cell 2; have p3 := HB2.out.cell 3; have p4 := HB2.out.cell 4; simp at p0 p1 p2 p3 p4
           have m0 := HB2.out.frozen 0; have m1 := HB2.out.frozen 1; have m2 := HB2.out.frozen 2; have m3 := HB2.out.frozen 3; have m4 := HB2.out.frozen 4
           have y0 := HS2.out.cell 0; have y1 := HS2.out.cell 1; have y2 := HS2.out.cell 2; have y3 := HS2.out.cell 3; have y4 := HS2.out.cell 4; simp at y0 y1 y2 y3 y4
           have z0 := HS2.out.frozen 0; have z1 := HS2.out.frozen 1; have z2 := HS2.out.frozen 2; have z3 := HS2.out.frozen 3; have z4 := HS2.out.frozen 4
           clear t2))
      have tz := tch5 (w := w2) (w.heap.size + 1) (.int .i64 D.room) (.slice A D.fs.length c) (.bool true) (.int .i64 D.armed) (.int .u64 (D.steps : Int))
      refine bodyPost_ret (results_cell2 (cs := rdA A c D) 6 7 rowRd rfl (by rw [hrd]; exact fin5 HS2.out _ _ _ _ _) rfl rfl) rfl ?_
      exact RkP.same HR.out (HT2.out.trans tz (fun q hq e => by omega)) rfl HV.out
    | some f =>
      have HFd := Lib.hid (ffind_some D F A c nm w1 (hr.touch HT1.out (fun _ _ e => e)) hn hg)
      rw [hrd] at HFd ⊢
      clear hr hok hd hg hw1
      go_enter Try.func77, Try.ntmps77
      go_wp2_with (first
        | (go_at_call 107; rw [← HW1.out]; go_must (refine HFd.out.mono ?_); rintro e w2 ⟨i, rfl, hi, hf, t2⟩
           have HT2 := Lib.hid (HT1.out.trans t2 (fun _ _ e => e))
           have HB2 := Lib.hid (t2.blk HB1.out (fun e => e))
           have HS2 := Lib.hid (t2.blk HS1.out (fun e => e))
           have hs2 := t2.size
           have p0 := HB2.out.cell 0; have p1 := HB2.out.cell 1; have p2 := HB2.out.cell 2; have p3 := HB2.out.cell 3; have p4 := HB2.out.cell 4; simp at p0 p1 p2 p3 p4
           have m0 := HB2.out.frozen 0; have m1 := HB2.out.frozen 1; have m2 := HB2.out.frozen 2; have m3 := HB2.out.frozen 3; have m4 := HB2.out.frozen 4
           have y0 := HS2.out.cell 0; have y1 := HS2.out.cell 1; have y2 := HS2.out.cell 2; have y3 := HS2.out.cell 3; have y4 := HS2.out.cell 4; simp at y0 y1 y2 y3 y4
           have z0 := HS2.out.frozen 0; have z1 := HS2.out.frozen 1; have z2 := HS2.out.frozen 2; have z3 := HS2.out.frozen 3; have z4 := HS2.out.frozen 4
           obtain ⟨g, off, hA, hg2, hgF, h0, h1, h2⟩ := (HR.out.touch HT2.out (fun _ _ e => e)).at_ hf
           subst hA
           have hgw := HFl.out g hgF
           have hgn : g ≠ w.heap.size := by omega
           have hgn' : g ≠ w.heap.size + 1 := by omega
           have HHf := Lib.hid hf
           have HH0 := Lib.hid h0
           have HH1 := Lib.hid h1
           have HH2 := Lib.hid h2
           clear t2 hf))
      have tz := tch5 (w := w2) (w.heap.size + 1) (.int .i64 D.room) (.slice (some ⟨g, off, none⟩) D.fs.length c) (.bool true) (.int .i64 D.armed) (.int .u64 (D.steps : Int))
      refine bodyPost_ret (results_cell2 (cs := rdA (some ⟨g, off, none⟩) c D) 6 7 rowRd rfl (by rw [hrd]; exact fin5 HS2.out _ _ _ _ _) rfl rfl) rfl ?_
      exact RkP.same HR.out (HT2.out.trans tz (fun q hq e => by omega)) rfl HV.out
theorem fmove_any (D : Dk) (F : Nat → Prop) (A : Option Addr) (c : Nat) (nm : List UInt8) (to_ : List UInt8) (ht : to_.length ≤ 1000000) (w : World) (hr : RfF w F A D.fs) (hok : D.Ok) (hF : ∀ q, F q → q < w.heap.size) (hst : D.steps ≤ 1000000) :
    Calls Try.prog 79 #[.agg (rdA A c D), St nm, St to_] w (RkP (D.move nm to_) F w) := by
  have HR := Lib.hid hr
  have HOk := Lib.hid hok
  have HFl := Lib.hid hF
  have hn := hok.n
  cases hd : D.down
  · cases hg : getF D.fs nm with
    | none =>
      have hrd : rdA A c D = #[.int .i64 D.room, .slice A D.fs.length c, .bool false, .int .i64 D.armed, .int .u64 (D.steps : Int)] := by rw [rdA, hd]
      obtain ⟨w1, hw1⟩ : ∃ w1, w1 = (w.alloc (.cells #[.int .i64 D.room, .slice A D.fs.length c, .bool false, .int .i64 D.armed, .int .u64 (D.steps : Int)] 67)).alloc (.cells #[.int .i64 0, .slice none 0 0, .bool false, .int .i64 0, .int .u64 0] 67) := ⟨_, rfl⟩
      have HT1 := Lib.hid (show Touch (fun _ => False) w w1 from hw1 ▸ T2 w _ _)
      have HB1 := Lib.hid (show Blk w1 w.heap.size 67 #[.int .i64 D.room, .slice A D.fs.length c, .bool false, .int .i64 D.armed, .int .u64 (D.steps : Int)] from hw1 ▸ bk11 w _ _ _ _)
      have HS1 := Lib.hid (show Blk w1 (w.heap.size + 1) 67 #[.int .i64 0, .slice none 0 0, .bool false, .int .i64 0, .int .u64 0] from hw1 ▸ bk12 w _ _ _ _)
      have hs1 : w1.heap.size = w.heap.size + 2 := by rw [hw1]; simp
      have HW1 := Lib.hid hw1
      have HV := Lib.hid (show D.move nm to_ = (D, 31) by rw [Dk.move, if_neg (by rw [hd]; simp), hg])
      have HFd := Lib.hid (ffind_none D F A c nm w1 (hr.touch HT1.out (fun _ _ e => e)) hn hg)
      rw [hrd] at HFd ⊢
      clear hr hok hd hg hw1
      go_enter Try.func79, Try.ntmps79
      go_wp2_with (first
        | (go_at_call 107; rw [← HW1.out]; go_must (refine HFd.out.mono ?_); rintro e w2 ⟨rfl, t2⟩
           have HT2 := Lib.hid (HT1.out.trans t2 (fun _ _ e => e))
           have HB2 := Lib.hid (t2.blk HB1.out (fun e => e))
           have HS2 := Lib.hid (t2.blk HS1.out (fun e => e))
           have hs2 := t2.size
           have p0 := HB2.out.cell 0; have p1 := HB2.out.cell 1; have p2 := HB2.out.cell 2; have p3 := HB2.out.cell 3; have p4 := HB2.out.cell 4; simp at p0 p1 p2 p3 p4
           have m0 := HB2.out.frozen 0; have m1 := HB2.out.frozen 1; have m2 := HB2.out.frozen 2; have m3 := HB2.out.frozen 3; have m4 := HB2.out.frozen 4
           have y0 := HS2.out.cell 0; have y1 := HS2.out.cell 1; have y2 := HS2.out.cell 2; have y3 := HS2.out.cell 3; have y4 := HS2.out.cell 4; simp at y0 y1 y2 y3 y4
           have z0 := HS2.out.frozen 0; have z1 := HS2.out.frozen 1; have z2 := HS2.out.frozen 2; have z3 := HS2.out.frozen 3; have z4 := HS2.out.frozen 4
           clear t2))
      have tz := tch5 (w := w2) (w.heap.size + 1) (.int .i64 D.room) (.slice A D.fs.length c) (.bool false) (.int .i64 D.armed) (.int .u64 (D.steps : Int))
      refine bodyPost_ret (results_cell2 (cs := rdA A c D) 6 7 rowRd rfl (by rw [hrd]; exact fin5 HS2.out _ _ _ _ _) rfl rfl) rfl ?_
      exact RkP.same HR.out (HT2.out.trans tz (fun q hq e => by omega)) rfl HV.out
    | some f =>
      have hrd : rdA A c D = #[.int .i64 D.room, .slice A D.fs.length c, .bool false, .int .i64 D.armed, .int .u64 (D.steps : Int)] := by rw [rdA, hd]
      obtain ⟨w1, hw1⟩ : ∃ w1, w1 = (w.alloc (.cells #[.int .i64 D.room, .slice A D.fs.length c, .bool false, .int .i64 D.armed, .int .u64 (D.steps : Int)] 67)).alloc (.cells #[.int .i64 0, .slice none 0 0, .bool false, .int .i64 0, .int .u64 0] 67) := ⟨_, rfl⟩
      have HT1 := Lib.hid (show Touch (fun _ => False) w w1 from hw1 ▸ T2 w _ _)
      have HB1 := Lib.hid (show Blk w1 w.heap.size 67 #[.int .i64 D.room, .slice A D.fs.length c, .bool false, .int .i64 D.armed, .int .u64 (D.steps : Int)] from hw1 ▸ bk11 w _ _ _ _)
      have HS1 := Lib.hid (show Blk w1 (w.heap.size + 1) 67 #[.int .i64 0, .slice none 0 0, .bool false, .int .i64 0, .int .u64 0] from hw1 ▸ bk12 w _ _ _ _)
      have hs1 : w1.heap.size = w.heap.size + 2 := by rw [hw1]; simp
      have HW1 := Lib.hid hw1
      have HFd := Lib.hid (ffind_some D F A c nm w1 (hr.touch HT1.out (fun _ _ e => e)) hn hg)
      obtain ⟨hfm, hfn⟩ := getF_some hg
      have hfo := hok.nm f hfm
      have hfl := len_le_tot hfm
      have htot := hok.tot
      have hsa := stSize f.al
      have HFn := Lib.hid hfn
      clear hfn
      cases hnt : namedF to_
      · have HV := Lib.hid (show D.move nm to_ = (D, 2) by rw [Dk.move, if_neg (by rw [hd]; simp), hg]; simp only; rw [if_pos hnt])
        have HNm := Lib.hid hnt
        rw [hrd] at HFd ⊢
        clear hr hok hd hg hw1 hnt
        go_enter Try.func79, Try.ntmps79
        go_wp2_with (first
          | (go_at_call 107; rw [← HW1.out]; go_must (refine HFd.out.mono ?_); rintro e w2 ⟨i, rfl, hi, hf, t2⟩
             have HT2 := Lib.hid (HT1.out.trans t2 (fun _ _ e => e))
             have HB2 := Lib.hid (t2.blk HB1.out (fun e => e))
             have HS2 := Lib.hid (t2.blk HS1.out (fun e => e))
             have hs2 := t2.size
             have p0 := HB2.out.cell 0; have p1 := HB2.out.cell 1; have p2 := HB2.out.cell 2; have p3 := HB2.out.cell 3; have p4 := HB2.out.cell 4; simp at p0 p1 p2 p3 p4
             have m0 := HB2.out.frozen 0; have m1 := HB2.out.frozen 1; have m2 := HB2.out.frozen 2; have m3 := HB2.out.frozen 3; have m4 := HB2.out.frozen 4
             have y0 := HS2.out.cell 0; have y1 := HS2.out.cell 1; have y2 := HS2.out.cell 2; have y3 := HS2.out.cell 3; have y4 := HS2.out.cell 4; simp at y0 y1 y2 y3 y4
             have z0 := HS2.out.frozen 0; have z1 := HS2.out.frozen 1; have z2 := HS2.out.frozen 2; have z3 := HS2.out.frozen 3; have z4 := HS2.out.frozen 4
             obtain ⟨g, off, hA, hg2, hgF, h0, h1, h2⟩ := (HR.out.touch HT2.out (fun _ _ e => e)).at_ hf
             subst hA
             have hgw := HFl.out g hgF
             have hgn : g ≠ w.heap.size := by omega
             have hgn' : g ≠ w.heap.size + 1 := by omega
             have HHf := Lib.hid hf
             have HH0 := Lib.hid h0
             have HH1 := Lib.hid h1
             have HH2 := Lib.hid h2
             clear t2 hf)
          | (go_at_call 111; go_must (refine (fnamed_any to_ _ ht).mono ?_); rintro e wn ⟨rfl, rfl⟩; rw [HNm.out]))
        have tz := tch5 (w := w2) (w.heap.size + 1) (.int .i64 D.room) (.slice (some ⟨g, off, none⟩) D.fs.length c) (.bool false) (.int .i64 D.armed) (.int .u64 (D.steps : Int))
        refine bodyPost_ret (results_cell2 (cs := rdA (some ⟨g, off, none⟩) c D) 6 7 rowRd rfl (by rw [hrd]; exact fin5 HS2.out _ _ _ _ _) rfl rfl) rfl ?_
        exact RkP.same HR.out (HT2.out.trans tz (fun q hq e => by omega)) rfl HV.out
      have HNm := Lib.hid hnt
      cases hs : D.step.2
      · obtain ⟨E, hE⟩ : ∃ E, E = D.step.1 := ⟨_, rfl⟩
        have hEf : E.fs = D.fs := by rw [hE]; exact step_fs D
        have hEr : rdA A c E = #[.int .i64 E.room, .slice A D.fs.length c, .bool E.down, .int .i64 E.armed, .int .u64 (E.steps : Int)] := by rw [rdA, hEf]
        have HSt := Lib.hid (show ∀ W : World, Calls Try.prog 108 #[.agg #[.int .i64 D.room, .slice A D.fs.length c, .bool false, .int .i64 D.armed, .int .u64 (D.steps : Int)]] W fun e w' => e = .returned (.tuple #[.agg #[.int .i64 E.room, .slice A D.fs.length c, .bool E.down, .int .i64 E.armed, .int .u64 (E.steps : Int)], .bool false]) ∧ Touch (fun _ => False) W w' from fun W => by
          have := fstep_any D A c W HOk.out.armed hst
          unfold StfP at this
          rw [← hE, hEr, hs] at this
          rwa [hrd] at this)
        have HV := Lib.hid (show D.move nm to_ = (E, 50) by rw [Dk.move, if_neg (by rw [hd]; simp), hg]; simp only; rw [if_neg (by rw [hnt]; simp), if_neg (by rw [hs]; simp), hE])
        rw [hrd] at HFd ⊢
        clear hr hok hd hg hw1 hs hE hnt
        go_enter Try.func79, Try.ntmps79
        go_wp2_with (first
          | (go_at_call 107; rw [← HW1.out]; go_must (refine HFd.out.mono ?_); rintro e w2 ⟨i, rfl, hi, hf, t2⟩
             have HT2 := Lib.hid (HT1.out.trans t2 (fun _ _ e => e))
             have HB2 := Lib.hid (t2.blk HB1.out (fun e => e))
             have HS2 := Lib.hid (t2.blk HS1.out (fun e => e))
             have hs2 := t2.size
             have p0 := HB2.out.cell 0; have p1 := HB2.out.cell 1; have p2 := HB2.out.cell 2; have p3 := HB2.out.cell 3; have p4 := HB2.out.cell 4; simp at p0 p1 p2 p3 p4
             have m0 := HB2.out.frozen 0; have m1 := HB2.out.frozen 1; have m2 := HB2.out.frozen 2; have m3 := HB2.out.frozen 3; have m4 := HB2.out.frozen 4
             have y0 := HS2.out.cell 0; have y1 := HS2.out.cell 1; have y2 := HS2.out.cell 2; have y3 := HS2.out.cell 3; have y4 := HS2.out.cell 4; simp at y0 y1 y2 y3 y4
             have z0 := HS2.out.frozen 0; have z1 := HS2.out.frozen 1; have z2 := HS2.out.frozen 2; have z3 := HS2.out.frozen 3; have z4 := HS2.out.frozen 4
             obtain ⟨g, off, hA, hg2, hgF, h0, h1, h2⟩ := (HR.out.touch HT2.out (fun _ _ e => e)).at_ hf
             subst hA
             have hgw := HFl.out g hgF
             have hgn : g ≠ w.heap.size := by omega
             have hgn' : g ≠ w.heap.size + 1 := by omega
             have HHf := Lib.hid hf
             have HH0 := Lib.hid h0
             have HH1 := Lib.hid h1
             have HH2 := Lib.hid h2
             clear t2 hf)
          | (go_at_call 111; go_must (refine (fnamed_any to_ _ ht).mono ?_); rintro e wn ⟨rfl, rfl⟩; rw [HNm.out])
          | (go_at_call 108; go_must (refine (HSt.out _).mono ?_); rintro e w3 ⟨rfl, t3⟩
             have HT3 := Lib.hid (Touch.trans (show Touch (fun _ => False) w _ from by repeat (first | exact HT2.out | refine Touch.alloc ?_ _ | refine Touch.set ?_ (fun _ => by omega) _)) t3 (fun _ _ e => e))
             have hbx := HB2.out
             have hsx := HS2.out
             have HB3 := Lib.hid (t3.blk hbx (fun e => e))
             have HS3 := Lib.hid (t3.blk hsx (fun e => e))
             have hs3 := t3.size
             have p0 := HB3.out.cell 0; have p1 := HB3.out.cell 1; have p2 := HB3.out.cell 2; have p3 := HB3.out.cell 3; have p4 := HB3.out.cell 4; simp at p0 p1 p2 p3 p4
             have m0 := HB3.out.frozen 0; have m1 := HB3.out.frozen 1; have m2 := HB3.out.frozen 2; have m3 := HB3.out.frozen 3; have m4 := HB3.out.frozen 4
             have y0 := HS3.out.cell 0; have y1 := HS3.out.cell 1; have y2 := HS3.out.cell 2; have y3 := HS3.out.cell 3; have y4 := HS3.out.cell 4; simp at y0 y1 y2 y3 y4
             have z0 := HS3.out.frozen 0; have z1 := HS3.out.frozen 1; have z2 := HS3.out.frozen 2; have z3 := HS3.out.frozen 3; have z4 := HS3.out.frozen 4
             have h0 := ((show Touch (fun _ => False) w2 w3 from t3).cell (p := ⟨g, off + i * 3, none⟩) hg2 (fun e => e)).trans HH0.out
             have h1 := ((show Touch (fun _ => False) w2 w3 from t3).cell (p := ⟨g, off + i * 3 + 1, none⟩) hg2 (fun e => e)).trans HH1.out
             have h2 := ((show Touch (fun _ => False) w2 w3 from t3).cell (p := ⟨g, off + i * 3 + 2, none⟩) hg2 (fun e => e)).trans HH2.out
             have HT23 := Lib.hid (show Touch (fun _ => False) w2 w3 from t3)
             clear t3 hbx hsx))
        have ty := tch5 (w := w3) w.heap.size (.int .i64 E.room) (.slice (some ⟨g, off, none⟩) D.fs.length c) (.bool E.down) (.int .i64 E.armed) (.int .u64 (E.steps : Int))
        have tz := tch5 (w := ((((w3.setCell ⟨w.heap.size, 0, none⟩ (.int .i64 E.room)).setCell ⟨w.heap.size, 1, none⟩ (.slice (some ⟨g, off, none⟩) D.fs.length c)).setCell ⟨w.heap.size, 2, none⟩ (.bool E.down)).setCell ⟨w.heap.size, 3, none⟩ (.int .i64 E.armed)).setCell ⟨w.heap.size, 4, none⟩ (.int .u64 (E.steps : Int))) (w.heap.size + 1) (.int .i64 E.room) (.slice (some ⟨g, off, none⟩) D.fs.length c) (.bool E.down) (.int .i64 E.armed) (.int .u64 (E.steps : Int))
        refine bodyPost_ret (results_cell2 (cs := rdA (some ⟨g, off, none⟩) c E) 6 7 rowRd rfl (by rw [hEr]; exact fin5 (ty.blk HS3.out (by omega)) _ _ _ _ _) rfl rfl) rfl ?_
        exact RkP.same HR.out ((HT3.out.trans ty (fun q hq e => by omega)).trans tz (fun q hq e => by omega)) hEf HV.out
      · obtain ⟨E, hE⟩ : ∃ E, E = D.step.1 := ⟨_, rfl⟩
        have hEf : E.fs = D.fs := by rw [hE]; exact step_fs D
        have hEr : rdA A c E = #[.int .i64 E.room, .slice A D.fs.length c, .bool E.down, .int .i64 E.armed, .int .u64 (E.steps : Int)] := by rw [rdA, hEf]
        have HSt := Lib.hid (show ∀ W : World, Calls Try.prog 108 #[.agg #[.int .i64 D.room, .slice A D.fs.length c, .bool false, .int .i64 D.armed, .int .u64 (D.steps : Int)]] W fun e w' => e = .returned (.tuple #[.agg #[.int .i64 E.room, .slice A D.fs.length c, .bool E.down, .int .i64 E.armed, .int .u64 (E.steps : Int)], .bool true]) ∧ Touch (fun _ => False) W w' from fun W => by
          have := fstep_any D A c W HOk.out.armed hst
          unfold StfP at this
          rw [← hE, hEr, hs] at this
          rwa [hrd] at this)
        have HV := Lib.hid (show D.move nm to_ = ({ E with fs := putF (outF D.fs nm) ⟨to_, f.al, f.kp⟩ }, 0) by rw [Dk.move, if_neg (by rw [hd]; simp), hg]; simp only; rw [if_neg (by rw [hnt]; simp), if_pos hs, hE])
        have HWo := Lib.hid (show ∀ W : World, RfF W F A D.fs → Calls Try.prog 110 #[.agg #[.int .i64 E.room, .slice A D.fs.length c, .bool E.down, .int .i64 E.armed, .int .u64 (E.steps : Int)], St nm] W (RxP { E with fs := outF D.fs nm } W) from fun W h => by
          have := fwithout_any E F A c nm W (hEf ▸ h) (hEf ▸ hn)
          rw [hEr, hEf] at this
          exact this)
        have HWi := Lib.hid (show ∀ (A6 : Option Addr) (c6 : Nat) (F6 : Nat → Prop) (W : World), RfF W F6 A6 (outF D.fs nm) → Calls Try.prog 109 #[.agg #[.int .i64 E.room, .slice A6 (outF D.fs nm).length c6, .bool E.down, .int .i64 E.armed, .int .u64 (E.steps : Int)], .agg #[St to_, St f.al, .int .i64 (f.kp : Int)]] W (RxP ({ E with fs := putF (outF D.fs nm) ⟨to_, f.al, f.kp⟩ }) W) from fun A6 c6 F6 W h => fwith_any ({ E with fs := outF D.fs nm }) F6 A6 c6 ⟨to_, f.al, f.kp⟩ W h (Nat.le_trans (outF_len _ _) hn))
        unfold RxP at HWo HWi
        rw [hrd] at HFd ⊢
        clear hr hok hd hg hw1 hs hE hnt
        go_enter Try.func79, Try.ntmps79
        go_upto_if 30 with (first
          | (go_at_call 107; rw [← HW1.out]; go_must (refine HFd.out.mono ?_); rintro e w2 ⟨i, rfl, hi, hf, t2⟩
             have HT2 := Lib.hid (HT1.out.trans t2 (fun _ _ e => e))
             have HB2 := Lib.hid (t2.blk HB1.out (fun e => e))
             have HS2 := Lib.hid (t2.blk HS1.out (fun e => e))
             have hs2 := t2.size
             have p0 := HB2.out.cell 0; have p1 := HB2.out.cell 1; have p2 := HB2.out.cell 2; have p3 := HB2.out.cell 3; have p4 := HB2.out.cell 4; simp at p0 p1 p2 p3 p4
             have m0 := HB2.out.frozen 0; have m1 := HB2.out.frozen 1; have m2 := HB2.out.frozen 2; have m3 := HB2.out.frozen 3; have m4 := HB2.out.frozen 4
             have y0 := HS2.out.cell 0; have y1 := HS2.out.cell 1; have y2 := HS2.out.cell 2; have y3 := HS2.out.cell 3; have y4 := HS2.out.cell 4; simp at y0 y1 y2 y3 y4
             have z0 := HS2.out.frozen 0; have z1 := HS2.out.frozen 1; have z2 := HS2.out.frozen 2; have z3 := HS2.out.frozen 3; have z4 := HS2.out.frozen 4
             obtain ⟨g, off, hA, hg2, hgF, h0, h1, h2⟩ := (HR.out.touch HT2.out (fun _ _ e => e)).at_ hf
             subst hA
             have hgw := HFl.out g hgF
             have hgn : g ≠ w.heap.size := by omega
             have hgn' : g ≠ w.heap.size + 1 := by omega
             have HHf := Lib.hid hf
             have HH0 := Lib.hid h0
             have HH1 := Lib.hid h1
             have HH2 := Lib.hid h2
             clear t2 hf)
          | (go_at_call 111; go_must (refine (fnamed_any to_ _ ht).mono ?_); rintro e wn ⟨rfl, rfl⟩; rw [HNm.out])
          | (go_at_call 108; go_must (refine (HSt.out _).mono ?_); rintro e w3 ⟨rfl, t3⟩
             have HT3 := Lib.hid (Touch.trans (show Touch (fun _ => False) w _ from by repeat (first | exact HT2.out | refine Touch.alloc ?_ _ | refine Touch.set ?_ (fun _ => by omega) _)) t3 (fun _ _ e => e))
             have hbx := HB2.out
             have hsx := HS2.out
             have HB3 := Lib.hid (t3.blk hbx (fun e => e))
             have HS3 := Lib.hid (t3.blk hsx (fun e => e))
             have hs3 := t3.size
             have p0 := HB3.out.cell 0; have p1 := HB3.out.cell 1; have p2 := HB3.out.cell 2; have p3 := HB3.out.cell 3; have p4 := HB3.out.cell 4; simp at p0 p1 p2 p3 p4
             have m0 := HB3.out.frozen 0; have m1 := HB3.out.frozen 1; have m2 := HB3.out.frozen 2; have m3 := HB3.out.frozen 3; have m4 := HB3.out.frozen 4
             have y0 := HS3.out.cell 0; have y1 := HS3.out.cell 1; have y2 := HS3.out.cell 2; have y3 := HS3.out.cell 3; have y4 := HS3.out.cell 4; simp at y0 y1 y2 y3 y4
             have z0 := HS3.out.frozen 0; have z1 := HS3.out.frozen 1; have z2 := HS3.out.frozen 2; have z3 := HS3.out.frozen 3; have z4 := HS3.out.frozen 4
             have h0 := ((show Touch (fun _ => False) w2 w3 from t3).cell (p := ⟨g, off + i * 3, none⟩) hg2 (fun e => e)).trans HH0.out
             have h1 := ((show Touch (fun _ => False) w2 w3 from t3).cell (p := ⟨g, off + i * 3 + 1, none⟩) hg2 (fun e => e)).trans HH1.out
             have h2 := ((show Touch (fun _ => False) w2 w3 from t3).cell (p := ⟨g, off + i * 3 + 2, none⟩) hg2 (fun e => e)).trans HH2.out
             have HT23 := Lib.hid (show Touch (fun _ => False) w2 w3 from t3)
             clear t3 hbx hsx))
        obtain ⟨w4, hw4⟩ : ∃ w4, w4 = ((((w3.setCell ⟨w.heap.size, 0, none⟩ (.int .i64 E.room)).setCell ⟨w.heap.size, 1, none⟩ (.slice (some ⟨g, off, none⟩) D.fs.length c)).setCell ⟨w.heap.size, 2, none⟩ (.bool E.down)).setCell ⟨w.heap.size, 3, none⟩ (.int .i64 E.armed)).setCell ⟨w.heap.size, 4, none⟩ (.int .u64 (E.steps : Int)) := ⟨_, rfl⟩
        have t4 := tch5 (w := w3) w.heap.size (.int .i64 E.room) (.slice (some ⟨g, off, none⟩) D.fs.length c) (.bool E.down) (.int .i64 E.armed) (.int .u64 (E.steps : Int))
        have hb4 := blk5 HB3.out (.int .i64 E.room) (.slice (some ⟨g, off, none⟩) D.fs.length c) (.bool E.down) (.int .i64 E.armed) (.int .u64 (E.steps : Int))
        rw [← hw4] at t4 hb4 ⊢
        have hsr4 := t4.blk HS3.out (by omega)
        have HT4 := Lib.hid (HT3.out.trans t4 (fun q hq e => by omega))
        have hs4 := t4.size
        have HB4 := Lib.hid hb4
        have HS4 := Lib.hid hsr4
        have tt := (HT23.out.mono (S' := fun q => q = w.heap.size) (fun _ _ e => e.elim)).trans t4 (fun q _ e => e)
        clear p0 p1 p2 p3 p4 m0 m1 m2 m3 m4 y0 y1 y2 y3 y4 z0 z1 z2 z3 z4 h0 h1 h2
        have p0 := hb4.cell 0; have p1 := hb4.cell 1; have p2 := hb4.cell 2; have p3 := hb4.cell 3; have p4 := hb4.cell 4; simp at p0 p1 p2 p3 p4
        have m0 := hb4.frozen 0; have m1 := hb4.frozen 1; have m2 := hb4.frozen 2; have m3 := hb4.frozen 3; have m4 := hb4.frozen 4
        have h0 := (tt.cell (p := ⟨g, off + i * 3, none⟩) hg2 hgn).trans HH0.out
        have h1 := (tt.cell (p := ⟨g, off + i * 3 + 1, none⟩) hg2 hgn).trans HH1.out
        have h2 := (tt.cell (p := ⟨g, off + i * 3 + 2, none⟩) hg2 hgn).trans HH2.out
        have hlt4 := hb4.lt
        have hne4 : ¬ w.heap.size = w4.heap.size := by omega
        clear tt t4 hb4 hsr4 hw4
        go_upto_region 13 with (first
          | (go_at_call 110
             obtain ⟨w5, hw5⟩ : ∃ w5, w5 = w4.alloc (.cells #[St f.nm, St f.al, .int .i64 (f.kp : Int)] 82) := ⟨_, rfl⟩
             rw [← hw5]
             have t5 : Touch (fun _ => False) w4 w5 := hw5 ▸ (Touch.refl (fun _ => False) w4).alloc _
             have hk5 : Blk w5 w4.heap.size 82 #[St f.nm, St f.al, .int .i64 (f.kp : Int)] := hw5 ▸ Blk.new w4 _ _
             have hs5 : w5.heap.size = w4.heap.size + 1 := by rw [hw5]; simp
             have HT5 := Lib.hid (HT4.out.trans t5 (fun _ _ e => e))
             go_must (refine (HWo.out w5 (HR.out.touch HT5.out (fun _ _ e => e))).mono ?_); rintro e w6 ⟨A6, c6, rfl, hr6, t6⟩
             rw [show rdA A6 c6 ({ E with fs := outF D.fs nm }) = #[.int .i64 E.room, .slice A6 (outF D.fs nm).length c6, .bool E.down, .int .i64 E.armed, .int .u64 (E.steps : Int)] from rfl]
             have HR6 := Lib.hid hr6
             have HT6 := Lib.hid (HT5.out.trans t6 (fun _ _ e => e))
             have HB6 := Lib.hid (t6.blk (t5.blk HB4.out (fun e => e)) (fun e => e))
             have HS6 := Lib.hid (t6.blk (t5.blk HS4.out (fun e => e)) (fun e => e))
             have HK6 := Lib.hid (t6.blk hk5 (fun e => e))
             have hs6 := t6.size
             clear p0 p1 p2 p3 p4 m0 m1 m2 m3 m4
             have p0 := HB6.out.cell 0; have p1 := HB6.out.cell 1; have p2 := HB6.out.cell 2; have p3 := HB6.out.cell 3; have p4 := HB6.out.cell 4; simp at p0 p1 p2 p3 p4
             have m0 := HB6.out.frozen 0; have m1 := HB6.out.frozen 1; have m2 := HB6.out.frozen 2; have m3 := HB6.out.frozen 3; have m4 := HB6.out.frozen 4
             clear hr6 t6 t5 hw5 hk5))
        clear p0 p1 p2 p3 p4 m0 m1 m2 m3 m4
        obtain ⟨w7, hw7⟩ : ∃ w7, w7 = ((((w6.setCell ⟨w.heap.size, 0, none⟩ (.int .i64 E.room)).setCell ⟨w.heap.size, 1, none⟩ (.slice A6 (outF D.fs nm).length c6)).setCell ⟨w.heap.size, 2, none⟩ (.bool E.down)).setCell ⟨w.heap.size, 3, none⟩ (.int .i64 E.armed)).setCell ⟨w.heap.size, 4, none⟩ (.int .u64 (E.steps : Int)) := ⟨_, rfl⟩
        have t7 := tch5 (w := w6) w.heap.size (.int .i64 E.room) (.slice A6 (outF D.fs nm).length c6) (.bool E.down) (.int .i64 E.armed) (.int .u64 (E.steps : Int))
        have hb7 := blk5 HB6.out (.int .i64 E.room) (.slice A6 (outF D.fs nm).length c6) (.bool E.down) (.int .i64 E.armed) (.int .u64 (E.steps : Int))
        rw [← hw7] at t7 hb7 ⊢
        have hs7 := t7.size
        have hk7 := t7.blk HK6.out (by omega)
        have HS7 := Lib.hid (t7.blk HS6.out (by omega))
        have HR7 := Lib.hid (HR6.out.touch t7 (fun q hq e => by omega))
        have HT7 := Lib.hid (HT6.out.trans t7 (fun q hq e => by omega))
        have p0 := hb7.cell 0; have p1 := hb7.cell 1; have p2 := hb7.cell 2; have p3 := hb7.cell 3; have p4 := hb7.cell 4; simp at p0 p1 p2 p3 p4
        have m0 := hb7.frozen 0; have m1 := hb7.frozen 1; have m2 := hb7.frozen 2; have m3 := hb7.frozen 3; have m4 := hb7.frozen 4
        have k0 := hk7.cell 0; have k1 := hk7.cell 1; have k2 := hk7.cell 2; simp at k0 k1 k2
        have l0 := hk7.frozen 0; have l1 := hk7.frozen 1; have l2 := hk7.frozen 2
        have hne7 : ¬ w.heap.size = w4.heap.size := by omega
        have hne7' : ¬ w4.heap.size = w.heap.size := by omega
        clear t7 hb7 hk7 hw7
        go_wp2_with (first
          | (go_at_call 109
             obtain ⟨w8, hw8⟩ : ∃ w8, w8 = w7.setCell ⟨w4.heap.size, 0, none⟩ (St to_) := ⟨_, rfl⟩
             rw [← hw8]
             have t8 : Touch (fun q => q = w4.heap.size) w7 w8 := hw8 ▸ (Touch.refl (fun q => q = w4.heap.size) w7).set (b := w4.heap.size) (o := 0) (fun _ => rfl) _
             have HT8 := Lib.hid (HT7.out.trans t8 (fun q hq e => by omega))
             go_must (refine (HWi.out A6 c6 _ w8 (HR7.out.touch t8 (fun q hq e => by omega))).mono ?_); rintro e w9 ⟨A9, c9, rfl, hr9, t9⟩
             rw [show rdA A9 c9 ({ E with fs := putF (outF D.fs nm) ⟨to_, f.al, f.kp⟩ }) = #[.int .i64 E.room, .slice A9 (putF (outF D.fs nm) ⟨to_, f.al, f.kp⟩).length c9, .bool E.down, .int .i64 E.armed, .int .u64 (E.steps : Int)] from rfl]
             have HR9 := Lib.hid hr9
             have HT9 := Lib.hid (HT8.out.trans t9 (fun _ _ e => e))
             have HS9 := Lib.hid (t9.blk (t8.blk HS7.out (by omega)) (fun e => e))
             have hs8 := t8.size
             have hs9 := t9.size
             have y0 := HS9.out.cell 0; have y1 := HS9.out.cell 1; have y2 := HS9.out.cell 2; have y3 := HS9.out.cell 3; have y4 := HS9.out.cell 4; simp at y0 y1 y2 y3 y4
             have z0 := HS9.out.frozen 0; have z1 := HS9.out.frozen 1; have z2 := HS9.out.frozen 2; have z3 := HS9.out.frozen 3; have z4 := HS9.out.frozen 4
             clear hr9 t9 t8 hw8))
        have tz := tch5 (w := w9) (w.heap.size + 1) (.int .i64 E.room) (.slice A9 (putF (outF D.fs nm) ⟨to_, f.al, f.kp⟩).length c9) (.bool E.down) (.int .i64 E.armed) (.int .u64 (E.steps : Int))
        refine bodyPost_ret (results_cell2 (cs := rdA A9 c9 ({ E with fs := putF (outF D.fs nm) ⟨to_, f.al, f.kp⟩ })) 6 7 rowRd rfl (by exact fin5 HS9.out _ _ _ _ _) rfl rfl) rfl ?_
        exact RkP.put HV.out ((HR9.out.touch tz (fun q hq e => by omega)).mono (fun q hq => ⟨hq.1, Nat.lt_of_lt_of_le hq.2 tz.size⟩)) (by omega) (HT9.out.trans tz (fun q hq e => by omega))
  · have hrd : rdA A c D = #[.int .i64 D.room, .slice A D.fs.length c, .bool true, .int .i64 D.armed, .int .u64 (D.steps : Int)] := by rw [rdA, hd]
    obtain ⟨w1, hw1⟩ : ∃ w1, w1 = (w.alloc (.cells #[.int .i64 D.room, .slice A D.fs.length c, .bool true, .int .i64 D.armed, .int .u64 (D.steps : Int)] 67)).alloc (.cells #[.int .i64 0, .slice none 0 0, .bool false, .int .i64 0, .int .u64 0] 67) := ⟨_, rfl⟩
    have HT1 := Lib.hid (show Touch (fun _ => False) w w1 from hw1 ▸ T2 w _ _)
    have HB1 := Lib.hid (show Blk w1 w.heap.size 67 #[.int .i64 D.room, .slice A D.fs.length c, .bool true, .int .i64 D.armed, .int .u64 (D.steps : Int)] from hw1 ▸ bk11 w _ _ _ _)
    have HS1 := Lib.hid (show Blk w1 (w.heap.size + 1) 67 #[.int .i64 0, .slice none 0 0, .bool false, .int .i64 0, .int .u64 0] from hw1 ▸ bk12 w _ _ _ _)
    have hs1 : w1.heap.size = w.heap.size + 2 := by rw [hw1]; simp
    have HW1 := Lib.hid hw1
    have HV := Lib.hid (show D.move nm to_ = (D, 50) by rw [Dk.move, if_pos hd])
    cases hg : getF D.fs nm with
    | none =>
      have HFd := Lib.hid (ffind_none D F A c nm w1 (hr.touch HT1.out (fun _ _ e => e)) hn hg)
      rw [hrd] at HFd ⊢
      clear hr hok hd hg hw1
      go_enter Try.func79, Try.ntmps79
      go_wp2_with (first
        | (go_at_call 107; rw [← HW1.out]; go_must (refine HFd.out.mono ?_); rintro e w2 ⟨rfl, t2⟩
           have HT2 := Lib.hid (HT1.out.trans t2 (fun _ _ e => e))
           have HB2 := Lib.hid (t2.blk HB1.out (fun e => e))
           have HS2 := Lib.hid (t2.blk HS1.out (fun e => e))
           have hs2 := t2.size
           have p0 := HB2.out.cell 0; have p1 := HB2.out.cell 1; have p2 := HB2.out.cell 2; have p3 := HB2.out.cell 3; have p4 := HB2.out.cell 4; simp at p0 p1 p2 p3 p4
           have m0 := HB2.out.frozen 0; have m1 := HB2.out.frozen 1; have m2 := HB2.out.frozen 2; have m3 := HB2.out.frozen 3; have m4 := HB2.out.frozen 4
           have y0 := HS2.out.cell 0; have y1 := HS2.out.cell 1; have y2 := HS2.out.cell 2; have y3 := HS2.out.cell 3; have y4 := HS2.out.cell 4; simp at y0 y1 y2 y3 y4
           have z0 := HS2.out.frozen 0; have z1 := HS2.out.frozen 1; have z2 := HS2.out.frozen 2; have z3 := HS2.out.frozen 3; have z4 := HS2.out.frozen 4
           clear t2))
      have tz := tch5 (w := w2) (w.heap.size + 1) (.int .i64 D.room) (.slice A D.fs.length c) (.bool true) (.int .i64 D.armed) (.int .u64 (D.steps : Int))
      refine bodyPost_ret (results_cell2 (cs := rdA A c D) 6 7 rowRd rfl (by rw [hrd]; exact fin5 HS2.out _ _ _ _ _) rfl rfl) rfl ?_
      exact RkP.same HR.out (HT2.out.trans tz (fun q hq e => by omega)) rfl HV.out
    | some f =>
      have HFd := Lib.hid (ffind_some D F A c nm w1 (hr.touch HT1.out (fun _ _ e => e)) hn hg)
      rw [hrd] at HFd ⊢
      clear hr hok hd hg hw1
      go_enter Try.func79, Try.ntmps79
      go_wp2_with (first
        | (go_at_call 107; rw [← HW1.out]; go_must (refine HFd.out.mono ?_); rintro e w2 ⟨i, rfl, hi, hf, t2⟩
           have HT2 := Lib.hid (HT1.out.trans t2 (fun _ _ e => e))
           have HB2 := Lib.hid (t2.blk HB1.out (fun e => e))
           have HS2 := Lib.hid (t2.blk HS1.out (fun e => e))
           have hs2 := t2.size
           have p0 := HB2.out.cell 0; have p1 := HB2.out.cell 1; have p2 := HB2.out.cell 2; have p3 := HB2.out.cell 3; have p4 := HB2.out.cell 4; simp at p0 p1 p2 p3 p4
           have m0 := HB2.out.frozen 0; have m1 := HB2.out.frozen 1; have m2 := HB2.out.frozen 2; have m3 := HB2.out.frozen 3; have m4 := HB2.out.frozen 4
           have y0 := HS2.out.cell 0; have y1 := HS2.out.cell 1; have y2 := HS2.out.cell 2; have y3 := HS2.out.cell 3; have y4 := HS2.out.cell 4; simp at y0 y1 y2 y3 y4
           have z0 := HS2.out.frozen 0; have z1 := HS2.out.frozen 1; have z2 := HS2.out.frozen 2; have z3 := HS2.out.frozen 3; have z4 := HS2.out.frozen 4
           obtain ⟨g, off, hA, hg2, hgF, h0, h1, h2⟩ := (HR.out.touch HT2.out (fun _ _ e => e)).at_ hf
           subst hA
           have hgw := HFl.out g hgF
           have hgn : g ≠ w.heap.size := by omega
           have hgn' : g ≠ w.heap.size + 1 := by omega
           have HHf := Lib.hid hf
           have HH0 := Lib.hid h0
           have HH1 := Lib.hid h1
           have HH2 := Lib.hid h2
           clear t2 hf))
      have tz := tch5 (w := w2) (w.heap.size + 1) (.int .i64 D.room) (.slice (some ⟨g, off, none⟩) D.fs.length c) (.bool true) (.int .i64 D.armed) (.int .u64 (D.steps : Int))
      refine bodyPost_ret (results_cell2 (cs := rdA (some ⟨g, off, none⟩) c D) 6 7 rowRd rfl (by rw [hrd]; exact fin5 HS2.out _ _ _ _ _) rfl rfl) rfl ?_
      exact RkP.same HR.out (HT2.out.trans tz (fun q hq e => by omega)) rfl HV.out
theorem fappend_any (D : Dk) (F : Nat → Prop) (A : Option Addr) (c : Nat) (nm : List UInt8) (bs : List UInt8) (hnl : nm.length ≤ 1000000) (hbl : bs.length ≤ 1000000) (w : World) (hr : RfF w F A D.fs) (hok : D.Ok) (hF : ∀ q, F q → q < w.heap.size) (hst : D.steps ≤ 1000000) :
    Calls Try.prog 86 #[.agg (rdA A c D), St nm, St bs] w (RkP (D.append nm bs) F w) := by
  have HR := Lib.hid hr
  have HOk := Lib.hid hok
  have HFl := Lib.hid hF
  have hn := hok.n
  cases hd : D.down
  · cases hnm : namedF nm
    · have hrd : rdA A c D = #[.int .i64 D.room, .slice A D.fs.length c, .bool false, .int .i64 D.armed, .int .u64 (D.steps : Int)] := by rw [rdA, hd]
      have HV := Lib.hid (show D.append nm bs = (D, 2) by rw [Dk.append, if_neg (by rw [hd]; simp), if_pos hnm])
      have HNm := Lib.hid hnm
      rw [hrd]
      clear hr hok hd hnm
      go_enter Try.func86, Try.ntmps86
      go_wp2_with (first
        | (go_at_call 111; go_must (refine (fnamed_any nm _ hnl).mono ?_); rintro e wn ⟨rfl, rfl⟩; rw [HNm.out]))
      refine bodyPost_ret (results_cell2 (cs := rdA A c D) 6 7 rowRd rfl (by rw [hrd]; exact new2 _ _ _ _) rfl rfl) rfl ?_
      exact RkP.same HR.out (T2 _ _ _) rfl HV.out
    · have HNm := Lib.hid hnm
      have hbz := stSize bs
      cases hg : getF D.fs nm with
      | none =>
        have hrd : rdA A c D = #[.int .i64 D.room, .slice A D.fs.length c, .bool false, .int .i64 D.armed, .int .u64 (D.steps : Int)] := by rw [rdA, hd]
        obtain ⟨w1, hw1⟩ : ∃ w1, w1 = (w.alloc (.cells #[.int .i64 D.room, .slice A D.fs.length c, .bool false, .int .i64 D.armed, .int .u64 (D.steps : Int)] 67)).alloc (.cells #[.int .i64 0, .slice none 0 0, .bool false, .int .i64 0, .int .u64 0] 67) := ⟨_, rfl⟩
        have HT1 := Lib.hid (show Touch (fun _ => False) w w1 from hw1 ▸ T2 w _ _)
        have HB1 := Lib.hid (show Blk w1 w.heap.size 67 #[.int .i64 D.room, .slice A D.fs.length c, .bool false, .int .i64 D.armed, .int .u64 (D.steps : Int)] from hw1 ▸ bk11 w _ _ _ _)
        have HS1 := Lib.hid (show Blk w1 (w.heap.size + 1) 67 #[.int .i64 0, .slice none 0 0, .bool false, .int .i64 0, .int .u64 0] from hw1 ▸ bk12 w _ _ _ _)
        have hs1 : w1.heap.size = w.heap.size + 2 := by rw [hw1]; simp
        have HW1 := Lib.hid hw1
        have HFr := Lib.hid (show ∀ W : World, RfF W F A D.fs → Calls Try.prog 38 #[.agg #[.int .i64 D.room, .slice A D.fs.length c, .bool false, .int .i64 D.armed, .int .u64 (D.steps : Int)]] W fun e w' => e = .returned (.int .i64 D.free) ∧ Touch (fun _ => False) W w' from fun W h => by
          have := ffree_any D F A c W h hok
          rwa [hrd] at this)
        have HFd := Lib.hid (ffind_none D F A c nm w1 (hr.touch HT1.out (fun _ _ e => e)) hn hg)
        have hgn : (getF D.fs nm).isNone = true := by rw [hg]; rfl
        by_cases h0 : 128 ≤ D.fs.length
        · have HV := Lib.hid (show D.append nm bs = (D, 30) by rw [Dk.append, if_neg (by rw [hd]; simp), if_neg (by rw [hnm]; simp), if_pos (.inl ⟨hgn, h0⟩)])
          have hI : (128 : Int) ≤ (D.fs.length : Int) := by omega
          rw [hrd] at HFd ⊢
          clear hr hok hd hg hw1 hnm hgn
          go_enter Try.func86, Try.ntmps86
          go_wp2_with (first
            | (go_at_call 111; go_must (refine (fnamed_any nm _ hnl).mono ?_); rintro e wn ⟨rfl, rfl⟩; rw [HNm.out])
            | (go_at_call 107; rw [← HW1.out]; go_must (refine HFd.out.mono ?_); rintro e w2 ⟨rfl, t2⟩
               have HT2 := Lib.hid (HT1.out.trans t2 (fun _ _ e => e))
               have HB2 := Lib.hid (t2.blk HB1.out (fun e => e))
               have HS2 := Lib.hid (t2.blk HS1.out (fun e => e))
               have hs2 := t2.size
               have p0 := HB2.out.cell 0; have p1 := HB2.out.cell 1; have p2 := HB2.out.cell 2; have p3 := HB2.out.cell 3; have p4 := HB2.out.cell 4; simp at p0 p1 p2 p3 p4
               have m0 := HB2.out.frozen 0; have m1 := HB2.out.frozen 1; have m2 := HB2.out.frozen 2; have m3 := HB2.out.frozen 3; have m4 := HB2.out.frozen 4
               have y0 := HS2.out.cell 0; have y1 := HS2.out.cell 1; have y2 := HS2.out.cell 2; have y3 := HS2.out.cell 3; have y4 := HS2.out.cell 4; simp at y0 y1 y2 y3 y4
               have z0 := HS2.out.frozen 0; have z1 := HS2.out.frozen 1; have z2 := HS2.out.frozen 2; have z3 := HS2.out.frozen 3; have z4 := HS2.out.frozen 4
               clear t2))
          have tz := tch5 (w := w2) (w.heap.size + 1) (.int .i64 D.room) (.slice A D.fs.length c) (.bool false) (.int .i64 D.armed) (.int .u64 (D.steps : Int))
          refine bodyPost_ret (results_cell2 (cs := rdA A c D) 6 7 rowRd rfl (by rw [hrd]; exact fin5 HS2.out _ _ _ _ _) rfl rfl) rfl ?_
          exact RkP.same HR.out (HT2.out.trans tz (fun q hq e => by omega)) rfl HV.out
        · have h1 : ¬ ((getF D.fs nm).isNone = true ∧ 128 ≤ D.fs.length) := fun e => h0 e.2
          have hI : ¬ (128 : Int) ≤ (D.fs.length : Int) := by omega
          by_cases h2 : D.free < (bs.length : Int)
          · have HV := Lib.hid (show D.append nm bs = (D, 30) by rw [Dk.append, if_neg (by rw [hd]; simp), if_neg (by rw [hnm]; simp), if_pos (.inr h2)])
            rw [hrd] at HFd ⊢
            clear hr hok hd hg hw1 hnm hgn h1
            go_enter Try.func86, Try.ntmps86
            go_wp2_with (first
              | (go_at_call 111; go_must (refine (fnamed_any nm _ hnl).mono ?_); rintro e wn ⟨rfl, rfl⟩; rw [HNm.out])
              | (go_at_call 107; rw [← HW1.out]; go_must (refine HFd.out.mono ?_); rintro e w2 ⟨rfl, t2⟩
                 have HT2 := Lib.hid (HT1.out.trans t2 (fun _ _ e => e))
                 have HB2 := Lib.hid (t2.blk HB1.out (fun e => e))
                 have HS2 := Lib.hid (t2.blk HS1.out (fun e => e))
                 have hs2 := t2.size
                 have p0 := HB2.out.cell 0; have p1 := HB2.out.cell 1; have p2 := HB2.out.cell 2; have p3 := HB2.out.cell 3; have p4 := HB2.out.cell 4; simp at p0 p1 p2 p3 p4
                 have m0 := HB2.out.frozen 0; have m1 := HB2.out.frozen 1; have m2 := HB2.out.frozen 2; have m3 := HB2.out.frozen 3; have m4 := HB2.out.frozen 4
                 have y0 := HS2.out.cell 0; have y1 := HS2.out.cell 1; have y2 := HS2.out.cell 2; have y3 := HS2.out.cell 3; have y4 := HS2.out.cell 4; simp at y0 y1 y2 y3 y4
                 have z0 := HS2.out.frozen 0; have z1 := HS2.out.frozen 1; have z2 := HS2.out.frozen 2; have z3 := HS2.out.frozen 3; have z4 := HS2.out.frozen 4
                 clear t2)
              | (go_at_call 38; go_must (refine (HFr.out w2 (HR.out.touch HT2.out (fun _ _ e => e))).mono ?_); rintro e w3 ⟨rfl, t3⟩
                 have HT3 := Lib.hid (HT2.out.trans t3 (fun _ _ e => e))
                 have HB3 := Lib.hid (t3.blk HB2.out (fun e => e))
                 have HS3 := Lib.hid (t3.blk HS2.out (fun e => e))
                 have hs3 := t3.size
                 have p0 := HB3.out.cell 0; have p1 := HB3.out.cell 1; have p2 := HB3.out.cell 2; have p3 := HB3.out.cell 3; have p4 := HB3.out.cell 4; simp at p0 p1 p2 p3 p4
                 have m0 := HB3.out.frozen 0; have m1 := HB3.out.frozen 1; have m2 := HB3.out.frozen 2; have m3 := HB3.out.frozen 3; have m4 := HB3.out.frozen 4
                 have y0 := HS3.out.cell 0; have y1 := HS3.out.cell 1; have y2 := HS3.out.cell 2; have y3 := HS3.out.cell 3; have y4 := HS3.out.cell 4; simp at y0 y1 y2 y3 y4
                 have z0 := HS3.out.frozen 0; have z1 := HS3.out.frozen 1; have z2 := HS3.out.frozen 2; have z3 := HS3.out.frozen 3; have z4 := HS3.out.frozen 4
                 have hlt3 : w.heap.size < w3.heap.size := by omega
                 have hne3 : ¬ w.heap.size = w3.heap.size := by omega
                 have hlt3' : w.heap.size + 1 < w3.heap.size := by omega
                 have hne3' : ¬ w.heap.size + 1 = w3.heap.size := by omega
                 clear t3))
            have tz := tch5 (w := w3) (w.heap.size + 1) (.int .i64 D.room) (.slice A D.fs.length c) (.bool false) (.int .i64 D.armed) (.int .u64 (D.steps : Int))
            refine bodyPost_ret (results_cell2 (cs := rdA A c D) 6 7 rowRd rfl (by rw [hrd]; exact fin5 HS3.out _ _ _ _ _) rfl rfl) rfl ?_
            exact RkP.same HR.out (HT3.out.trans tz (fun q hq e => by omega)) rfl HV.out
          · clear hgn
            cases hs : ({ D with fs := putF D.fs ⟨nm, bs, 0⟩ } : Dk).step.2
            · obtain ⟨E, hE⟩ : ∃ E, E = ({ D with fs := putF D.fs ⟨nm, bs, (0 : Nat)⟩ } : Dk).step.1 := ⟨_, rfl⟩
              have hEf : E.fs = putF D.fs ⟨nm, bs, (0 : Nat)⟩ := by rw [hE]; exact step_fs _
              have HV := Lib.hid (show D.append nm bs = (E, 50) by rw [Dk.append, if_neg (by rw [hd]; simp), if_neg (by rw [hnm]; simp), if_neg (by rintro (e | e); exact h1 e; exact h2 e), hg]; simp only [Option.getD_some, Option.getD_none, List.nil_append]; rw [hE]; simp only [hs]; rfl)
              have HSt := Lib.hid (show ∀ (A5 : Option Addr) (c5 : Nat) (W : World), Calls Try.prog 108 #[.agg #[.int .i64 D.room, .slice A5 (putF D.fs ⟨nm, bs, (0 : Nat)⟩).length c5, .bool D.down, .int .i64 D.armed, .int .u64 (D.steps : Int)]] W fun e w' => e = .returned (.tuple #[.agg #[.int .i64 E.room, .slice A5 (putF D.fs ⟨nm, bs, (0 : Nat)⟩).length c5, .bool E.down, .int .i64 E.armed, .int .u64 (E.steps : Int)], .bool false]) ∧ Touch (fun _ => False) W w' from fun A5 c5 W => by
                have := fstep_any ({ D with fs := putF D.fs ⟨nm, bs, (0 : Nat)⟩ } : Dk) A5 c5 W HOk.out.armed hst
                unfold StfP at this
                rw [← hE, show rdA A5 c5 E = #[.int .i64 E.room, .slice A5 (putF D.fs ⟨nm, bs, (0 : Nat)⟩).length c5, .bool E.down, .int .i64 E.armed, .int .u64 (E.steps : Int)] from by rw [rdA, hEf], hs] at this
                exact this)
              have HWi := Lib.hid (show ∀ W : World, RfF W F A D.fs → Calls Try.prog 109 #[.agg #[.int .i64 D.room, .slice A D.fs.length c, .bool false, .int .i64 D.armed, .int .u64 (D.steps : Int)], .agg #[St nm, St (bs), .int .i64 0]] W (RxP (({ D with fs := putF D.fs ⟨nm, bs, (0 : Nat)⟩ } : Dk)) W) from fun W h => by
                have := fwith_any D F A c ⟨nm, bs, (0 : Nat)⟩ W h hn
                rw [hrd] at this
                exact this)
              unfold RxP at HWi
              have hEr : rdA A c E = rdA A c E := rfl
              rw [hrd] at HFd ⊢
              clear hr hok hd hg hw1 hs hE h1 hEr hnm
              go_enter Try.func86, Try.ntmps86
              go_upto_if 59 with (first
                | (go_at_call 111; go_must (refine (fnamed_any nm _ hnl).mono ?_); rintro e wn ⟨rfl, rfl⟩; rw [HNm.out])
                | (go_at_call 107; rw [← HW1.out]; go_must (refine HFd.out.mono ?_); rintro e w2 ⟨rfl, t2⟩
                   have HT2 := Lib.hid (HT1.out.trans t2 (fun _ _ e => e))
                   have HB2 := Lib.hid (t2.blk HB1.out (fun e => e))
                   have HS2 := Lib.hid (t2.blk HS1.out (fun e => e))
                   have hs2 := t2.size
                   have p0 := HB2.out.cell 0; have p1 := HB2.out.cell 1; have p2 := HB2.out.cell 2; have p3 := HB2.out.cell 3; have p4 := HB2.out.cell 4; simp at p0 p1 p2 p3 p4
                   have m0 := HB2.out.frozen 0; have m1 := HB2.out.frozen 1; have m2 := HB2.out.frozen 2; have m3 := HB2.out.frozen 3; have m4 := HB2.out.frozen 4
                   have y0 := HS2.out.cell 0; have y1 := HS2.out.cell 1; have y2 := HS2.out.cell 2; have y3 := HS2.out.cell 3; have y4 := HS2.out.cell 4; simp at y0 y1 y2 y3 y4
                   have z0 := HS2.out.frozen 0; have z1 := HS2.out.frozen 1; have z2 := HS2.out.frozen 2; have z3 := HS2.out.frozen 3; have z4 := HS2.out.frozen 4
                   clear t2)
                | (go_at_call 38; go_must (refine (HFr.out w2 (HR.out.touch HT2.out (fun _ _ e => e))).mono ?_); rintro e w3 ⟨rfl, t3⟩
                   have HT3 := Lib.hid (HT2.out.trans t3 (fun _ _ e => e))
                   have HB3 := Lib.hid (t3.blk HB2.out (fun e => e))
                   have HS3 := Lib.hid (t3.blk HS2.out (fun e => e))
                   have hs3 := t3.size
                   have p0 := HB3.out.cell 0; have p1 := HB3.out.cell 1; have p2 := HB3.out.cell 2; have p3 := HB3.out.cell 3; have p4 := HB3.out.cell 4; simp at p0 p1 p2 p3 p4
                   have m0 := HB3.out.frozen 0; have m1 := HB3.out.frozen 1; have m2 := HB3.out.frozen 2; have m3 := HB3.out.frozen 3; have m4 := HB3.out.frozen 4
                   have y0 := HS3.out.cell 0; have y1 := HS3.out.cell 1; have y2 := HS3.out.cell 2; have y3 := HS3.out.cell 3; have y4 := HS3.out.cell 4; simp at y0 y1 y2 y3 y4
                   have z0 := HS3.out.frozen 0; have z1 := HS3.out.frozen 1; have z2 := HS3.out.frozen 2; have z3 := HS3.out.frozen 3; have z4 := HS3.out.frozen 4
                   have hlt3 : w.heap.size < w3.heap.size := by omega
                   have hne3 : ¬ w.heap.size = w3.heap.size := by omega
                   have hlt3' : w.heap.size + 1 < w3.heap.size := by omega
                   have hne3' : ¬ w.heap.size + 1 = w3.heap.size := by omega
                   clear t3)
                | (go_at_call 109
                   rw [show ((⟨#[]⟩ : ByteArray) ++ ⟨bs.toArray⟩) = ⟨bs.toArray⟩ from bytes_app [] bs]
                   obtain ⟨w4, hw4⟩ : ∃ w4, w4 = w3.alloc (.cells #[St nm, St (bs), .int .i64 0] 82) := ⟨_, rfl⟩
                   rw [← hw4]
                   have t4 : Touch (fun _ => False) w3 w4 := hw4 ▸ (Touch.refl (fun _ => False) w3).alloc _
                   have HT4 := Lib.hid (HT3.out.trans t4 (fun _ _ e => e))
                   go_must (refine (HWi.out w4 (HR.out.touch HT4.out (fun _ _ e => e))).mono ?_); rintro e w5 ⟨A5, c5, rfl, hr5, t5⟩
                   rw [show rdA A5 c5 (({ D with fs := putF D.fs ⟨nm, bs, (0 : Nat)⟩ } : Dk)) = #[.int .i64 D.room, .slice A5 (putF D.fs ⟨nm, bs, (0 : Nat)⟩).length c5, .bool D.down, .int .i64 D.armed, .int .u64 (D.steps : Int)] from rfl]
                   have HR5 := Lib.hid hr5
                   have HT5 := Lib.hid (HT4.out.trans t5 (fun _ _ e => e))
                   have HB5 := Lib.hid (t5.blk (t4.blk HB3.out (fun e => e)) (fun e => e))
                   have HS5 := Lib.hid (t5.blk (t4.blk HS3.out (fun e => e)) (fun e => e))
                   have hs4 := t4.size
                   have hs5 := t5.size
                   clear hr5 t5 t4 hw4)
                | (go_at_call 108; go_must (refine (HSt.out A5 c5 w5).mono ?_); rintro e w6 ⟨rfl, t6⟩
                   have HT6 := Lib.hid (HT5.out.trans t6 (fun _ _ e => e))
                   have HB6 := Lib.hid (t6.blk HB5.out (fun e => e))
                   have HS6 := Lib.hid (t6.blk HS5.out (fun e => e))
                   have HR6 := Lib.hid (HR5.out.touch t6 (fun _ _ e => e))
                   have hs6 := t6.size
                   clear p0 p1 p2 p3 p4 m0 m1 m2 m3 m4 y0 y1 y2 y3 y4 z0 z1 z2 z3 z4
                   have p0 := HB6.out.cell 0; have p1 := HB6.out.cell 1; have p2 := HB6.out.cell 2; have p3 := HB6.out.cell 3; have p4 := HB6.out.cell 4; simp at p0 p1 p2 p3 p4
                   have m0 := HB6.out.frozen 0; have m1 := HB6.out.frozen 1; have m2 := HB6.out.frozen 2; have m3 := HB6.out.frozen 3; have m4 := HB6.out.frozen 4
                   have y0 := HS6.out.cell 0; have y1 := HS6.out.cell 1; have y2 := HS6.out.cell 2; have y3 := HS6.out.cell 3; have y4 := HS6.out.cell 4; simp at y0 y1 y2 y3 y4
                   have z0 := HS6.out.frozen 0; have z1 := HS6.out.frozen 1; have z2 := HS6.out.frozen 2; have z3 := HS6.out.frozen 3; have z4 := HS6.out.frozen 4
                   clear t6))
              have ty := tch5 (w := w6) w.heap.size (.int .i64 E.room) (.slice A5 (putF D.fs ⟨nm, bs, (0 : Nat)⟩).length c5) (.bool E.down) (.int .i64 E.armed) (.int .u64 (E.steps : Int))
              have hb7 := blk5 HB6.out (.int .i64 E.room) (.slice A5 (putF D.fs ⟨nm, bs, (0 : Nat)⟩).length c5) (.bool E.down) (.int .i64 E.armed) (.int .u64 (E.steps : Int))
              have hsx := ty.blk HS6.out (by omega)
              obtain ⟨w7, hw7⟩ : ∃ w7, w7 = ((((w6.setCell ⟨w.heap.size, 0, none⟩ (.int .i64 E.room)).setCell ⟨w.heap.size, 1, none⟩ (.slice A5 (putF D.fs ⟨nm, bs, (0 : Nat)⟩).length c5)).setCell ⟨w.heap.size, 2, none⟩ (.bool E.down)).setCell ⟨w.heap.size, 3, none⟩ (.int .i64 E.armed)).setCell ⟨w.heap.size, 4, none⟩ (.int .u64 (E.steps : Int)) := ⟨_, rfl⟩
              rw [← hw7] at ty hb7 hsx ⊢
              have HT7 := Lib.hid (HT6.out.trans ty (fun q hq e => by omega))
              have HR7 := Lib.hid (HR6.out.touch ty (fun q hq e => by omega))
              have HS7 := Lib.hid hsx
              have hs7 := ty.size
              clear p0 p1 p2 p3 p4 m0 m1 m2 m3 m4 y0 y1 y2 y3 y4 z0 z1 z2 z3 z4 hw7 ty
              have p0 := hb7.cell 0; have p1 := hb7.cell 1; have p2 := hb7.cell 2; have p3 := hb7.cell 3; have p4 := hb7.cell 4; simp at p0 p1 p2 p3 p4
              have m0 := hb7.frozen 0; have m1 := hb7.frozen 1; have m2 := hb7.frozen 2; have m3 := hb7.frozen 3; have m4 := hb7.frozen 4
              have y0 := HS7.out.cell 0; have y1 := HS7.out.cell 1; have y2 := HS7.out.cell 2; have y3 := HS7.out.cell 3; have y4 := HS7.out.cell 4; simp at y0 y1 y2 y3 y4
              have z0 := HS7.out.frozen 0; have z1 := HS7.out.frozen 1; have z2 := HS7.out.frozen 2; have z3 := HS7.out.frozen 3; have z4 := HS7.out.frozen 4
              clear hb7 hsx
              go_wp2
              have tz := tch5 (w := w7) (w.heap.size + 1) (.int .i64 E.room) (.slice A5 (putF D.fs ⟨nm, bs, (0 : Nat)⟩).length c5) (.bool E.down) (.int .i64 E.armed) (.int .u64 (E.steps : Int))
              refine bodyPost_ret (results_cell2 (cs := rdA A5 c5 E) 6 7 rowRd rfl (by rw [show rdA A5 c5 E = #[.int .i64 E.room, .slice A5 (putF D.fs ⟨nm, bs, (0 : Nat)⟩).length c5, .bool E.down, .int .i64 E.armed, .int .u64 (E.steps : Int)] from by rw [rdA, hEf]]; exact fin5 HS7.out _ _ _ _ _) rfl rfl) rfl ?_
              rw [HV.out]
              refine ⟨A5, c5, fun q => w4.heap.size ≤ q ∧ q < w5.heap.size, rfl, by rw [hEf]; exact (HR7.out.touch tz (fun q hq e => by omega)), fun q hq => .inr ⟨by omega, Nat.lt_of_lt_of_le hq.2 (by have := tz.size; omega)⟩, HT7.out.trans tz (fun q hq e => by omega)⟩
            · obtain ⟨E, hE⟩ : ∃ E, E = ({ D with fs := putF D.fs ⟨nm, bs, (0 : Nat)⟩ } : Dk).step.1 := ⟨_, rfl⟩
              have hEf : E.fs = putF D.fs ⟨nm, bs, (0 : Nat)⟩ := by rw [hE]; exact step_fs _
              have HV := Lib.hid (show D.append nm bs = (E, 0) by rw [Dk.append, if_neg (by rw [hd]; simp), if_neg (by rw [hnm]; simp), if_neg (by rintro (e | e); exact h1 e; exact h2 e), hg]; simp only [Option.getD_some, Option.getD_none, List.nil_append]; rw [hE]; simp only [hs]; rfl)
              have HSt := Lib.hid (show ∀ (A5 : Option Addr) (c5 : Nat) (W : World), Calls Try.prog 108 #[.agg #[.int .i64 D.room, .slice A5 (putF D.fs ⟨nm, bs, (0 : Nat)⟩).length c5, .bool D.down, .int .i64 D.armed, .int .u64 (D.steps : Int)]] W fun e w' => e = .returned (.tuple #[.agg #[.int .i64 E.room, .slice A5 (putF D.fs ⟨nm, bs, (0 : Nat)⟩).length c5, .bool E.down, .int .i64 E.armed, .int .u64 (E.steps : Int)], .bool true]) ∧ Touch (fun _ => False) W w' from fun A5 c5 W => by
                have := fstep_any ({ D with fs := putF D.fs ⟨nm, bs, (0 : Nat)⟩ } : Dk) A5 c5 W HOk.out.armed hst
                unfold StfP at this
                rw [← hE, show rdA A5 c5 E = #[.int .i64 E.room, .slice A5 (putF D.fs ⟨nm, bs, (0 : Nat)⟩).length c5, .bool E.down, .int .i64 E.armed, .int .u64 (E.steps : Int)] from by rw [rdA, hEf], hs] at this
                exact this)
              have HWi := Lib.hid (show ∀ W : World, RfF W F A D.fs → Calls Try.prog 109 #[.agg #[.int .i64 D.room, .slice A D.fs.length c, .bool false, .int .i64 D.armed, .int .u64 (D.steps : Int)], .agg #[St nm, St (bs), .int .i64 0]] W (RxP (({ D with fs := putF D.fs ⟨nm, bs, (0 : Nat)⟩ } : Dk)) W) from fun W h => by
                have := fwith_any D F A c ⟨nm, bs, (0 : Nat)⟩ W h hn
                rw [hrd] at this
                exact this)
              unfold RxP at HWi
              have hEr : rdA A c E = rdA A c E := rfl
              rw [hrd] at HFd ⊢
              clear hr hok hd hg hw1 hs hE h1 hEr hnm
              go_enter Try.func86, Try.ntmps86
              go_upto_if 59 with (first
                | (go_at_call 111; go_must (refine (fnamed_any nm _ hnl).mono ?_); rintro e wn ⟨rfl, rfl⟩; rw [HNm.out])
                | (go_at_call 107; rw [← HW1.out]; go_must (refine HFd.out.mono ?_); rintro e w2 ⟨rfl, t2⟩
                   have HT2 := Lib.hid (HT1.out.trans t2 (fun _ _ e => e))
                   have HB2 := Lib.hid (t2.blk HB1.out (fun e => e))
                   have HS2 := Lib.hid (t2.blk HS1.out (fun e => e))
                   have hs2 := t2.size
                   have p0 := HB2.out.cell 0; have p1 := HB2.out.cell 1; have p2 := HB2.out.cell 2; have p3 := HB2.out.cell 3; have p4 := HB2.out.cell 4; simp at p0 p1 p2 p3 p4
                   have m0 := HB2.out.frozen 0; have m1 := HB2.out.frozen 1; have m2 := HB2.out.frozen 2; have m3 := HB2.out.frozen 3; have m4 := HB2.out.frozen 4
                   have y0 := HS2.out.cell 0; have y1 := HS2.out.cell 1; have y2 := HS2.out.cell 2; have y3 := HS2.out.cell 3; have y4 := HS2.out.cell 4; simp at y0 y1 y2 y3 y4
                   have z0 := HS2.out.frozen 0; have z1 := HS2.out.frozen 1; have z2 := HS2.out.frozen 2; have z3 := HS2.out.frozen 3; have z4 := HS2.out.frozen 4
                   clear t2)
                | (go_at_call 38; go_must (refine (HFr.out w2 (HR.out.touch HT2.out (fun _ _ e => e))).mono ?_); rintro e w3 ⟨rfl, t3⟩
                   have HT3 := Lib.hid (HT2.out.trans t3 (fun _ _ e => e))
                   have HB3 := Lib.hid (t3.blk HB2.out (fun e => e))
                   have HS3 := Lib.hid (t3.blk HS2.out (fun e => e))
                   have hs3 := t3.size
                   have p0 := HB3.out.cell 0; have p1 := HB3.out.cell 1; have p2 := HB3.out.cell 2; have p3 := HB3.out.cell 3; have p4 := HB3.out.cell 4; simp at p0 p1 p2 p3 p4
                   have m0 := HB3.out.frozen 0; have m1 := HB3.out.frozen 1; have m2 := HB3.out.frozen 2; have m3 := HB3.out.frozen 3; have m4 := HB3.out.frozen 4
                   have y0 := HS3.out.cell 0; have y1 := HS3.out.cell 1; have y2 := HS3.out.cell 2; have y3 := HS3.out.cell 3; have y4 := HS3.out.cell 4; simp at y0 y1 y2 y3 y4
                   have z0 := HS3.out.frozen 0; have z1 := HS3.out.frozen 1; have z2 := HS3.out.frozen 2; have z3 := HS3.out.frozen 3; have z4 := HS3.out.frozen 4
                   have hlt3 : w.heap.size < w3.heap.size := by omega
                   have hne3 : ¬ w.heap.size = w3.heap.size := by omega
                   have hlt3' : w.heap.size + 1 < w3.heap.size := by omega
                   have hne3' : ¬ w.heap.size + 1 = w3.heap.size := by omega
                   clear t3)
                | (go_at_call 109
                   rw [show ((⟨#[]⟩ : ByteArray) ++ ⟨bs.toArray⟩) = ⟨bs.toArray⟩ from bytes_app [] bs]
                   obtain ⟨w4, hw4⟩ : ∃ w4, w4 = w3.alloc (.cells #[St nm, St (bs), .int .i64 0] 82) := ⟨_, rfl⟩
                   rw [← hw4]
                   have t4 : Touch (fun _ => False) w3 w4 := hw4 ▸ (Touch.refl (fun _ => False) w3).alloc _
                   have HT4 := Lib.hid (HT3.out.trans t4 (fun _ _ e => e))
                   go_must (refine (HWi.out w4 (HR.out.touch HT4.out (fun _ _ e => e))).mono ?_); rintro e w5 ⟨A5, c5, rfl, hr5, t5⟩
                   rw [show rdA A5 c5 (({ D with fs := putF D.fs ⟨nm, bs, (0 : Nat)⟩ } : Dk)) = #[.int .i64 D.room, .slice A5 (putF D.fs ⟨nm, bs, (0 : Nat)⟩).length c5, .bool D.down, .int .i64 D.armed, .int .u64 (D.steps : Int)] from rfl]
                   have HR5 := Lib.hid hr5
                   have HT5 := Lib.hid (HT4.out.trans t5 (fun _ _ e => e))
                   have HB5 := Lib.hid (t5.blk (t4.blk HB3.out (fun e => e)) (fun e => e))
                   have HS5 := Lib.hid (t5.blk (t4.blk HS3.out (fun e => e)) (fun e => e))
                   have hs4 := t4.size
                   have hs5 := t5.size
                   clear hr5 t5 t4 hw4)
                | (go_at_call 108; go_must (refine (HSt.out A5 c5 w5).mono ?_); rintro e w6 ⟨rfl, t6⟩
                   have HT6 := Lib.hid (HT5.out.trans t6 (fun _ _ e => e))
                   have HB6 := Lib.hid (t6.blk HB5.out (fun e => e))
                   have HS6 := Lib.hid (t6.blk HS5.out (fun e => e))
                   have HR6 := Lib.hid (HR5.out.touch t6 (fun _ _ e => e))
                   have hs6 := t6.size
                   clear p0 p1 p2 p3 p4 m0 m1 m2 m3 m4 y0 y1 y2 y3 y4 z0 z1 z2 z3 z4
                   have p0 := HB6.out.cell 0; have p1 := HB6.out.cell 1; have p2 := HB6.out.cell 2; have p3 := HB6.out.cell 3; have p4 := HB6.out.cell 4; simp at p0 p1 p2 p3 p4
                   have m0 := HB6.out.frozen 0; have m1 := HB6.out.frozen 1; have m2 := HB6.out.frozen 2; have m3 := HB6.out.frozen 3; have m4 := HB6.out.frozen 4
                   have y0 := HS6.out.cell 0; have y1 := HS6.out.cell 1; have y2 := HS6.out.cell 2; have y3 := HS6.out.cell 3; have y4 := HS6.out.cell 4; simp at y0 y1 y2 y3 y4
                   have z0 := HS6.out.frozen 0; have z1 := HS6.out.frozen 1; have z2 := HS6.out.frozen 2; have z3 := HS6.out.frozen 3; have z4 := HS6.out.frozen 4
                   clear t6))
              have ty := tch5 (w := w6) w.heap.size (.int .i64 E.room) (.slice A5 (putF D.fs ⟨nm, bs, (0 : Nat)⟩).length c5) (.bool E.down) (.int .i64 E.armed) (.int .u64 (E.steps : Int))
              have hb7 := blk5 HB6.out (.int .i64 E.room) (.slice A5 (putF D.fs ⟨nm, bs, (0 : Nat)⟩).length c5) (.bool E.down) (.int .i64 E.armed) (.int .u64 (E.steps : Int))
              have hsx := ty.blk HS6.out (by omega)
              obtain ⟨w7, hw7⟩ : ∃ w7, w7 = ((((w6.setCell ⟨w.heap.size, 0, none⟩ (.int .i64 E.room)).setCell ⟨w.heap.size, 1, none⟩ (.slice A5 (putF D.fs ⟨nm, bs, (0 : Nat)⟩).length c5)).setCell ⟨w.heap.size, 2, none⟩ (.bool E.down)).setCell ⟨w.heap.size, 3, none⟩ (.int .i64 E.armed)).setCell ⟨w.heap.size, 4, none⟩ (.int .u64 (E.steps : Int)) := ⟨_, rfl⟩
              rw [← hw7] at ty hb7 hsx ⊢
              have HT7 := Lib.hid (HT6.out.trans ty (fun q hq e => by omega))
              have HR7 := Lib.hid (HR6.out.touch ty (fun q hq e => by omega))
              have HS7 := Lib.hid hsx
              have hs7 := ty.size
              clear p0 p1 p2 p3 p4 m0 m1 m2 m3 m4 y0 y1 y2 y3 y4 z0 z1 z2 z3 z4 hw7 ty
              have p0 := hb7.cell 0; have p1 := hb7.cell 1; have p2 := hb7.cell 2; have p3 := hb7.cell 3; have p4 := hb7.cell 4; simp at p0 p1 p2 p3 p4
              have m0 := hb7.frozen 0; have m1 := hb7.frozen 1; have m2 := hb7.frozen 2; have m3 := hb7.frozen 3; have m4 := hb7.frozen 4
              have y0 := HS7.out.cell 0; have y1 := HS7.out.cell 1; have y2 := HS7.out.cell 2; have y3 := HS7.out.cell 3; have y4 := HS7.out.cell 4; simp at y0 y1 y2 y3 y4
              have z0 := HS7.out.frozen 0; have z1 := HS7.out.frozen 1; have z2 := HS7.out.frozen 2; have z3 := HS7.out.frozen 3; have z4 := HS7.out.frozen 4
              clear hb7 hsx
              go_wp2
              have tz := tch5 (w := w7) (w.heap.size + 1) (.int .i64 E.room) (.slice A5 (putF D.fs ⟨nm, bs, (0 : Nat)⟩).length c5) (.bool E.down) (.int .i64 E.armed) (.int .u64 (E.steps : Int))
              refine bodyPost_ret (results_cell2 (cs := rdA A5 c5 E) 6 7 rowRd rfl (by rw [show rdA A5 c5 E = #[.int .i64 E.room, .slice A5 (putF D.fs ⟨nm, bs, (0 : Nat)⟩).length c5, .bool E.down, .int .i64 E.armed, .int .u64 (E.steps : Int)] from by rw [rdA, hEf]]; exact fin5 HS7.out _ _ _ _ _) rfl rfl) rfl ?_
              rw [HV.out]
              refine ⟨A5, c5, fun q => w4.heap.size ≤ q ∧ q < w5.heap.size, rfl, by rw [hEf]; exact (HR7.out.touch tz (fun q hq e => by omega)), fun q hq => .inr ⟨by omega, Nat.lt_of_lt_of_le hq.2 (by have := tz.size; omega)⟩, HT7.out.trans tz (fun q hq e => by omega)⟩
      | some f =>
        have hrd : rdA A c D = #[.int .i64 D.room, .slice A D.fs.length c, .bool false, .int .i64 D.armed, .int .u64 (D.steps : Int)] := by rw [rdA, hd]
        obtain ⟨w1, hw1⟩ : ∃ w1, w1 = (w.alloc (.cells #[.int .i64 D.room, .slice A D.fs.length c, .bool false, .int .i64 D.armed, .int .u64 (D.steps : Int)] 67)).alloc (.cells #[.int .i64 0, .slice none 0 0, .bool false, .int .i64 0, .int .u64 0] 67) := ⟨_, rfl⟩
        have HT1 := Lib.hid (show Touch (fun _ => False) w w1 from hw1 ▸ T2 w _ _)
        have HB1 := Lib.hid (show Blk w1 w.heap.size 67 #[.int .i64 D.room, .slice A D.fs.length c, .bool false, .int .i64 D.armed, .int .u64 (D.steps : Int)] from hw1 ▸ bk11 w _ _ _ _)
        have HS1 := Lib.hid (show Blk w1 (w.heap.size + 1) 67 #[.int .i64 0, .slice none 0 0, .bool false, .int .i64 0, .int .u64 0] from hw1 ▸ bk12 w _ _ _ _)
        have hs1 : w1.heap.size = w.heap.size + 2 := by rw [hw1]; simp
        have HW1 := Lib.hid hw1
        have HFr := Lib.hid (show ∀ W : World, RfF W F A D.fs → Calls Try.prog 38 #[.agg #[.int .i64 D.room, .slice A D.fs.length c, .bool false, .int .i64 D.armed, .int .u64 (D.steps : Int)]] W fun e w' => e = .returned (.int .i64 D.free) ∧ Touch (fun _ => False) W w' from fun W h => by
          have := ffree_any D F A c W h hok
          rwa [hrd] at this)
        have HFd := Lib.hid (ffind_some D F A c nm w1 (hr.touch HT1.out (fun _ _ e => e)) hn hg)
        obtain ⟨hfm, hfn⟩ := getF_some hg
        have hfo := hok.nm f hfm
        have hfl := len_le_tot hfm
        have htot := hok.tot
        have hsa := stSize f.al
        have HFn := Lib.hid hfn
        clear hfn
        have h1 : ¬ ((getF D.fs nm).isNone = true ∧ 128 ≤ D.fs.length) := fun e => by rw [hg] at e; simp at e
        by_cases h2 : D.free < (bs.length : Int)
        · have HV := Lib.hid (show D.append nm bs = (D, 30) by rw [Dk.append, if_neg (by rw [hd]; simp), if_neg (by rw [hnm]; simp), if_pos (.inr h2)])
          rw [hrd] at HFd ⊢
          clear hr hok hd hg hw1 hnm h1
          go_enter Try.func86, Try.ntmps86
          go_wp2_with (first
            | (go_at_call 111; go_must (refine (fnamed_any nm _ hnl).mono ?_); rintro e wn ⟨rfl, rfl⟩; rw [HNm.out])
            | (go_at_call 107; rw [← HW1.out]; go_must (refine HFd.out.mono ?_); rintro e w2 ⟨i, rfl, hi, hf, t2⟩
               have HT2 := Lib.hid (HT1.out.trans t2 (fun _ _ e => e))
               have HB2 := Lib.hid (t2.blk HB1.out (fun e => e))
               have HS2 := Lib.hid (t2.blk HS1.out (fun e => e))
               have hs2 := t2.size
               have p0 := HB2.out.cell 0; have p1 := HB2.out.cell 1; have p2 := HB2.out.cell 2; have p3 := HB2.out.cell 3; have p4 := HB2.out.cell 4; simp at p0 p1 p2 p3 p4
               have m0 := HB2.out.frozen 0; have m1 := HB2.out.frozen 1; have m2 := HB2.out.frozen 2; have m3 := HB2.out.frozen 3; have m4 := HB2.out.frozen 4
               have y0 := HS2.out.cell 0; have y1 := HS2.out.cell 1; have y2 := HS2.out.cell 2; have y3 := HS2.out.cell 3; have y4 := HS2.out.cell 4; simp at y0 y1 y2 y3 y4
               have z0 := HS2.out.frozen 0; have z1 := HS2.out.frozen 1; have z2 := HS2.out.frozen 2; have z3 := HS2.out.frozen 3; have z4 := HS2.out.frozen 4
               obtain ⟨g, off, hA, hg2, hgF, h0, h1, h2⟩ := (HR.out.touch HT2.out (fun _ _ e => e)).at_ hf
               subst hA
               have hgw := HFl.out g hgF
               have hgn : g ≠ w.heap.size := by omega
               have hgn' : g ≠ w.heap.size + 1 := by omega
               have HHf := Lib.hid hf
               have HH0 := Lib.hid h0
               have HH1 := Lib.hid h1
               have HH2 := Lib.hid h2
               clear t2 hf)
            | (go_at_call 38; go_must (refine (HFr.out w2 (HR.out.touch HT2.out (fun _ _ e => e))).mono ?_); rintro e w3 ⟨rfl, t3⟩
               have HT3 := Lib.hid (HT2.out.trans t3 (fun _ _ e => e))
               have HB3 := Lib.hid (t3.blk HB2.out (fun e => e))
               have HS3 := Lib.hid (t3.blk HS2.out (fun e => e))
               have hs3 := t3.size
               have p0 := HB3.out.cell 0; have p1 := HB3.out.cell 1; have p2 := HB3.out.cell 2; have p3 := HB3.out.cell 3; have p4 := HB3.out.cell 4; simp at p0 p1 p2 p3 p4
               have m0 := HB3.out.frozen 0; have m1 := HB3.out.frozen 1; have m2 := HB3.out.frozen 2; have m3 := HB3.out.frozen 3; have m4 := HB3.out.frozen 4
               have y0 := HS3.out.cell 0; have y1 := HS3.out.cell 1; have y2 := HS3.out.cell 2; have y3 := HS3.out.cell 3; have y4 := HS3.out.cell 4; simp at y0 y1 y2 y3 y4
               have z0 := HS3.out.frozen 0; have z1 := HS3.out.frozen 1; have z2 := HS3.out.frozen 2; have z3 := HS3.out.frozen 3; have z4 := HS3.out.frozen 4
               have h0 := ((show Touch (fun _ => False) w2 w3 from t3).cell (p := ⟨g, off + i * 3, none⟩) hg2 (fun e => e)).trans HH0.out
               have h1 := ((show Touch (fun _ => False) w2 w3 from t3).cell (p := ⟨g, off + i * 3 + 1, none⟩) hg2 (fun e => e)).trans HH1.out
               have h2 := ((show Touch (fun _ => False) w2 w3 from t3).cell (p := ⟨g, off + i * 3 + 2, none⟩) hg2 (fun e => e)).trans HH2.out
               have hgl3 : g < w3.heap.size := by omega
               have hgn3 : ¬ g = w3.heap.size := by omega
               have hlt3 : w.heap.size < w3.heap.size := by omega
               have hne3 : ¬ w.heap.size = w3.heap.size := by omega
               have hlt3' : w.heap.size + 1 < w3.heap.size := by omega
               have hne3' : ¬ w.heap.size + 1 = w3.heap.size := by omega
               clear t3))
          have tz := tch5 (w := w3) (w.heap.size + 1) (.int .i64 D.room) (.slice (some ⟨g, off, none⟩) D.fs.length c) (.bool false) (.int .i64 D.armed) (.int .u64 (D.steps : Int))
          refine bodyPost_ret (results_cell2 (cs := rdA (some ⟨g, off, none⟩) c D) 6 7 rowRd rfl (by rw [hrd]; exact fin5 HS3.out _ _ _ _ _) rfl rfl) rfl ?_
          exact RkP.same HR.out (HT3.out.trans tz (fun q hq e => by omega)) rfl HV.out
        · cases hs : ({ D with fs := putF D.fs ⟨f.nm, f.al ++ bs, f.kp⟩ } : Dk).step.2
          · obtain ⟨E, hE⟩ : ∃ E, E = ({ D with fs := putF D.fs ⟨f.nm, f.al ++ bs, f.kp⟩ } : Dk).step.1 := ⟨_, rfl⟩
            have hEf : E.fs = putF D.fs ⟨f.nm, f.al ++ bs, f.kp⟩ := by rw [hE]; exact step_fs _
            have HV := Lib.hid (show D.append nm bs = (E, 50) by rw [Dk.append, if_neg (by rw [hd]; simp), if_neg (by rw [hnm]; simp), if_neg (by rintro (e | e); exact h1 e; exact h2 e), hg]; simp only [Option.getD_some, Option.getD_none, List.nil_append]; rw [hE]; simp only [hs]; rfl)
            have HSt := Lib.hid (show ∀ (A5 : Option Addr) (c5 : Nat) (W : World), Calls Try.prog 108 #[.agg #[.int .i64 D.room, .slice A5 (putF D.fs ⟨f.nm, f.al ++ bs, f.kp⟩).length c5, .bool D.down, .int .i64 D.armed, .int .u64 (D.steps : Int)]] W fun e w' => e = .returned (.tuple #[.agg #[.int .i64 E.room, .slice A5 (putF D.fs ⟨f.nm, f.al ++ bs, f.kp⟩).length c5, .bool E.down, .int .i64 E.armed, .int .u64 (E.steps : Int)], .bool false]) ∧ Touch (fun _ => False) W w' from fun A5 c5 W => by
              have := fstep_any ({ D with fs := putF D.fs ⟨f.nm, f.al ++ bs, f.kp⟩ } : Dk) A5 c5 W HOk.out.armed hst
              unfold StfP at this
              rw [← hE, show rdA A5 c5 E = #[.int .i64 E.room, .slice A5 (putF D.fs ⟨f.nm, f.al ++ bs, f.kp⟩).length c5, .bool E.down, .int .i64 E.armed, .int .u64 (E.steps : Int)] from by rw [rdA, hEf], hs] at this
              exact this)
            have HWi := Lib.hid (show ∀ W : World, RfF W F A D.fs → Calls Try.prog 109 #[.agg #[.int .i64 D.room, .slice A D.fs.length c, .bool false, .int .i64 D.armed, .int .u64 (D.steps : Int)], .agg #[St f.nm, St (f.al ++ bs), .int .i64 (f.kp : Int)]] W (RxP (({ D with fs := putF D.fs ⟨f.nm, f.al ++ bs, f.kp⟩ } : Dk)) W) from fun W h => by
              have := fwith_any D F A c ⟨f.nm, f.al ++ bs, f.kp⟩ W h hn
              rw [hrd] at this
              exact this)
            unfold RxP at HWi
            have hEr : rdA A c E = rdA A c E := rfl
            rw [hrd] at HFd ⊢
            clear hr hok hd hg hw1 hs hE h1 hEr hnm
            have hcl : ¬ 9223372036854775807 < f.al.length + bs.length := by omega
            go_enter Try.func86, Try.ntmps86
            go_upto_if 59 with (first
              | (go_at_call 111; go_must (refine (fnamed_any nm _ hnl).mono ?_); rintro e wn ⟨rfl, rfl⟩; rw [HNm.out])
              | (go_at_call 107; rw [← HW1.out]; go_must (refine HFd.out.mono ?_); rintro e w2 ⟨i, rfl, hi, hf, t2⟩
                 have HT2 := Lib.hid (HT1.out.trans t2 (fun _ _ e => e))
                 have HB2 := Lib.hid (t2.blk HB1.out (fun e => e))
                 have HS2 := Lib.hid (t2.blk HS1.out (fun e => e))
                 have hs2 := t2.size
                 have p0 := HB2.out.cell 0; have p1 := HB2.out.cell 1; have p2 := HB2.out.cell 2; have p3 := HB2.out.cell 3; have p4 := HB2.out.cell 4; simp at p0 p1 p2 p3 p4
                 have m0 := HB2.out.frozen 0; have m1 := HB2.out.frozen 1; have m2 := HB2.out.frozen 2; have m3 := HB2.out.frozen 3; have m4 := HB2.out.frozen 4
                 have y0 := HS2.out.cell 0; have y1 := HS2.out.cell 1; have y2 := HS2.out.cell 2; have y3 := HS2.out.cell 3; have y4 := HS2.out.cell 4; simp at y0 y1 y2 y3 y4
                 have z0 := HS2.out.frozen 0; have z1 := HS2.out.frozen 1; have z2 := HS2.out.frozen 2; have z3 := HS2.out.frozen 3; have z4 := HS2.out.frozen 4
                 obtain ⟨g, off, hA, hg2, hgF, h0, h1, h2⟩ := (HR.out.touch HT2.out (fun _ _ e => e)).at_ hf
                 subst hA
                 have hgw := HFl.out g hgF
                 have hgn : g ≠ w.heap.size := by omega
                 have hgn' : g ≠ w.heap.size + 1 := by omega
                 have HHf := Lib.hid hf
                 have HH0 := Lib.hid h0
                 have HH1 := Lib.hid h1
                 have HH2 := Lib.hid h2
                 clear t2 hf)
              | (go_at_call 38; go_must (refine (HFr.out w2 (HR.out.touch HT2.out (fun _ _ e => e))).mono ?_); rintro e w3 ⟨rfl, t3⟩
                 have HT3 := Lib.hid (HT2.out.trans t3 (fun _ _ e => e))
                 have HB3 := Lib.hid (t3.blk HB2.out (fun e => e))
                 have HS3 := Lib.hid (t3.blk HS2.out (fun e => e))
                 have hs3 := t3.size
                 have p0 := HB3.out.cell 0; have p1 := HB3.out.cell 1; have p2 := HB3.out.cell 2; have p3 := HB3.out.cell 3; have p4 := HB3.out.cell 4; simp at p0 p1 p2 p3 p4
                 have m0 := HB3.out.frozen 0; have m1 := HB3.out.frozen 1; have m2 := HB3.out.frozen 2; have m3 := HB3.out.frozen 3; have m4 := HB3.out.frozen 4
                 have y0 := HS3.out.cell 0; have y1 := HS3.out.cell 1; have y2 := HS3.out.cell 2; have y3 := HS3.out.cell 3; have y4 := HS3.out.cell 4; simp at y0 y1 y2 y3 y4
                 have z0 := HS3.out.frozen 0; have z1 := HS3.out.frozen 1; have z2 := HS3.out.frozen 2; have z3 := HS3.out.frozen 3; have z4 := HS3.out.frozen 4
                 have h0 := ((show Touch (fun _ => False) w2 w3 from t3).cell (p := ⟨g, off + i * 3, none⟩) hg2 (fun e => e)).trans HH0.out
                 have h1 := ((show Touch (fun _ => False) w2 w3 from t3).cell (p := ⟨g, off + i * 3 + 1, none⟩) hg2 (fun e => e)).trans HH1.out
                 have h2 := ((show Touch (fun _ => False) w2 w3 from t3).cell (p := ⟨g, off + i * 3 + 2, none⟩) hg2 (fun e => e)).trans HH2.out
                 have hgl3 : g < w3.heap.size := by omega
                 have hgn3 : ¬ g = w3.heap.size := by omega
                 have hlt3 : w.heap.size < w3.heap.size := by omega
                 have hne3 : ¬ w.heap.size = w3.heap.size := by omega
                 have hlt3' : w.heap.size + 1 < w3.heap.size := by omega
                 have hne3' : ¬ w.heap.size + 1 = w3.heap.size := by omega
                 clear t3)
              | (go_at_call 109
                 rw [bytes_app f.al bs]
                 obtain ⟨w4, hw4⟩ : ∃ w4, w4 = w3.alloc (.cells #[St f.nm, St (f.al ++ bs), .int .i64 (f.kp : Int)] 82) := ⟨_, rfl⟩
                 rw [← hw4]
                 have t4 : Touch (fun _ => False) w3 w4 := hw4 ▸ (Touch.refl (fun _ => False) w3).alloc _
                 have HT4 := Lib.hid (HT3.out.trans t4 (fun _ _ e => e))
                 go_must (refine (HWi.out w4 (HR.out.touch HT4.out (fun _ _ e => e))).mono ?_); rintro e w5 ⟨A5, c5, rfl, hr5, t5⟩
                 rw [show rdA A5 c5 (({ D with fs := putF D.fs ⟨f.nm, f.al ++ bs, f.kp⟩ } : Dk)) = #[.int .i64 D.room, .slice A5 (putF D.fs ⟨f.nm, f.al ++ bs, f.kp⟩).length c5, .bool D.down, .int .i64 D.armed, .int .u64 (D.steps : Int)] from rfl]
                 have HR5 := Lib.hid hr5
                 have HT5 := Lib.hid (HT4.out.trans t5 (fun _ _ e => e))
                 have HB5 := Lib.hid (t5.blk (t4.blk HB3.out (fun e => e)) (fun e => e))
                 have HS5 := Lib.hid (t5.blk (t4.blk HS3.out (fun e => e)) (fun e => e))
                 have hs4 := t4.size
                 have hs5 := t5.size
                 clear hr5 t5 t4 hw4)
              | (go_at_call 108; go_must (refine (HSt.out A5 c5 w5).mono ?_); rintro e w6 ⟨rfl, t6⟩
                 have HT6 := Lib.hid (HT5.out.trans t6 (fun _ _ e => e))
                 have HB6 := Lib.hid (t6.blk HB5.out (fun e => e))
                 have HS6 := Lib.hid (t6.blk HS5.out (fun e => e))
                 have HR6 := Lib.hid (HR5.out.touch t6 (fun _ _ e => e))
                 have hs6 := t6.size
                 clear p0 p1 p2 p3 p4 m0 m1 m2 m3 m4 y0 y1 y2 y3 y4 z0 z1 z2 z3 z4
                 have p0 := HB6.out.cell 0; have p1 := HB6.out.cell 1; have p2 := HB6.out.cell 2; have p3 := HB6.out.cell 3; have p4 := HB6.out.cell 4; simp at p0 p1 p2 p3 p4
                 have m0 := HB6.out.frozen 0; have m1 := HB6.out.frozen 1; have m2 := HB6.out.frozen 2; have m3 := HB6.out.frozen 3; have m4 := HB6.out.frozen 4
                 have y0 := HS6.out.cell 0; have y1 := HS6.out.cell 1; have y2 := HS6.out.cell 2; have y3 := HS6.out.cell 3; have y4 := HS6.out.cell 4; simp at y0 y1 y2 y3 y4
                 have z0 := HS6.out.frozen 0; have z1 := HS6.out.frozen 1; have z2 := HS6.out.frozen 2; have z3 := HS6.out.frozen 3; have z4 := HS6.out.frozen 4
                 clear t6))
            have ty := tch5 (w := w6) w.heap.size (.int .i64 E.room) (.slice A5 (putF D.fs ⟨f.nm, f.al ++ bs, f.kp⟩).length c5) (.bool E.down) (.int .i64 E.armed) (.int .u64 (E.steps : Int))
            have hb7 := blk5 HB6.out (.int .i64 E.room) (.slice A5 (putF D.fs ⟨f.nm, f.al ++ bs, f.kp⟩).length c5) (.bool E.down) (.int .i64 E.armed) (.int .u64 (E.steps : Int))
            have hsx := ty.blk HS6.out (by omega)
            obtain ⟨w7, hw7⟩ : ∃ w7, w7 = ((((w6.setCell ⟨w.heap.size, 0, none⟩ (.int .i64 E.room)).setCell ⟨w.heap.size, 1, none⟩ (.slice A5 (putF D.fs ⟨f.nm, f.al ++ bs, f.kp⟩).length c5)).setCell ⟨w.heap.size, 2, none⟩ (.bool E.down)).setCell ⟨w.heap.size, 3, none⟩ (.int .i64 E.armed)).setCell ⟨w.heap.size, 4, none⟩ (.int .u64 (E.steps : Int)) := ⟨_, rfl⟩
            rw [← hw7] at ty hb7 hsx ⊢
            have HT7 := Lib.hid (HT6.out.trans ty (fun q hq e => by omega))
            have HR7 := Lib.hid (HR6.out.touch ty (fun q hq e => by omega))
            have HS7 := Lib.hid hsx
            have hs7 := ty.size
            clear p0 p1 p2 p3 p4 m0 m1 m2 m3 m4 y0 y1 y2 y3 y4 z0 z1 z2 z3 z4 hw7 ty
            have p0 := hb7.cell 0; have p1 := hb7.cell 1; have p2 := hb7.cell 2; have p3 := hb7.cell 3; have p4 := hb7.cell 4; simp at p0 p1 p2 p3 p4
            have m0 := hb7.frozen 0; have m1 := hb7.frozen 1; have m2 := hb7.frozen 2; have m3 := hb7.frozen 3; have m4 := hb7.frozen 4
            have y0 := HS7.out.cell 0; have y1 := HS7.out.cell 1; have y2 := HS7.out.cell 2; have y3 := HS7.out.cell 3; have y4 := HS7.out.cell 4; simp at y0 y1 y2 y3 y4
            have z0 := HS7.out.frozen 0; have z1 := HS7.out.frozen 1; have z2 := HS7.out.frozen 2; have z3 := HS7.out.frozen 3; have z4 := HS7.out.frozen 4
            clear hb7 hsx
            go_wp2
            have tz := tch5 (w := w7) (w.heap.size + 1) (.int .i64 E.room) (.slice A5 (putF D.fs ⟨f.nm, f.al ++ bs, f.kp⟩).length c5) (.bool E.down) (.int .i64 E.armed) (.int .u64 (E.steps : Int))
            refine bodyPost_ret (results_cell2 (cs := rdA A5 c5 E) 6 7 rowRd rfl (by rw [show rdA A5 c5 E = #[.int .i64 E.room, .slice A5 (putF D.fs ⟨f.nm, f.al ++ bs, f.kp⟩).length c5, .bool E.down, .int .i64 E.armed, .int .u64 (E.steps : Int)] from by rw [rdA, hEf]]; exact fin5 HS7.out _ _ _ _ _) rfl rfl) rfl ?_
            rw [HV.out]
            refine ⟨A5, c5, fun q => w4.heap.size ≤ q ∧ q < w5.heap.size, rfl, by rw [hEf]; exact (HR7.out.touch tz (fun q hq e => by omega)), fun q hq => .inr ⟨by omega, Nat.lt_of_lt_of_le hq.2 (by have := tz.size; omega)⟩, HT7.out.trans tz (fun q hq e => by omega)⟩
          · obtain ⟨E, hE⟩ : ∃ E, E = ({ D with fs := putF D.fs ⟨f.nm, f.al ++ bs, f.kp⟩ } : Dk).step.1 := ⟨_, rfl⟩
            have hEf : E.fs = putF D.fs ⟨f.nm, f.al ++ bs, f.kp⟩ := by rw [hE]; exact step_fs _
            have HV := Lib.hid (show D.append nm bs = (E, 0) by rw [Dk.append, if_neg (by rw [hd]; simp), if_neg (by rw [hnm]; simp), if_neg (by rintro (e | e); exact h1 e; exact h2 e), hg]; simp only [Option.getD_some, Option.getD_none, List.nil_append]; rw [hE]; simp only [hs]; rfl)
            have HSt := Lib.hid (show ∀ (A5 : Option Addr) (c5 : Nat) (W : World), Calls Try.prog 108 #[.agg #[.int .i64 D.room, .slice A5 (putF D.fs ⟨f.nm, f.al ++ bs, f.kp⟩).length c5, .bool D.down, .int .i64 D.armed, .int .u64 (D.steps : Int)]] W fun e w' => e = .returned (.tuple #[.agg #[.int .i64 E.room, .slice A5 (putF D.fs ⟨f.nm, f.al ++ bs, f.kp⟩).length c5, .bool E.down, .int .i64 E.armed, .int .u64 (E.steps : Int)], .bool true]) ∧ Touch (fun _ => False) W w' from fun A5 c5 W => by
              have := fstep_any ({ D with fs := putF D.fs ⟨f.nm, f.al ++ bs, f.kp⟩ } : Dk) A5 c5 W HOk.out.armed hst
              unfold StfP at this
              rw [← hE, show rdA A5 c5 E = #[.int .i64 E.room, .slice A5 (putF D.fs ⟨f.nm, f.al ++ bs, f.kp⟩).length c5, .bool E.down, .int .i64 E.armed, .int .u64 (E.steps : Int)] from by rw [rdA, hEf], hs] at this
              exact this)
            have HWi := Lib.hid (show ∀ W : World, RfF W F A D.fs → Calls Try.prog 109 #[.agg #[.int .i64 D.room, .slice A D.fs.length c, .bool false, .int .i64 D.armed, .int .u64 (D.steps : Int)], .agg #[St f.nm, St (f.al ++ bs), .int .i64 (f.kp : Int)]] W (RxP (({ D with fs := putF D.fs ⟨f.nm, f.al ++ bs, f.kp⟩ } : Dk)) W) from fun W h => by
              have := fwith_any D F A c ⟨f.nm, f.al ++ bs, f.kp⟩ W h hn
              rw [hrd] at this
              exact this)
            unfold RxP at HWi
            have hEr : rdA A c E = rdA A c E := rfl
            rw [hrd] at HFd ⊢
            clear hr hok hd hg hw1 hs hE h1 hEr hnm
            have hcl : ¬ 9223372036854775807 < f.al.length + bs.length := by omega
            go_enter Try.func86, Try.ntmps86
            go_upto_if 59 with (first
              | (go_at_call 111; go_must (refine (fnamed_any nm _ hnl).mono ?_); rintro e wn ⟨rfl, rfl⟩; rw [HNm.out])
              | (go_at_call 107; rw [← HW1.out]; go_must (refine HFd.out.mono ?_); rintro e w2 ⟨i, rfl, hi, hf, t2⟩
                 have HT2 := Lib.hid (HT1.out.trans t2 (fun _ _ e => e))
                 have HB2 := Lib.hid (t2.blk HB1.out (fun e => e))
                 have HS2 := Lib.hid (t2.blk HS1.out (fun e => e))
                 have hs2 := t2.size
                 have p0 := HB2.out.cell 0; have p1 := HB2.out.cell 1; have p2 := HB2.out.cell 2; have p3 := HB2.out.cell 3; have p4 := HB2.out.cell 4; simp at p0 p1 p2 p3 p4
                 have m0 := HB2.out.frozen 0; have m1 := HB2.out.frozen 1; have m2 := HB2.out.frozen 2; have m3 := HB2.out.frozen 3; have m4 := HB2.out.frozen 4
                 have y0 := HS2.out.cell 0; have y1 := HS2.out.cell 1; have y2 := HS2.out.cell 2; have y3 := HS2.out.cell 3; have y4 := HS2.out.cell 4; simp at y0 y1 y2 y3 y4
                 have z0 := HS2.out.frozen 0; have z1 := HS2.out.frozen 1; have z2 := HS2.out.frozen 2; have z3 := HS2.out.frozen 3; have z4 := HS2.out.frozen 4
                 obtain ⟨g, off, hA, hg2, hgF, h0, h1, h2⟩ := (HR.out.touch HT2.out (fun _ _ e => e)).at_ hf
                 subst hA
                 have hgw := HFl.out g hgF
                 have hgn : g ≠ w.heap.size := by omega
                 have hgn' : g ≠ w.heap.size + 1 := by omega
                 have HHf := Lib.hid hf
                 have HH0 := Lib.hid h0
                 have HH1 := Lib.hid h1
                 have HH2 := Lib.hid h2
                 clear t2 hf)
              | (go_at_call 38; go_must (refine (HFr.out w2 (HR.out.touch HT2.out (fun _ _ e => e))).mono ?_); rintro e w3 ⟨rfl, t3⟩
                 have HT3 := Lib.hid (HT2.out.trans t3 (fun _ _ e => e))
                 have HB3 := Lib.hid (t3.blk HB2.out (fun e => e))
                 have HS3 := Lib.hid (t3.blk HS2.out (fun e => e))
                 have hs3 := t3.size
                 have p0 := HB3.out.cell 0; have p1 := HB3.out.cell 1; have p2 := HB3.out.cell 2; have p3 := HB3.out.cell 3; have p4 := HB3.out.cell 4; simp at p0 p1 p2 p3 p4
                 have m0 := HB3.out.frozen 0; have m1 := HB3.out.frozen 1; have m2 := HB3.out.frozen 2; have m3 := HB3.out.frozen 3; have m4 := HB3.out.frozen 4
                 have y0 := HS3.out.cell 0; have y1 := HS3.out.cell 1; have y2 := HS3.out.cell 2; have y3 := HS3.out.cell 3; have y4 := HS3.out.cell 4; simp at y0 y1 y2 y3 y4
                 have z0 := HS3.out.frozen 0; have z1 := HS3.out.frozen 1; have z2 := HS3.out.frozen 2; have z3 := HS3.out.frozen 3; have z4 := HS3.out.frozen 4
                 have h0 := ((show Touch (fun _ => False) w2 w3 from t3).cell (p := ⟨g, off + i * 3, none⟩) hg2 (fun e => e)).trans HH0.out
                 have h1 := ((show Touch (fun _ => False) w2 w3 from t3).cell (p := ⟨g, off + i * 3 + 1, none⟩) hg2 (fun e => e)).trans HH1.out
                 have h2 := ((show Touch (fun _ => False) w2 w3 from t3).cell (p := ⟨g, off + i * 3 + 2, none⟩) hg2 (fun e => e)).trans HH2.out
                 have hgl3 : g < w3.heap.size := by omega
                 have hgn3 : ¬ g = w3.heap.size := by omega
                 have hlt3 : w.heap.size < w3.heap.size := by omega
                 have hne3 : ¬ w.heap.size = w3.heap.size := by omega
                 have hlt3' : w.heap.size + 1 < w3.heap.size := by omega
                 have hne3' : ¬ w.heap.size + 1 = w3.heap.size := by omega
                 clear t3)
              | (go_at_call 109
                 rw [bytes_app f.al bs]
                 obtain ⟨w4, hw4⟩ : ∃ w4, w4 = w3.alloc (.cells #[St f.nm, St (f.al ++ bs), .int .i64 (f.kp : Int)] 82) := ⟨_, rfl⟩
                 rw [← hw4]
                 have t4 : Touch (fun _ => False) w3 w4 := hw4 ▸ (Touch.refl (fun _ => False) w3).alloc _
                 have HT4 := Lib.hid (HT3.out.trans t4 (fun _ _ e => e))
                 go_must (refine (HWi.out w4 (HR.out.touch HT4.out (fun _ _ e => e))).mono ?_); rintro e w5 ⟨A5, c5, rfl, hr5, t5⟩
                 rw [show rdA A5 c5 (({ D with fs := putF D.fs ⟨f.nm, f.al ++ bs, f.kp⟩ } : Dk)) = #[.int .i64 D.room, .slice A5 (putF D.fs ⟨f.nm, f.al ++ bs, f.kp⟩).length c5, .bool D.down, .int .i64 D.armed, .int .u64 (D.steps : Int)] from rfl]
                 have HR5 := Lib.hid hr5
                 have HT5 := Lib.hid (HT4.out.trans t5 (fun _ _ e => e))
                 have HB5 := Lib.hid (t5.blk (t4.blk HB3.out (fun e => e)) (fun e => e))
                 have HS5 := Lib.hid (t5.blk (t4.blk HS3.out (fun e => e)) (fun e => e))
                 have hs4 := t4.size
                 have hs5 := t5.size
                 clear hr5 t5 t4 hw4)
              | (go_at_call 108; go_must (refine (HSt.out A5 c5 w5).mono ?_); rintro e w6 ⟨rfl, t6⟩
                 have HT6 := Lib.hid (HT5.out.trans t6 (fun _ _ e => e))
                 have HB6 := Lib.hid (t6.blk HB5.out (fun e => e))
                 have HS6 := Lib.hid (t6.blk HS5.out (fun e => e))
                 have HR6 := Lib.hid (HR5.out.touch t6 (fun _ _ e => e))
                 have hs6 := t6.size
                 clear p0 p1 p2 p3 p4 m0 m1 m2 m3 m4 y0 y1 y2 y3 y4 z0 z1 z2 z3 z4
                 have p0 := HB6.out.cell 0; have p1 := HB6.out.cell 1; have p2 := HB6.out.cell 2; have p3 := HB6.out.cell 3; have p4 := HB6.out.cell 4; simp at p0 p1 p2 p3 p4
                 have m0 := HB6.out.frozen 0; have m1 := HB6.out.frozen 1; have m2 := HB6.out.frozen 2; have m3 := HB6.out.frozen 3; have m4 := HB6.out.frozen 4
                 have y0 := HS6.out.cell 0; have y1 := HS6.out.cell 1; have y2 := HS6.out.cell 2; have y3 := HS6.out.cell 3; have y4 := HS6.out.cell 4; simp at y0 y1 y2 y3 y4
                 have z0 := HS6.out.frozen 0; have z1 := HS6.out.frozen 1; have z2 := HS6.out.frozen 2; have z3 := HS6.out.frozen 3; have z4 := HS6.out.frozen 4
                 clear t6))
            have ty := tch5 (w := w6) w.heap.size (.int .i64 E.room) (.slice A5 (putF D.fs ⟨f.nm, f.al ++ bs, f.kp⟩).length c5) (.bool E.down) (.int .i64 E.armed) (.int .u64 (E.steps : Int))
            have hb7 := blk5 HB6.out (.int .i64 E.room) (.slice A5 (putF D.fs ⟨f.nm, f.al ++ bs, f.kp⟩).length c5) (.bool E.down) (.int .i64 E.armed) (.int .u64 (E.steps : Int))
            have hsx := ty.blk HS6.out (by omega)
            obtain ⟨w7, hw7⟩ : ∃ w7, w7 = ((((w6.setCell ⟨w.heap.size, 0, none⟩ (.int .i64 E.room)).setCell ⟨w.heap.size, 1, none⟩ (.slice A5 (putF D.fs ⟨f.nm, f.al ++ bs, f.kp⟩).length c5)).setCell ⟨w.heap.size, 2, none⟩ (.bool E.down)).setCell ⟨w.heap.size, 3, none⟩ (.int .i64 E.armed)).setCell ⟨w.heap.size, 4, none⟩ (.int .u64 (E.steps : Int)) := ⟨_, rfl⟩
            rw [← hw7] at ty hb7 hsx ⊢
            have HT7 := Lib.hid (HT6.out.trans ty (fun q hq e => by omega))
            have HR7 := Lib.hid (HR6.out.touch ty (fun q hq e => by omega))
            have HS7 := Lib.hid hsx
            have hs7 := ty.size
            clear p0 p1 p2 p3 p4 m0 m1 m2 m3 m4 y0 y1 y2 y3 y4 z0 z1 z2 z3 z4 hw7 ty
            have p0 := hb7.cell 0; have p1 := hb7.cell 1; have p2 := hb7.cell 2; have p3 := hb7.cell 3; have p4 := hb7.cell 4; simp at p0 p1 p2 p3 p4
            have m0 := hb7.frozen 0; have m1 := hb7.frozen 1; have m2 := hb7.frozen 2; have m3 := hb7.frozen 3; have m4 := hb7.frozen 4
            have y0 := HS7.out.cell 0; have y1 := HS7.out.cell 1; have y2 := HS7.out.cell 2; have y3 := HS7.out.cell 3; have y4 := HS7.out.cell 4; simp at y0 y1 y2 y3 y4
            have z0 := HS7.out.frozen 0; have z1 := HS7.out.frozen 1; have z2 := HS7.out.frozen 2; have z3 := HS7.out.frozen 3; have z4 := HS7.out.frozen 4
            clear hb7 hsx
            go_wp2
            have tz := tch5 (w := w7) (w.heap.size + 1) (.int .i64 E.room) (.slice A5 (putF D.fs ⟨f.nm, f.al ++ bs, f.kp⟩).length c5) (.bool E.down) (.int .i64 E.armed) (.int .u64 (E.steps : Int))
            refine bodyPost_ret (results_cell2 (cs := rdA A5 c5 E) 6 7 rowRd rfl (by rw [show rdA A5 c5 E = #[.int .i64 E.room, .slice A5 (putF D.fs ⟨f.nm, f.al ++ bs, f.kp⟩).length c5, .bool E.down, .int .i64 E.armed, .int .u64 (E.steps : Int)] from by rw [rdA, hEf]]; exact fin5 HS7.out _ _ _ _ _) rfl rfl) rfl ?_
            rw [HV.out]
            refine ⟨A5, c5, fun q => w4.heap.size ≤ q ∧ q < w5.heap.size, rfl, by rw [hEf]; exact (HR7.out.touch tz (fun q hq e => by omega)), fun q hq => .inr ⟨by omega, Nat.lt_of_lt_of_le hq.2 (by have := tz.size; omega)⟩, HT7.out.trans tz (fun q hq e => by omega)⟩
  · have hrd : rdA A c D = #[.int .i64 D.room, .slice A D.fs.length c, .bool true, .int .i64 D.armed, .int .u64 (D.steps : Int)] := by rw [rdA, hd]
    have HV := Lib.hid (show D.append nm bs = (D, 50) by rw [Dk.append, if_pos hd])
    rw [hrd]
    clear hr hok hd
    go_enter Try.func86, Try.ntmps86
    go_wp2
    refine bodyPost_ret (results_cell2 (cs := rdA A c D) 6 7 rowRd rfl (by rw [hrd]; exact new2 _ _ _ _) rfl rfl) rfl ?_
    exact RkP.same HR.out (T2 _ _ _) rfl HV.out
end Go.Proofs.Ytpgakkpmpnebnaa
