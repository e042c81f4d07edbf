/- What ref16.Read and ticket.Read do. -/
import Derived.Test.YtmgmjehebbggaaaVRepH
import Derived.Test.YtmgmjehebbggaaaVQuillG
import Derived.Test.YtmgmjehebbggaaaVRdX
namespace Go.Proofs.Ytmgmjehebbggaaa
open Go.RowKit
set_option maxHeartbeats 4000000
set_option maxRecDepth 100000
set_option linter.unusedVariables false

/-- A ticket read, sound or not. -/
def rdTk (s : Bool × List UInt8) : TkN × Bool × List UInt8 :=
  let r1 := rd3 18446744073709551615 s
  let r2 := rd3 15 r1.2
  let r3 := rd3 4 r2.2
  let r4 := rd3 5 r3.2
  let r5 := rd3 1152921504606846976 r4.2
  let r6 := rd3 1125899906842624 r5.2
  let r7 := rd3 1125899906842624 r6.2
  let r8 := rd3 1125899906842624 r7.2
  let r9 := rd3 2147483648 r8.2
  (⟨r1.1, r2.1, r3.1, r4.1, r5.1, r6.1, r7.1, r8.1, r9.1⟩, r9.2)
def tkGood (r : TkN × Bool × List UInt8) : Bool := !r.2.1 && tkSound r.1.v
def tkZero : TkN := ⟨0, 0, 0, 0, 0, 0, 0, 0, 0⟩
def tkRes (r : TkN × Bool × List UInt8) : TkN × Bool × List UInt8 := if tkGood r = true then r else (tkZero, true, [])
/-- A ticket's cells. -/
def TkN.cells (t : TkN) : Array Value := #[.int .u64 t.id, .int .i64 t.contract, .int .i64 t.state, .int .i64 t.level, .int .u64 t.gen, .int .i64 t.from_, .int .i64 t.left, .int .i64 t.due, .int .i64 t.told]
def FTkPost (r : TkN × Bool × List UInt8) (w : World) (g : Nat) (F : Nat → Prop) (e : Ending) (w' : World) : Prop :=
  e = .returned (.tuple #[.agg (tkRes r).1.cells, .bool (tkGood r)]) ∧ RfAt w' g F (tkRes r).2.2 (tkRes r).2.1 ∧ Touch (fun k => k = g) w w'
def TkPost (r : TkN × Bool × List UInt8) (w : World) (g : Nat) (F : Nat → Prop) (e : Ending) (w' : World) : Prop :=
  e = .returned (.tuple #[.agg (tkRes r).1.cells, .bool (tkGood r)]) ∧ RdAt w' g F (tkRes r).2.2 (tkRes r).2.1 ∧ Touch (fun k => k = g) w w'

theorem FTkPost.no {r : TkN × Bool × List UInt8} {w w' : World} {g : Nat} {F : Nat → Prop} (h : tkGood r = false) (hr : RfAt w' g F [] true ∧ Touch (fun k => k = g) w w') : FTkPost r w g F (.returned (.tuple #[.agg #[.int .u64 0, .int .i64 0, .int .i64 0, .int .i64 0, .int .u64 0, .int .i64 0, .int .i64 0, .int .i64 0, .int .i64 0], .bool false])) w' := by
  have e : tkRes r = (tkZero, true, []) := by rw [tkRes, h]; rfl
  rw [FTkPost, e, h]
  exact ⟨rfl, hr.1, hr.2⟩
theorem FTkPost.yes {r : TkN × Bool × List UInt8} {w w' : World} {g : Nat} {F : Nat → Prop} (h : tkGood r = true) (hr : RfAt w' g F r.2.2 r.2.1 ∧ Touch (fun k => k = g) w w') : FTkPost r w g F (.returned (.tuple #[.agg r.1.cells, .bool true])) w' := by
  have e : tkRes r = r := by rw [tkRes, h]; rfl
  rw [FTkPost, e, h]
  exact ⟨rfl, hr.1, hr.2⟩
theorem TkPost.no {r : TkN × Bool × List UInt8} {w w' : World} {g : Nat} {F : Nat → Prop} (h : tkGood r = false) (hr : RdAt w' g F [] true ∧ Touch (fun k => k = g) w w') : TkPost r w g F (.returned (.tuple #[.agg #[.int .u64 0, .int .i64 0, .int .i64 0, .int .i64 0, .int .u64 0, .int .i64 0, .int .i64 0, .int .i64 0, .int .i64 0], .bool false])) w' := by
  have e : tkRes r = (tkZero, true, []) := by rw [tkRes, h]; rfl
  rw [TkPost, e, h]
  exact ⟨rfl, hr.1, hr.2⟩
theorem TkPost.yes {r : TkN × Bool × List UInt8} {w w' : World} {g : Nat} {F : Nat → Prop} (h : tkGood r = true) (hr : RdAt w' g F r.2.2 r.2.1 ∧ Touch (fun k => k = g) w w') : TkPost r w g F (.returned (.tuple #[.agg r.1.cells, .bool true])) w' := by
  have e : tkRes r = r := by rw [tkRes, h]; rfl
  rw [TkPost, e, h]
  exact ⟨rfl, hr.1, hr.2⟩
theorem ftread_any (g : Nat) (F : Nat → Prop) (bad : Bool) (l : List UInt8) (w : World) (h : RfAt w g F l bad) (hg : g < w.heap.size) (hF : ∀ k, F k → k < w.heap.size) :
    Calls Try.prog 63 #[.pointer (some ⟨g, 0, none⟩)] w (FTkPost (rdTk (bad, l)) w g F) := by
  obtain ⟨r, hr⟩ : ∃ r, r = rdTk (bad, l) := ⟨_, rfl⟩
  rw [← hr]
  have HRd := Lib.hid hr
  clear hr
  have hB2 := (Blk.new w 32 #[.int .u64 0, .int .i64 0, .int .i64 0, .int .i64 0, .int .u64 0, .int .i64 0, .int .i64 0, .int .i64 0, .int .i64 0]).alloc (.cells #[.int .u64 0, .int .i64 0, .int .i64 0, .int .i64 0, .int .u64 0, .int .i64 0, .int .i64 0, .int .i64 0, .int .i64 0] 32)
  have HB2 := Lib.hid hB2
  have hI := (⟨rfAt_touch h (((Touch.refl (fun _ => False) w).alloc (.cells #[.int .u64 0, .int .i64 0, .int .i64 0, .int .i64 0, .int .u64 0, .int .i64 0, .int .i64 0, .int .i64 0, .int .i64 0] 32)).alloc (.cells #[.int .u64 0, .int .i64 0, .int .i64 0, .int .i64 0, .int .u64 0, .int .i64 0, .int .i64 0, .int .i64 0, .int .i64 0] 32)) (fun e => e) (fun _ _ e => e), by simpa using Blk.new (w.alloc (.cells #[.int .u64 0, .int .i64 0, .int .i64 0, .int .i64 0, .int .u64 0, .int .i64 0, .int .i64 0, .int .i64 0, .int .i64 0] 32)) 32 #[.int .u64 0, .int .i64 0, .int .i64 0, .int .i64 0, .int .u64 0, .int .i64 0, .int .i64 0, .int .i64 0, .int .i64 0], Touch.refl _ _, by omega, fun e => by have := hF _ e; omega⟩ :
    Inf ((w.alloc (.cells #[.int .u64 0, .int .i64 0, .int .i64 0, .int .i64 0, .int .u64 0, .int .i64 0, .int .i64 0, .int .i64 0, .int .i64 0] 32)).alloc (.cells #[.int .u64 0, .int .i64 0, .int .i64 0, .int .i64 0, .int .u64 0, .int .i64 0, .int .i64 0, .int .i64 0, .int .i64 0] 32)) ((w.alloc (.cells #[.int .u64 0, .int .i64 0, .int .i64 0, .int .i64 0, .int .u64 0, .int .i64 0, .int .i64 0, .int .i64 0, .int .i64 0] 32)).alloc (.cells #[.int .u64 0, .int .i64 0, .int .i64 0, .int .i64 0, .int .u64 0, .int .i64 0, .int .i64 0, .int .i64 0, .int .i64 0] 32)) g (w.heap.size + 1) 32 F l bad #[.int .u64 0, .int .i64 0, .int .i64 0, .int .i64 0, .int .u64 0, .int .i64 0, .int .i64 0, .int .i64 0, .int .i64 0])
  have HT0 := Lib.hid (((Touch.refl (fun k => k = g) w).alloc (.cells #[.int .u64 0, .int .i64 0, .int .i64 0, .int .i64 0, .int .u64 0, .int .i64 0, .int .i64 0, .int .i64 0, .int .i64 0] 32)).alloc (.cells #[.int .u64 0, .int .i64 0, .int .i64 0, .int .i64 0, .int .u64 0, .int .i64 0, .int .i64 0, .int .i64 0, .int .i64 0] 32))
  obtain ⟨wS, hwS⟩ : ∃ wS, wS = ((w.alloc (.cells #[.int .u64 0, .int .i64 0, .int .i64 0, .int .i64 0, .int .u64 0, .int .i64 0, .int .i64 0, .int .i64 0, .int .i64 0] 32)).alloc (.cells #[.int .u64 0, .int .i64 0, .int .i64 0, .int .i64 0, .int .u64 0, .int .i64 0, .int .i64 0, .int .i64 0, .int .i64 0] 32)) := ⟨_, rfl⟩
  rw [← hwS] at hI HB2 HT0
  have HI := Lib.hid hI
  have HWS := Lib.hid hwS
  clear hI h hB2 hwS
  go_enter Try.func63, Try.ntmps63
  go_wp2_with fail
  rw [← HWS.out]
  clear HWS
  refine (fnum_st g F bad 18446744073709551615 l _ (by exact HI.out.rd)).mono ?_
  rintro e w1 ⟨v1, b1, l1, hv1, hm1, rfl, h1, t1⟩
  have HV1 := Lib.hid hv1
  have hI := HI.out.to h1 t1
  have q := hI.blk.cell 0; have f := hI.blk.frozen 0
  simp at q
  have HI := Lib.hid (show Inf wS (w1.setCell ⟨w.heap.size + 1, 0, none⟩ (.int .u64 v1)) g (w.heap.size + 1) 32 F l1 b1 #[.int .u64 v1, .int .i64 0, .int .i64 0, .int .i64 0, .int .u64 0, .int .i64 0, .int .i64 0, .int .i64 0, .int .i64 0] from hI.set 0 (.int .u64 v1))
  clear hv1 h1 t1 hI
  go_wp2_with fail
  clear q f
  refine (fnum_st g F b1 15 l1 _ (by exact HI.out.rd)).mono ?_
  rintro e w2 ⟨v2, b2, l2, hv2, hm2, rfl, h2, t2⟩
  have HV2 := Lib.hid hv2
  have hI := HI.out.to h2 t2
  have q := hI.blk.cell 1; have f := hI.blk.frozen 1
  simp at q
  have HI := Lib.hid (show Inf wS (w2.setCell ⟨w.heap.size + 1, 1, none⟩ (.int .i64 v2)) g (w.heap.size + 1) 32 F l2 b2 #[.int .u64 v1, .int .i64 v2, .int .i64 0, .int .i64 0, .int .u64 0, .int .i64 0, .int .i64 0, .int .i64 0, .int .i64 0] from hI.set 1 (.int .i64 v2))
  clear hv2 h2 t2 hI
  go_wp2_with fail
  clear q f
  refine (fnum_st g F b2 4 l2 _ (by exact HI.out.rd)).mono ?_
  rintro e w3 ⟨v3, b3, l3, hv3, hm3, rfl, h3, t3⟩
  have HV3 := Lib.hid hv3
  have hI := HI.out.to h3 t3
  have q := hI.blk.cell 2; have f := hI.blk.frozen 2
  simp at q
  have HI := Lib.hid (show Inf wS (w3.setCell ⟨w.heap.size + 1, 2, none⟩ (.int .i64 v3)) g (w.heap.size + 1) 32 F l3 b3 #[.int .u64 v1, .int .i64 v2, .int .i64 v3, .int .i64 0, .int .u64 0, .int .i64 0, .int .i64 0, .int .i64 0, .int .i64 0] from hI.set 2 (.int .i64 v3))
  clear hv3 h3 t3 hI
  go_wp2_with fail
  clear q f
  refine (fnum_st g F b3 5 l3 _ (by exact HI.out.rd)).mono ?_
  rintro e w4 ⟨v4, b4, l4, hv4, hm4, rfl, h4, t4⟩
  have HV4 := Lib.hid hv4
  have hI := HI.out.to h4 t4
  have q := hI.blk.cell 3; have f := hI.blk.frozen 3
  simp at q
  have HI := Lib.hid (show Inf wS (w4.setCell ⟨w.heap.size + 1, 3, none⟩ (.int .i64 v4)) g (w.heap.size + 1) 32 F l4 b4 #[.int .u64 v1, .int .i64 v2, .int .i64 v3, .int .i64 v4, .int .u64 0, .int .i64 0, .int .i64 0, .int .i64 0, .int .i64 0] from hI.set 3 (.int .i64 v4))
  clear hv4 h4 t4 hI
  go_wp2_with fail
  clear q f
  refine (fnum_st g F b4 1152921504606846976 l4 _ (by exact HI.out.rd)).mono ?_
  rintro e w5 ⟨v5, b5, l5, hv5, hm5, rfl, h5, t5⟩
  have HV5 := Lib.hid hv5
  have hI := HI.out.to h5 t5
  have q := hI.blk.cell 4; have f := hI.blk.frozen 4
  simp at q
  have HI := Lib.hid (show Inf wS (w5.setCell ⟨w.heap.size + 1, 4, none⟩ (.int .u64 v5)) g (w.heap.size + 1) 32 F l5 b5 #[.int .u64 v1, .int .i64 v2, .int .i64 v3, .int .i64 v4, .int .u64 v5, .int .i64 0, .int .i64 0, .int .i64 0, .int .i64 0] from hI.set 4 (.int .u64 v5))
  clear hv5 h5 t5 hI
  go_wp2_with fail
  clear q f
  refine (fnum_st g F b5 1125899906842624 l5 _ (by exact HI.out.rd)).mono ?_
  rintro e w6 ⟨v6, b6, l6, hv6, hm6, rfl, h6, t6⟩
  have HV6 := Lib.hid hv6
  have hI := HI.out.to h6 t6
  have q := hI.blk.cell 5; have f := hI.blk.frozen 5
  simp at q
  have HI := Lib.hid (show Inf wS (w6.setCell ⟨w.heap.size + 1, 5, none⟩ (.int .i64 v6)) g (w.heap.size + 1) 32 F l6 b6 #[.int .u64 v1, .int .i64 v2, .int .i64 v3, .int .i64 v4, .int .u64 v5, .int .i64 v6, .int .i64 0, .int .i64 0, .int .i64 0] from hI.set 5 (.int .i64 v6))
  clear hv6 h6 t6 hI
  go_wp2_with fail
  clear q f
  refine (fnum_st g F b6 1125899906842624 l6 _ (by exact HI.out.rd)).mono ?_
  rintro e w7 ⟨v7, b7, l7, hv7, hm7, rfl, h7, t7⟩
  have HV7 := Lib.hid hv7
  have hI := HI.out.to h7 t7
  have q := hI.blk.cell 6; have f := hI.blk.frozen 6
  simp at q
  have HI := Lib.hid (show Inf wS (w7.setCell ⟨w.heap.size + 1, 6, none⟩ (.int .i64 v7)) g (w.heap.size + 1) 32 F l7 b7 #[.int .u64 v1, .int .i64 v2, .int .i64 v3, .int .i64 v4, .int .u64 v5, .int .i64 v6, .int .i64 v7, .int .i64 0, .int .i64 0] from hI.set 6 (.int .i64 v7))
  clear hv7 h7 t7 hI
  go_wp2_with fail
  clear q f
  refine (fnum_st g F b7 1125899906842624 l7 _ (by exact HI.out.rd)).mono ?_
  rintro e w8 ⟨v8, b8, l8, hv8, hm8, rfl, h8, t8⟩
  have HV8 := Lib.hid hv8
  have hI := HI.out.to h8 t8
  have q := hI.blk.cell 7; have f := hI.blk.frozen 7
  simp at q
  have HI := Lib.hid (show Inf wS (w8.setCell ⟨w.heap.size + 1, 7, none⟩ (.int .i64 v8)) g (w.heap.size + 1) 32 F l8 b8 #[.int .u64 v1, .int .i64 v2, .int .i64 v3, .int .i64 v4, .int .u64 v5, .int .i64 v6, .int .i64 v7, .int .i64 v8, .int .i64 0] from hI.set 7 (.int .i64 v8))
  clear hv8 h8 t8 hI
  go_wp2_with fail
  clear q f
  refine (fnum_st g F b8 2147483648 l8 _ (by exact HI.out.rd)).mono ?_
  rintro e w9 ⟨v9, b9, l9, hv9, hm9, rfl, h9, t9⟩
  have HV9 := Lib.hid hv9
  have hI := HI.out.to h9 t9
  have q := hI.blk.cell 8; have f := hI.blk.frozen 8
  simp at q
  have HI := Lib.hid (show Inf wS (w9.setCell ⟨w.heap.size + 1, 8, none⟩ (.int .i64 v9)) g (w.heap.size + 1) 32 F l9 b9 #[.int .u64 v1, .int .i64 v2, .int .i64 v3, .int .i64 v4, .int .u64 v5, .int .i64 v6, .int .i64 v7, .int .i64 v8, .int .i64 v9] from hI.set 8 (.int .i64 v9))
  have HIp := Lib.hid hI; clear hv9 h9 t9 hI

  clear q f
  have hr : r = (⟨v1, v2, v3, v4, v5, v6, v7, v8, v9⟩, b9, l9) := by rw [HRd.out]; simp only [rdTk, HV1.out, HV2.out, HV3.out, HV4.out, HV5.out, HV6.out, HV7.out, HV8.out, HV9.out]
  subst hr
  have HT := Lib.hid (fun w1 => rtk_any (TkN.v ⟨v1, v2, v3, v4, v5, v6, v7, v8, v9⟩) w1 (by simp only [TkV.ok, TkN.v]; omega))
  have HP := Lib.hid (show ∀ b (s : Bool), tkSound (TkN.v ⟨v1, v2, v3, v4, v5, v6, v7, v8, v9⟩) = s → tkGood (⟨v1, v2, v3, v4, v5, v6, v7, v8, v9⟩, b, l9) = (!b && s) from fun b s h => by rw [tkGood, h])
  have HI9 := HI
  obtain ⟨_, A9, c9, hl9, hm9', hb9, hr9⟩ := HIp.out.rd
  have y1 := hb9.cell 1
  simp at y1
  clear hl9 hm9' hr9 hb9
  have q0 := HIp.out.blk.cell 0; have q1 := HIp.out.blk.cell 1; have q2 := HIp.out.blk.cell 2; have q3 := HIp.out.blk.cell 3; have q4 := HIp.out.blk.cell 4; have q5 := HIp.out.blk.cell 5; have q6 := HIp.out.blk.cell 6; have q7 := HIp.out.blk.cell 7; have q8 := HIp.out.blk.cell 8; simp at q0 q1 q2 q3 q4 q5 q6 q7 q8
  have f := HIp.out.blk.frozen 8
  cases b9
  · cases hs : tkSound (TkN.v ⟨v1, v2, v3, v4, v5, v6, v7, v8, v9⟩)
    · have HG := Lib.hid (HP.out false false hs)
      rw [hs] at HT
      clear hs
      go_wp2_with (first
        | (go_at_call 65; go_must (refine (HT.out _).mono ?_); rintro e wa ⟨rfl, ta⟩; have HIa := Lib.hid (HI9.out.far ta); clear ta)
        | (go_at_call 42; go_must (refine (rf_fail g F l9 false _ (by exact HIa.out.rd)).mono ?_); rintro e wb ⟨rfl, hb, tb⟩; have hIb := HIa.out.to hb tb; have HIb := Lib.hid hIb; have hbx := hIb.t.blk HB2.out (by rintro (e | e) <;> omega); have d0 := hbx.cell 0; have d1 := hbx.cell 1; have d2 := hbx.cell 2; have d3 := hbx.cell 3; have d4 := hbx.cell 4; have d5 := hbx.cell 5; have d6 := hbx.cell 6; have d7 := hbx.cell 7; have d8 := hbx.cell 8; simp at d0 d1 d2 d3 d4 d5 d6 d7 d8; have f0 := hbx.frozen 0; have f1 := hbx.frozen 1; have f2 := hbx.frozen 2; have f3 := hbx.frozen 3; have f4 := hbx.frozen 4; have f5 := hbx.frozen 5; have f6 := hbx.frozen 6; have f7 := hbx.frozen 7; have f8 := hbx.frozen 8; clear hbx; clear hb tb hIb))
      exact bodyPost_ret (v := .tuple #[.agg #[.int .u64 0, .int .i64 0, .int .i64 0, .int .i64 0, .int .u64 0, .int .i64 0, .int .i64 0, .int .i64 0, .int .i64 0], .bool false]) (by simp [results, Try.results63, go_sem, d0, d1, d2, d3, d4, d5, d6, d7, d8]) rfl (FTkPost.no HG.out (HIb.out.done HT0.out hg (by omega) (by omega) hF [.int .u64 0, .int .i64 0, .int .i64 0, .int .i64 0, .int .u64 0, .int .i64 0, .int .i64 0, .int .i64 0, .int .i64 0]))
    · have HG := Lib.hid (HP.out false true hs)
      rw [hs] at HT
      clear hs
      go_wp2_with (
        go_at_call 65; go_must (refine (HT.out _).mono ?_); rintro e wa ⟨rfl, ta⟩; have hIa := HI9.out.far ta; have HIa := Lib.hid hIa; have q0 := hIa.blk.cell 0; have q1 := hIa.blk.cell 1; have q2 := hIa.blk.cell 2; have q3 := hIa.blk.cell 3; have q4 := hIa.blk.cell 4; have q5 := hIa.blk.cell 5; have q6 := hIa.blk.cell 6; have q7 := hIa.blk.cell 7; have q8 := hIa.blk.cell 8; simp at q0 q1 q2 q3 q4 q5 q6 q7 q8; have hbx := hIa.t.blk HB2.out (by rintro (e | e) <;> omega); have d0 := hbx.cell 0; have d1 := hbx.cell 1; have d2 := hbx.cell 2; have d3 := hbx.cell 3; have d4 := hbx.cell 4; have d5 := hbx.cell 5; have d6 := hbx.cell 6; have d7 := hbx.cell 7; have d8 := hbx.cell 8; simp at d0 d1 d2 d3 d4 d5 d6 d7 d8; have f0 := hbx.frozen 0; have f1 := hbx.frozen 1; have f2 := hbx.frozen 2; have f3 := hbx.frozen 3; have f4 := hbx.frozen 4; have f5 := hbx.frozen 5; have f6 := hbx.frozen 6; have f7 := hbx.frozen 7; have f8 := hbx.frozen 8; clear hbx; clear ta hIa)
      exact bodyPost_ret (v := .tuple #[.agg #[.int .u64 v1, .int .i64 v2, .int .i64 v3, .int .i64 v4, .int .u64 v5, .int .i64 v6, .int .i64 v7, .int .i64 v8, .int .i64 v9], .bool true]) (by simp [results, Try.results63, go_sem, d0, d1, d2, d3, d4, d5, d6, d7, d8]) rfl (FTkPost.yes HG.out (HIa.out.done HT0.out hg (by omega) (by omega) hF [.int .u64 v1, .int .i64 v2, .int .i64 v3, .int .i64 v4, .int .u64 v5, .int .i64 v6, .int .i64 v7, .int .i64 v8, .int .i64 v9]))
  · have HG := Lib.hid (show tkGood (⟨v1, v2, v3, v4, v5, v6, v7, v8, v9⟩, true, l9) = false from rfl)
    go_wp2_with (
      go_at_call 42; go_must (refine (rf_fail g F l9 true _ (by exact HI9.out.rd)).mono ?_); rintro e wb ⟨rfl, hb, tb⟩; have hIb := HI9.out.to hb tb; have HIb := Lib.hid hIb; have hbx := hIb.t.blk HB2.out (by rintro (e | e) <;> omega); have d0 := hbx.cell 0; have d1 := hbx.cell 1; have d2 := hbx.cell 2; have d3 := hbx.cell 3; have d4 := hbx.cell 4; have d5 := hbx.cell 5; have d6 := hbx.cell 6; have d7 := hbx.cell 7; have d8 := hbx.cell 8; simp at d0 d1 d2 d3 d4 d5 d6 d7 d8; have f0 := hbx.frozen 0; have f1 := hbx.frozen 1; have f2 := hbx.frozen 2; have f3 := hbx.frozen 3; have f4 := hbx.frozen 4; have f5 := hbx.frozen 5; have f6 := hbx.frozen 6; have f7 := hbx.frozen 7; have f8 := hbx.frozen 8; clear hbx; clear hb tb hIb)
    exact bodyPost_ret (v := .tuple #[.agg #[.int .u64 0, .int .i64 0, .int .i64 0, .int .i64 0, .int .u64 0, .int .i64 0, .int .i64 0, .int .i64 0, .int .i64 0], .bool false]) (by simp [results, Try.results63, go_sem, d0, d1, d2, d3, d4, d5, d6, d7, d8]) rfl (FTkPost.no HG.out (HIb.out.done HT0.out hg (by omega) (by omega) hF [.int .u64 0, .int .i64 0, .int .i64 0, .int .i64 0, .int .u64 0, .int .i64 0, .int .i64 0, .int .i64 0, .int .i64 0]))

/-- The closure: an int. -/
def IntSt (m : Nat) (l : List UInt8) (bad : Bool) (w : World) (g : Nat) (F : Nat → Prop) (e : Ending) (w' : World) : Prop :=
  ∃ v b l', rd3 m (bad, l) = (v, b, l') ∧ v ≤ m ∧ e = .returned (.int .i64 (v : Int)) ∧ RdAt w' g F l' b ∧ Touch (fun k => k = g) w w'
theorem clonum_any (g b1 : Nat) (F : Nat → Prop) (bad : Bool) (m : Nat) (l : List UInt8) (w : World) (h : RdAt w g F l bad) (hb : Blk w b1 54 #[.pointer (some ⟨g, 0, none⟩)]) (hm : m ≤ 9223372036854775807) :
    Calls Try.prog 73 #[.int .u64 m, .pointer (some ⟨b1, 0, none⟩)] w (IntSt m l bad w g F) := by
  have q := hb.cell 0
  simp at q
  have HN := Lib.hid (num_st g F bad m l w h)
  clear h hb
  go_enter Try.func73, Try.ntmps73
  go_wp2_with (go_at_call 37; go_must (refine HN.out.mono ?_); rintro e w1 ⟨v, b, l1, hv, hvm, rfl, h1, t1⟩; have HQ := Lib.hid (And.intro hv (And.intro h1 t1)); clear hv h1 t1)
  go_ret
  exact ⟨v, b, l1, HQ.out.1, hvm, rfl, HQ.out.2.1, HQ.out.2.2⟩
theorem ttread_any (g : Nat) (F : Nat → Prop) (bad : Bool) (l : List UInt8) (w : World) (h : RdAt w g F l bad) (hg : g < w.heap.size) (hF : ∀ k, F k → k < w.heap.size) :
    Calls Try.prog 58 #[.pointer (some ⟨g, 0, none⟩)] w (TkPost (rdTk (bad, l)) w g F) := by
  obtain ⟨r, hr⟩ : ∃ r, r = rdTk (bad, l) := ⟨_, rfl⟩
  rw [← hr]
  have HRd := Lib.hid hr
  clear hr
  have t0 := ((Touch.refl (fun k => k = g) w).alloc (.cells #[.pointer (some ⟨g, 0, none⟩)] 54)).alloc (.cells #[.int .u64 0, .int .i64 0, .int .i64 0, .int .i64 0, .int .u64 0, .int .i64 0, .int .i64 0, .int .i64 0, .int .i64 0] 32)
  have hB1 := (Blk.new w 54 #[.pointer (some ⟨g, 0, none⟩)]).alloc (.cells #[.int .u64 0, .int .i64 0, .int .i64 0, .int .i64 0, .int .u64 0, .int .i64 0, .int .i64 0, .int .i64 0, .int .i64 0] 32)
  have hB2 : Blk ((w.alloc (.cells #[.pointer (some ⟨g, 0, none⟩)] 54)).alloc (.cells #[.int .u64 0, .int .i64 0, .int .i64 0, .int .i64 0, .int .u64 0, .int .i64 0, .int .i64 0, .int .i64 0, .int .i64 0] 32)) (w.heap.size + 1) 32 #[.int .u64 0, .int .i64 0, .int .i64 0, .int .i64 0, .int .u64 0, .int .i64 0, .int .i64 0, .int .i64 0, .int .i64 0] := by simpa using Blk.new (w.alloc (.cells #[.pointer (some ⟨g, 0, none⟩)] 54)) 32 #[.int .u64 0, .int .i64 0, .int .i64 0, .int .i64 0, .int .u64 0, .int .i64 0, .int .i64 0, .int .i64 0, .int .i64 0]
  have h0 := rdAt_touch h (((Touch.refl (fun _ => False) w).alloc (.cells #[.pointer (some ⟨g, 0, none⟩)] 54)).alloc (.cells #[.int .u64 0, .int .i64 0, .int .i64 0, .int .i64 0, .int .u64 0, .int .i64 0, .int .i64 0, .int .i64 0, .int .i64 0] 32)) (fun e => e) (fun _ _ e => e)
  have HH0 := Lib.hid h0
  have HB1 := Lib.hid hB1
  have HB2 := Lib.hid hB2
  have HT0 := Lib.hid t0
  clear h h0 t0 hB1 hB2
  go_enter Try.func58, Try.ntmps58
  go_wp2_with fail
  refine (num_st g F bad 18446744073709551615 l _ (by exact HH0.out)).mono ?_
  rintro e w1 ⟨v1, b1, l1, hv1, hm1, rfl, h1, t1⟩
  have HV1 := Lib.hid hv1
  have hs1 : w.heap.size + 2 ≤ w1.heap.size := by have := t1.size; simpa using this
  have HB1 := Lib.hid (t1.blk HB1.out (by omega))
  have HB2 := Lib.hid (t1.blk HB2.out (by omega))
  have HT1 := Lib.hid (HT0.out.trans t1 (fun _ _ e => e))
  have HH1 := Lib.hid h1
  clear hv1 h1 t1
  have hsg : w1.heap.size ≠ g := by omega
  have hI := (⟨rdAt_touch HH1.out ((Touch.refl (fun _ => False) w1).alloc (.cells #[.int .u64 v1, .int .i64 0, .int .i64 0, .int .i64 0, .int .u64 0, .int .i64 0, .int .i64 0, .int .i64 0, .int .i64 0] 32)) (fun e => e) (fun _ _ e => e), Blk.new w1 32 #[.int .u64 v1, .int .i64 0, .int .i64 0, .int .i64 0, .int .u64 0, .int .i64 0, .int .i64 0, .int .i64 0, .int .i64 0], Touch.refl _ _, hsg, fun e => by have := hF _ e; omega⟩ :
    In (w1.alloc (.cells #[.int .u64 v1, .int .i64 0, .int .i64 0, .int .i64 0, .int .u64 0, .int .i64 0, .int .i64 0, .int .i64 0, .int .i64 0] 32)) (w1.alloc (.cells #[.int .u64 v1, .int .i64 0, .int .i64 0, .int .i64 0, .int .u64 0, .int .i64 0, .int .i64 0, .int .i64 0, .int .i64 0] 32)) g w1.heap.size 32 F l1 b1 #[.int .u64 v1, .int .i64 0, .int .i64 0, .int .i64 0, .int .u64 0, .int .i64 0, .int .i64 0, .int .i64 0, .int .i64 0])
  have HT0 := Lib.hid (HT1.out.alloc (.cells #[.int .u64 v1, .int .i64 0, .int .i64 0, .int .i64 0, .int .u64 0, .int .i64 0, .int .i64 0, .int .i64 0, .int .i64 0] 32))
  have HB1 := Lib.hid (HB1.out.alloc (.cells #[.int .u64 v1, .int .i64 0, .int .i64 0, .int .i64 0, .int .u64 0, .int .i64 0, .int .i64 0, .int .i64 0, .int .i64 0] 32))
  have HB2 := Lib.hid (HB2.out.alloc (.cells #[.int .u64 v1, .int .i64 0, .int .i64 0, .int .i64 0, .int .u64 0, .int .i64 0, .int .i64 0, .int .i64 0, .int .i64 0] 32))
  obtain ⟨p, hp⟩ : ∃ p, p = w1.heap.size := ⟨_, rfl⟩
  have hpw : w.heap.size + 2 ≤ p := by omega
  have hpg : p ≠ g := by omega
  have hn1 : ¬ w.heap.size = p := by omega
  have hn2 : ¬ p = w.heap.size := by omega
  have hn3 : ¬ w.heap.size + 1 = p := by omega
  have hn4 : ¬ p = w.heap.size + 1 := by omega
  obtain ⟨wS, hwS⟩ : ∃ wS, wS = (w1.alloc (.cells #[.int .u64 v1, .int .i64 0, .int .i64 0, .int .i64 0, .int .u64 0, .int .i64 0, .int .i64 0, .int .i64 0, .int .i64 0] 32)) := ⟨_, rfl⟩
  rw [← hwS] at hI HT0 HB1 HB2
  rw [← hp] at hI
  have HI := Lib.hid hI
  have HWS := Lib.hid hwS
  have HP0 := Lib.hid hp
  have hx := hI.blk
  clear hI hwS hs1 hsg hp HH1 HT1 hx
  go_wp2_with fail
  rw [← HWS.out, ← HP0.out]
  clear HWS HP0
  refine (clonum_any g w.heap.size F b1 15 l1 _ (by exact HI.out.rd) (by exact HI.out.t.blk HB1.out (by rintro (e | e) <;> omega)) (by omega)).mono ?_
  rintro e w2 ⟨v2, b2, l2, hv2, hm2, rfl, h2, t2⟩
  have HV2 := Lib.hid hv2
  have HI := Lib.hid (HI.out.to h2 t2)
  clear hv2 h2 t2
  go_wp2_with fail
  refine (clonum_any g w.heap.size F b2 4 l2 _ (by exact HI.out.rd) (by exact HI.out.t.blk HB1.out (by rintro (e | e) <;> omega)) (by omega)).mono ?_
  rintro e w3 ⟨v3, b3, l3, hv3, hm3, rfl, h3, t3⟩
  have HV3 := Lib.hid hv3
  have HI := Lib.hid (HI.out.to h3 t3)
  clear hv3 h3 t3
  go_wp2_with fail
  refine (clonum_any g w.heap.size F b3 5 l3 _ (by exact HI.out.rd) (by exact HI.out.t.blk HB1.out (by rintro (e | e) <;> omega)) (by omega)).mono ?_
  rintro e w4 ⟨v4, b4, l4, hv4, hm4, rfl, h4, t4⟩
  have HV4 := Lib.hid hv4
  have HI := Lib.hid (HI.out.to h4 t4)
  clear hv4 h4 t4
  have q1 := HI.out.blk.cell 1; have f1 := HI.out.blk.frozen 1; have q2 := HI.out.blk.cell 2; have f2 := HI.out.blk.frozen 2; have q3 := HI.out.blk.cell 3; have f3 := HI.out.blk.frozen 3; simp at q1 q2 q3; have x := (HI.out.t.blk HB1.out (by rintro (e | e) <;> omega)).cell 0; simp at x
  have HI := Lib.hid (show In wS (w4.setCell ⟨p, 1, none⟩ (.int .i64 v2)) g p 32 F l4 b4 #[.int .u64 v1, .int .i64 v2, .int .i64 0, .int .i64 0, .int .u64 0, .int .i64 0, .int .i64 0, .int .i64 0, .int .i64 0] from HI.out.set 1 (.int .i64 v2))
  have HI := Lib.hid (show In wS ((w4.setCell ⟨p, 1, none⟩ (.int .i64 v2)).setCell ⟨p, 2, none⟩ (.int .i64 v3)) g p 32 F l4 b4 #[.int .u64 v1, .int .i64 v2, .int .i64 v3, .int .i64 0, .int .u64 0, .int .i64 0, .int .i64 0, .int .i64 0, .int .i64 0] from HI.out.set 2 (.int .i64 v3))
  have HI := Lib.hid (show In wS (((w4.setCell ⟨p, 1, none⟩ (.int .i64 v2)).setCell ⟨p, 2, none⟩ (.int .i64 v3)).setCell ⟨p, 3, none⟩ (.int .i64 v4)) g p 32 F l4 b4 #[.int .u64 v1, .int .i64 v2, .int .i64 v3, .int .i64 v4, .int .u64 0, .int .i64 0, .int .i64 0, .int .i64 0, .int .i64 0] from HI.out.set 3 (.int .i64 v4))
  go_wp2_with fail
  clear x q1 f1 q2 f2 q3 f3
  refine (num_st g F b4 1152921504606846976 l4 _ (by exact HI.out.rd)).mono ?_
  rintro e w5 ⟨v5, b5, l5, hv5, hm5, rfl, h5, t5⟩
  have HV5 := Lib.hid hv5
  have HI := Lib.hid (HI.out.to h5 t5)
  clear hv5 h5 t5
  have q4 := HI.out.blk.cell 4; have f4 := HI.out.blk.frozen 4; simp at q4; have x := (HI.out.t.blk HB1.out (by rintro (e | e) <;> omega)).cell 0; simp at x
  have HI := Lib.hid (show In wS (w5.setCell ⟨p, 4, none⟩ (.int .u64 v5)) g p 32 F l5 b5 #[.int .u64 v1, .int .i64 v2, .int .i64 v3, .int .i64 v4, .int .u64 v5, .int .i64 0, .int .i64 0, .int .i64 0, .int .i64 0] from HI.out.set 4 (.int .u64 v5))
  go_wp2_with fail
  clear x q4 f4
  refine (clonum_any g w.heap.size F b5 1125899906842624 l5 _ (by exact HI.out.rd) (by exact HI.out.t.blk HB1.out (by rintro (e | e) <;> omega)) (by omega)).mono ?_
  rintro e w6 ⟨v6, b6, l6, hv6, hm6, rfl, h6, t6⟩
  have HV6 := Lib.hid hv6
  have HI := Lib.hid (HI.out.to h6 t6)
  clear hv6 h6 t6
  go_wp2_with fail
  refine (clonum_any g w.heap.size F b6 1125899906842624 l6 _ (by exact HI.out.rd) (by exact HI.out.t.blk HB1.out (by rintro (e | e) <;> omega)) (by omega)).mono ?_
  rintro e w7 ⟨v7, b7, l7, hv7, hm7, rfl, h7, t7⟩
  have HV7 := Lib.hid hv7
  have HI := Lib.hid (HI.out.to h7 t7)
  clear hv7 h7 t7
  go_wp2_with fail
  refine (clonum_any g w.heap.size F b7 1125899906842624 l7 _ (by exact HI.out.rd) (by exact HI.out.t.blk HB1.out (by rintro (e | e) <;> omega)) (by omega)).mono ?_
  rintro e w8 ⟨v8, b8, l8, hv8, hm8, rfl, h8, t8⟩
  have HV8 := Lib.hid hv8
  have HI := Lib.hid (HI.out.to h8 t8)
  clear hv8 h8 t8
  have q5 := HI.out.blk.cell 5; have f5 := HI.out.blk.frozen 5; have q6 := HI.out.blk.cell 6; have f6 := HI.out.blk.frozen 6; have q7 := HI.out.blk.cell 7; have f7 := HI.out.blk.frozen 7; simp at q5 q6 q7; have x := (HI.out.t.blk HB1.out (by rintro (e | e) <;> omega)).cell 0; simp at x
  have HI := Lib.hid (show In wS (w8.setCell ⟨p, 5, none⟩ (.int .i64 v6)) g p 32 F l8 b8 #[.int .u64 v1, .int .i64 v2, .int .i64 v3, .int .i64 v4, .int .u64 v5, .int .i64 v6, .int .i64 0, .int .i64 0, .int .i64 0] from HI.out.set 5 (.int .i64 v6))
  have HI := Lib.hid (show In wS ((w8.setCell ⟨p, 5, none⟩ (.int .i64 v6)).setCell ⟨p, 6, none⟩ (.int .i64 v7)) g p 32 F l8 b8 #[.int .u64 v1, .int .i64 v2, .int .i64 v3, .int .i64 v4, .int .u64 v5, .int .i64 v6, .int .i64 v7, .int .i64 0, .int .i64 0] from HI.out.set 6 (.int .i64 v7))
  have HI := Lib.hid (show In wS (((w8.setCell ⟨p, 5, none⟩ (.int .i64 v6)).setCell ⟨p, 6, none⟩ (.int .i64 v7)).setCell ⟨p, 7, none⟩ (.int .i64 v8)) g p 32 F l8 b8 #[.int .u64 v1, .int .i64 v2, .int .i64 v3, .int .i64 v4, .int .u64 v5, .int .i64 v6, .int .i64 v7, .int .i64 v8, .int .i64 0] from HI.out.set 7 (.int .i64 v8))
  go_wp2_with fail
  clear x q5 f5 q6 f6 q7 f7
  refine (clonum_any g w.heap.size F b8 2147483648 l8 _ (by exact HI.out.rd) (by exact HI.out.t.blk HB1.out (by rintro (e | e) <;> omega)) (by omega)).mono ?_
  rintro e w9 ⟨v9, b9, l9, hv9, hm9, rfl, h9, t9⟩
  have HV9 := Lib.hid hv9
  have HI := Lib.hid (HI.out.to h9 t9)
  clear hv9 h9 t9
  have q8 := HI.out.blk.cell 8; have f8 := HI.out.blk.frozen 8; simp at q8; have x := (HI.out.t.blk HB1.out (by rintro (e | e) <;> omega)).cell 0; simp at x
  have HIp := HI
  have HI := Lib.hid (show In wS (w9.setCell ⟨p, 8, none⟩ (.int .i64 v9)) g p 32 F l9 b9 #[.int .u64 v1, .int .i64 v2, .int .i64 v3, .int .i64 v4, .int .u64 v5, .int .i64 v6, .int .i64 v7, .int .i64 v8, .int .i64 v9] from HI.out.set 8 (.int .i64 v9))

  clear f8 q8 x
  have hr : r = (⟨v1, v2, v3, v4, v5, v6, v7, v8, v9⟩, b9, l9) := by rw [HRd.out]; simp only [rdTk, HV1.out, HV2.out, HV3.out, HV4.out, HV5.out, HV6.out, HV7.out, HV8.out, HV9.out]
  subst hr
  have HT := Lib.hid (fun w1 => ttk_any (TkN.v ⟨v1, v2, v3, v4, v5, v6, v7, v8, v9⟩) w1 (by simp only [TkV.ok, TkN.v]; omega))
  have HP := Lib.hid (show ∀ b (s : Bool), tkSound (TkN.v ⟨v1, v2, v3, v4, v5, v6, v7, v8, v9⟩) = s → tkGood (⟨v1, v2, v3, v4, v5, v6, v7, v8, v9⟩, b, l9) = (!b && s) from fun b s h => by rw [tkGood, h])
  have HI9 := HI
  obtain ⟨_, A9, c9, hl9, hm9', hb9, hr9⟩ := HI9.out.rd
  have HY := Lib.hid hb9
  clear hl9 hm9' hr9 hb9
  have q0 := HIp.out.blk.cell 0; have q1 := HIp.out.blk.cell 1; have q2 := HIp.out.blk.cell 2; have q3 := HIp.out.blk.cell 3; have q4 := HIp.out.blk.cell 4; have q5 := HIp.out.blk.cell 5; have q6 := HIp.out.blk.cell 6; have q7 := HIp.out.blk.cell 7; have q8 := HIp.out.blk.cell 8; simp at q0 q1 q2 q3 q4 q5 q6 q7 q8
  have f := HIp.out.blk.frozen 8
  have hbx1 := HIp.out.t.blk HB1.out (by rintro (e | e) <;> omega); have x := hbx1.cell 0; simp at x; clear hbx1
  cases b9
  · cases hs : tkSound (TkN.v ⟨v1, v2, v3, v4, v5, v6, v7, v8, v9⟩)
    · have HG := Lib.hid (HP.out false false hs)
      rw [hs] at HT
      clear hs
      go_wp2_with (first
        | (go_at_call 22; go_must (refine (bad_any g A9 l9.length c9 false _ (by exact HY.out)).mono ?_); rintro e wz ⟨rfl, rfl⟩)
        | (go_at_call 45; go_must (refine (HT.out _).mono ?_); rintro e wa ⟨rfl, ta⟩; have hIa := HI9.out.far ta; have HIa := Lib.hid hIa; have hbx1 := hIa.t.blk HB1.out (by rintro (e | e) <;> omega); have x := hbx1.cell 0; simp at x; clear hbx1; have HYa := Lib.hid (ta.blk HY.out (fun e => e)); clear ta hIa)
        | (go_at_call 39; go_must (refine (fail_st g F l9 false _ (by exact HIa.out.rd)).mono ?_); rintro e wb ⟨rfl, hb, tb⟩; have hIb := HIa.out.to hb tb; have HIb := Lib.hid hIb; have hbx := hIb.t.blk HB2.out (by rintro (e | e) <;> omega); have d0 := hbx.cell 0; have d1 := hbx.cell 1; have d2 := hbx.cell 2; have d3 := hbx.cell 3; have d4 := hbx.cell 4; have d5 := hbx.cell 5; have d6 := hbx.cell 6; have d7 := hbx.cell 7; have d8 := hbx.cell 8; simp at d0 d1 d2 d3 d4 d5 d6 d7 d8; have f0 := hbx.frozen 0; have f1 := hbx.frozen 1; have f2 := hbx.frozen 2; have f3 := hbx.frozen 3; have f4 := hbx.frozen 4; have f5 := hbx.frozen 5; have f6 := hbx.frozen 6; have f7 := hbx.frozen 7; have f8 := hbx.frozen 8; clear hbx; clear hb tb hIb))
      exact bodyPost_ret (v := .tuple #[.agg #[.int .u64 0, .int .i64 0, .int .i64 0, .int .i64 0, .int .u64 0, .int .i64 0, .int .i64 0, .int .i64 0, .int .i64 0], .bool false]) (by simp [results, Try.results58, go_sem, d0, d1, d2, d3, d4, d5, d6, d7, d8]) rfl (TkPost.no HG.out (HIb.out.done HT0.out hg (by omega) (by omega) hF [.int .u64 0, .int .i64 0, .int .i64 0, .int .i64 0, .int .u64 0, .int .i64 0, .int .i64 0, .int .i64 0, .int .i64 0]))
    · have HG := Lib.hid (HP.out false true hs)
      rw [hs] at HT
      clear hs
      go_wp2_with (first
        | (go_at_call 22; go_must (refine (bad_any g A9 l9.length c9 false _ (by exact HY.out)).mono ?_); rintro e wz ⟨rfl, rfl⟩)
        | (go_at_call 45; go_must (refine (HT.out _).mono ?_); rintro e wa ⟨rfl, ta⟩; have hIa := HI9.out.far ta; have HIa := Lib.hid hIa; have q0 := hIa.blk.cell 0; have q1 := hIa.blk.cell 1; have q2 := hIa.blk.cell 2; have q3 := hIa.blk.cell 3; have q4 := hIa.blk.cell 4; have q5 := hIa.blk.cell 5; have q6 := hIa.blk.cell 6; have q7 := hIa.blk.cell 7; have q8 := hIa.blk.cell 8; simp at q0 q1 q2 q3 q4 q5 q6 q7 q8; have hbx := hIa.t.blk HB2.out (by rintro (e | e) <;> omega); have d0 := hbx.cell 0; have d1 := hbx.cell 1; have d2 := hbx.cell 2; have d3 := hbx.cell 3; have d4 := hbx.cell 4; have d5 := hbx.cell 5; have d6 := hbx.cell 6; have d7 := hbx.cell 7; have d8 := hbx.cell 8; simp at d0 d1 d2 d3 d4 d5 d6 d7 d8; have f0 := hbx.frozen 0; have f1 := hbx.frozen 1; have f2 := hbx.frozen 2; have f3 := hbx.frozen 3; have f4 := hbx.frozen 4; have f5 := hbx.frozen 5; have f6 := hbx.frozen 6; have f7 := hbx.frozen 7; have f8 := hbx.frozen 8; clear hbx; clear ta hIa))
      exact bodyPost_ret (v := .tuple #[.agg #[.int .u64 v1, .int .i64 v2, .int .i64 v3, .int .i64 v4, .int .u64 v5, .int .i64 v6, .int .i64 v7, .int .i64 v8, .int .i64 v9], .bool true]) (by simp [results, Try.results58, go_sem, d0, d1, d2, d3, d4, d5, d6, d7, d8]) rfl (TkPost.yes HG.out (HIa.out.done HT0.out hg (by omega) (by omega) hF [.int .u64 v1, .int .i64 v2, .int .i64 v3, .int .i64 v4, .int .u64 v5, .int .i64 v6, .int .i64 v7, .int .i64 v8, .int .i64 v9]))
  · have HG := Lib.hid (show tkGood (⟨v1, v2, v3, v4, v5, v6, v7, v8, v9⟩, true, l9) = false from rfl)
    go_wp2_with (first
      | (go_at_call 22; go_must (refine (bad_any g A9 l9.length c9 true _ (by exact HY.out)).mono ?_); rintro e wz ⟨rfl, rfl⟩)
      | (go_at_call 39; go_must (refine (fail_st g F l9 true _ (by exact HI9.out.rd)).mono ?_); rintro e wb ⟨rfl, hb, tb⟩; have hIb := HI9.out.to hb tb; have HIb := Lib.hid hIb; have hbx := hIb.t.blk HB2.out (by rintro (e | e) <;> omega); have d0 := hbx.cell 0; have d1 := hbx.cell 1; have d2 := hbx.cell 2; have d3 := hbx.cell 3; have d4 := hbx.cell 4; have d5 := hbx.cell 5; have d6 := hbx.cell 6; have d7 := hbx.cell 7; have d8 := hbx.cell 8; simp at d0 d1 d2 d3 d4 d5 d6 d7 d8; have f0 := hbx.frozen 0; have f1 := hbx.frozen 1; have f2 := hbx.frozen 2; have f3 := hbx.frozen 3; have f4 := hbx.frozen 4; have f5 := hbx.frozen 5; have f6 := hbx.frozen 6; have f7 := hbx.frozen 7; have f8 := hbx.frozen 8; clear hbx; clear hb tb hIb))
    exact bodyPost_ret (v := .tuple #[.agg #[.int .u64 0, .int .i64 0, .int .i64 0, .int .i64 0, .int .u64 0, .int .i64 0, .int .i64 0, .int .i64 0, .int .i64 0], .bool false]) (by simp [results, Try.results58, go_sem, d0, d1, d2, d3, d4, d5, d6, d7, d8]) rfl (TkPost.no HG.out (HIb.out.done HT0.out hg (by omega) (by omega) hF [.int .u64 0, .int .i64 0, .int .i64 0, .int .i64 0, .int .u64 0, .int .i64 0, .int .i64 0, .int .i64 0, .int .i64 0]))
end Go.Proofs.Ytmgmjehebbggaaa
