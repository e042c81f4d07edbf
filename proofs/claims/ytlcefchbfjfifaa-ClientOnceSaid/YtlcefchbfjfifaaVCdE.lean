/- command.Sound. (written by gencdc.py) -/
import Derived.Test.YtlcefchbfjfifaaVCdC
import Derived.Test.YtlcefchbfjfifaaVCalW
namespace Go.Proofs.Ytlcefchbfjfifaa
open Go.RowKit Cal
set_option maxHeartbeats 4000000
set_option maxRecDepth 100000
set_option linter.unusedVariables false
attribute [local irreducible] wpPlan

theorem rowCm : RowT 35 13 := ⟨⟨_, Try.underlying35, rfl⟩, by kernel_rfl⟩
theorem rowFl : RowT 104 5 := ⟨⟨_, Try.underlying104, rfl⟩, by kernel_rfl⟩
theorem cmsound_any (F : Nat → Prop) (A B D : Option Addr) (k m n : Nat) (c : Cm) (w : World) (hr : CmR w F c A B D) (h1 : c.cal.wk.length ≤ 1000000) (h2 : c.cal.cl.length ≤ 1000000) (h3 : c.tm.lv.length ≤ 1000000)
    (ha : -9223372036854775808 ≤ c.at_ ∧ c.at_ ≤ 9223372036854775807) :
    Calls Try.prog 42 #[.agg #[.int .i64 c.kind, .int .u64 c.client, .int .u64 c.req, .int .u64 c.id, .int .i64 c.con, .int .i64 c.at_, .int .i64 c.cal.off, .slice A c.cal.wk.length k, .slice B c.cal.cl.length m, .int .i64 c.tm.cal, .slice D c.tm.lv.length n, .int .i64 c.tm.rt, .int .i64 c.tm.bk]] w fun e w' => e = .returned (.bool (cmSound c)) ∧ Touch (fun _ => False) w w' := by
  have HV := Lib.hid (show cmSound c = (named c.kind && decide (c.client ≤ 8) && sameCm (kept c) c && (bif fcal c.kind then decide (checkE c.cal = 0) else bif ftm c.kind then goodB c.tm else (decide (0 ≤ c.con) && decide (c.con < 16)))) from rfl)
  have HT0 := Lib.hid ((Touch.refl (fun _ => False) w).alloc (.cells #[.int .i64 c.kind, .int .u64 c.client, .int .u64 c.req, .int .u64 c.id, .int .i64 c.con, .int .i64 c.at_, .int .i64 c.cal.off, .slice A c.cal.wk.length k, .slice B c.cal.cl.length m, .int .i64 c.tm.cal, .slice D c.tm.lv.length n, .int .i64 c.tm.rt, .int .i64 c.tm.bk] 35))
  have HB0 := Lib.hid (Blk.new w 35 #[.int .i64 c.kind, .int .u64 c.client, .int .u64 c.req, .int .u64 c.id, .int .i64 c.con, .int .i64 c.at_, .int .i64 c.cal.off, .slice A c.cal.wk.length k, .slice B c.cal.cl.length m, .int .i64 c.tm.cal, .slice D c.tm.lv.length n, .int .i64 c.tm.rt, .int .i64 c.tm.bk])
  have HR := Lib.hid hr
  have hKa : -9223372036854775808 ≤ (kept c).at_ ∧ (kept c).at_ ≤ 9223372036854775807 := by
    show -9223372036854775808 ≤ (bif fat c.kind then c.at_ else 0) ∧ (bif fat c.kind then c.at_ else 0) ≤ 9223372036854775807
    cases fat c.kind
    · exact ⟨by simp, by simp⟩
    · exact ha
  have hk1 : (kept c).cal.wk.length ≤ 1000000 := by
    show (bif fcal c.kind then c.cal else caZ).wk.length ≤ _
    cases fcal c.kind
    · exact Nat.zero_le _
    · exact h1
  have hk2 : (kept c).cal.cl.length ≤ 1000000 := by
    show (bif fcal c.kind then c.cal else caZ).cl.length ≤ _
    cases fcal c.kind
    · exact Nat.zero_le _
    · exact h2
  have hk3 : (kept c).tm.lv.length ≤ 1000000 := by
    show (bif ftm c.kind then c.tm else coZ).lv.length ≤ _
    cases ftm c.kind
    · exact Nat.zero_le _
    · exact h3
  have HO := Lib.hid (fun w1 hn => only_any c A B D k m n w1 hn)
  have HS := Lib.hid (fun A' B' D' k' m' n' w1 hr hr' => cmsame_any F F A' B' D' A B D k' m' n' k m n (kept c) c w1 hr hr' hk1 hk2 hk3 hKa ha)
  have HCk := Lib.hid (fun w1 hr => ccheck_any F A B k m c.cal w1 hr h1 h2)
  have HGd := Lib.hid (fun w1 hr => kcheck_any F D n c.tm w1 hr)
  have HOf := Lib.hid (fun w1 => of_any c.kind w1)
  have HGE := Lib.hid (show goodE c.tm = if goodB c.tm = true then 0 else 2 from rfl)
  generalize goodE c.tm = ge at *
  generalize fid c.kind = f1 at *
  generalize fcal c.kind = f2 at *
  generalize ftm c.kind = f3 at *
  generalize fcon c.kind = f4 at *
  generalize fat c.kind = f5 at *
  generalize checkE c.cal = ck at *
  generalize goodB c.tm = gb at *
  generalize hsm : sameCm (kept c) c = sm at *
  unfold OnlyPost at HO
  generalize kept c = kc at *
  clear hsm hk1 hk2 hk3 hKa h1 h2 h3 ha
  obtain ⟨kd, cl, rq, i, cn, at_, ⟨of, wk, cs⟩, ⟨tc, lv, rt, bk⟩⟩ := c
  simp only at *
  generalize cmSound _ = v at *
  cases hn : named kd
  · have HV2 := Lib.hid (show v = false by rw [HV.out, hn]; rfl)
    rw [hn] at HOf
    clear HV HO HS HCk HGd hn HGE
    go_enter Try.func42, Try.ntmps42
    go_wp2_with (first | (go_at_call 43; go_must (refine (HOf.out _).mono ?_); rintro e w1 ⟨rfl, t1⟩; have HT1 := Lib.hid (HT0.out.trans t1 (fun _ _ e => e)); have HB1 := Lib.hid (t1.blk HB0.out (fun e => e)); clear t1))
    have HTd := Lib.hid (show Touch (fun _ => False) w (w1.alloc (.cells #[.bool f1, .bool f2, .bool f3, .bool f4, .bool f5] 104)).drew from (HT1.out.alloc _).drew)
    have HBd := Lib.hid (show Blk (w1.alloc (.cells #[.bool f1, .bool f2, .bool f3, .bool f4, .bool f5] 104)).drew w.heap.size 35 #[.int .i64 kd, .int .u64 (cl : Int), .int .u64 (rq : Int), .int .u64 (i : Int), .int .i64 cn, .int .i64 at_, .int .i64 of, .slice A wk.length k, .slice B cs.length m, .int .i64 tc, .slice D lv.length n, .int .i64 rt, .int .i64 bk] from (Touch.refl (fun _ => False) _).drew.blk (HB1.out.alloc _) (fun e => e))
    have HFd := Lib.hid (show Blk (w1.alloc (.cells #[.bool f1, .bool f2, .bool f3, .bool f4, .bool f5] 104)).drew w1.heap.size 104 #[.bool f1, .bool f2, .bool f3, .bool f4, .bool f5] from (Touch.refl (fun _ => False) _).drew.blk (Blk.new _ _ _) (fun e => e))
    have hbd := HBd.out
    have x0 := hbd.cell 0; have x1 := hbd.cell 1; simp at x0 x1
    clear hbd
    refine wp_region_plan [(0, 0), (0, 1), (0, 2), (0, 3), (0, 4), (0, 5), (0, 6), (0, 7), (1, 8), (1, 9), (1, 11), (2, 10), (2, 12), (0, 13), (0, 14), (0, 15)] (fun _ => False) (by kernel_rfl) (by kernel_rfl) (fun c a d v w h => by cases d <;> exact h) ?_
    iterate 8
      refine plan_s rfl fun Kc hKc => ?_
      go_simp
      first
        | (refine hKc _ ?_)
      clear hKc Kc
    iterate 3
      refine plan_hn rfl (by rfl) ?_
      go_frame
    refine plan_a rfl fun Kc hKc => ?_
    go_simp
    refine hKc _ _ ⟨Touch.refl _ _, ?_⟩
    clear hKc Kc
    refine plan_a rfl fun Kc hKc => ?_
    go_simp
    refine hKc _ _ ⟨Touch.refl _ _, ?_⟩
    clear hKc Kc
    iterate 3
      refine plan_s rfl fun Kc hKc => ?_
      go_simp
      first
        | (refine hKc _ ?_)
      clear hKc Kc
    refine plan_done ?_
    go_wp2
    go_ret
    exact ⟨ret_bool HV2.out.symm, HTd.out⟩
  rw [hn] at HOf
  by_cases hcl : 8 < cl
  · have HV2 := Lib.hid (show v = false by rw [HV.out, hn]; simp; intro h; omega)
    have hcg : decide (8 < cl) = true := by simpa using hcl
    have hcg2 : decide ((8 : Int) < (cl : Int)) = true := by simp; omega
    clear HV HO HS HCk HGd hn HGE hcl
    go_enter Try.func42, Try.ntmps42
    go_wp2_with (first | (go_at_call 43; go_must (refine (HOf.out _).mono ?_); rintro e w1 ⟨rfl, t1⟩; have HT1 := Lib.hid (HT0.out.trans t1 (fun _ _ e => e)); have HB1 := Lib.hid (t1.blk HB0.out (fun e => e)); clear t1))
    have HTd := Lib.hid (show Touch (fun _ => False) w (w1.alloc (.cells #[.bool f1, .bool f2, .bool f3, .bool f4, .bool f5] 104)).drew from (HT1.out.alloc _).drew)
    have HBd := Lib.hid (show Blk (w1.alloc (.cells #[.bool f1, .bool f2, .bool f3, .bool f4, .bool f5] 104)).drew w.heap.size 35 #[.int .i64 kd, .int .u64 (cl : Int), .int .u64 (rq : Int), .int .u64 (i : Int), .int .i64 cn, .int .i64 at_, .int .i64 of, .slice A wk.length k, .slice B cs.length m, .int .i64 tc, .slice D lv.length n, .int .i64 rt, .int .i64 bk] from (Touch.refl (fun _ => False) _).drew.blk (HB1.out.alloc _) (fun e => e))
    have HFd := Lib.hid (show Blk (w1.alloc (.cells #[.bool f1, .bool f2, .bool f3, .bool f4, .bool f5] 104)).drew w1.heap.size 104 #[.bool f1, .bool f2, .bool f3, .bool f4, .bool f5] from (Touch.refl (fun _ => False) _).drew.blk (Blk.new _ _ _) (fun e => e))
    have hbd := HBd.out
    have x0 := hbd.cell 0; have x1 := hbd.cell 1; simp at x0 x1
    clear hbd
    refine wp_region_plan [(0, 0), (0, 1), (0, 2), (0, 3), (0, 4), (0, 5), (0, 6), (0, 7), (1, 8), (1, 9), (1, 11), (2, 10), (2, 12), (0, 13), (0, 14), (0, 15)] (fun _ => False) (by kernel_rfl) (by kernel_rfl) (fun c a d v w h => by cases d <;> exact h) ?_
    iterate 8
      refine plan_s rfl fun Kc hKc => ?_
      go_simp
      first
        | (refine hKc _ ?_)
      clear hKc Kc
    iterate 3
      refine plan_hn rfl (by rfl) ?_
      go_frame
    refine plan_a rfl fun Kc hKc => ?_
    go_simp
    refine hKc _ _ ⟨Touch.refl _ _, ?_⟩
    clear hKc Kc
    refine plan_a rfl fun Kc hKc => ?_
    go_simp
    refine hKc _ _ ⟨Touch.refl _ _, ?_⟩
    clear hKc Kc
    iterate 3
      refine plan_s rfl fun Kc hKc => ?_
      go_simp
      first
        | (refine hKc _ ?_)
      clear hKc Kc
    refine plan_done ?_
    go_wp2
    go_ret
    exact ⟨ret_bool HV2.out.symm, HTd.out⟩
  have hcg : decide (8 < cl) = false := by simpa using hcl
  have hcg2 : decide ((8 : Int) < (cl : Int)) = false := by simp; omega
  have HO1 := Lib.hid (fun w1 => HO.out w1 hn)
  have hc8 : decide (cl ≤ 8) = true := by simpa using hcl
  rw [hn, hc8, Bool.true_and, Bool.true_and] at HV
  clear HO hn hc8
  cases sm
  · have HV2 := Lib.hid (show v = false by rw [HV.out]; rfl)
    clear HV HCk HGd HGE
    go_enter Try.func42, Try.ntmps42
    go_wp2_with (first | (go_at_call 43; go_must (refine (HOf.out _).mono ?_); rintro e w1 ⟨rfl, t1⟩; have HT1 := Lib.hid (HT0.out.trans t1 (fun _ _ e => e)); have HB1 := Lib.hid (t1.blk HB0.out (fun e => e)); clear t1))
    have HTd := Lib.hid (show Touch (fun _ => False) w (w1.alloc (.cells #[.bool f1, .bool f2, .bool f3, .bool f4, .bool f5] 104)).drew from (HT1.out.alloc _).drew)
    have HBd := Lib.hid (show Blk (w1.alloc (.cells #[.bool f1, .bool f2, .bool f3, .bool f4, .bool f5] 104)).drew w.heap.size 35 #[.int .i64 kd, .int .u64 (cl : Int), .int .u64 (rq : Int), .int .u64 (i : Int), .int .i64 cn, .int .i64 at_, .int .i64 of, .slice A wk.length k, .slice B cs.length m, .int .i64 tc, .slice D lv.length n, .int .i64 rt, .int .i64 bk] from (Touch.refl (fun _ => False) _).drew.blk (HB1.out.alloc _) (fun e => e))
    have HFd := Lib.hid (show Blk (w1.alloc (.cells #[.bool f1, .bool f2, .bool f3, .bool f4, .bool f5] 104)).drew w1.heap.size 104 #[.bool f1, .bool f2, .bool f3, .bool f4, .bool f5] from (Touch.refl (fun _ => False) _).drew.blk (Blk.new _ _ _) (fun e => e))
    have hbd := HBd.out
    have x0 := hbd.cell 0; have x1 := hbd.cell 1; simp at x0 x1
    clear hbd
    refine wp_region_plan [(0, 0), (0, 1), (0, 2), (0, 3), (0, 4), (0, 5), (0, 6), (0, 7), (1, 8), (1, 9), (1, 11), (2, 10), (2, 12), (0, 13), (0, 14), (0, 15)] (fun _ => False) (by kernel_rfl) (by kernel_rfl) (fun c a d v w h => by cases d <;> exact h) ?_
    iterate 8
      refine plan_s1 rfl (by rfl) (fun Kc hKc => ?_)
      go_simp
      first
        | (refine hKc _ ?_)
      clear hKc Kc
    refine plan_hC rowCm rfl _ rfl rfl w.heap.size 0 rfl #[.int .i64 kd, .int .u64 (cl : Int), .int .u64 (rq : Int), .int .u64 (i : Int), .int .i64 cn, .int .i64 at_, .int .i64 of, .slice A wk.length k, .slice B cs.length m, .int .i64 tc, .slice D lv.length n, .int .i64 rt, .int .i64 bk] rfl (fun wh hT => (hT.blk HBd.out (fun e => e)).whole) ?_
    go_frame
    refine plan_hC rowFl rfl _ rfl rfl w1.heap.size 0 rfl #[.bool f1, .bool f2, .bool f3, .bool f4, .bool f5] rfl (fun wh hT => (hT.blk HFd.out (fun e => e)).whole) ?_
    go_frame
    refine plan_hC rowCm rfl _ rfl rfl w.heap.size 0 rfl #[.int .i64 kd, .int .u64 (cl : Int), .int .u64 (rq : Int), .int .u64 (i : Int), .int .i64 cn, .int .i64 at_, .int .i64 of, .slice A wk.length k, .slice B cs.length m, .int .i64 tc, .slice D lv.length n, .int .i64 rt, .int .i64 bk] rfl (fun wh hT => (hT.blk HBd.out (fun e => e)).whole) ?_
    go_frame
    refine plan_a1 rfl (by rfl) (fun Kc hKc => ?_)
    go_simp
    refine (HO1.out _).mono ?_
    rintro e w3 ⟨⟨A', B', D', k', m', n', rfl, hkr⟩, t3⟩
    have HKr := Lib.hid hkr
    have HT3 := Lib.hid (HTd.out.trans t3 (fun _ _ e => e))
    have HB3 := Lib.hid (t3.blk HBd.out (fun e => e))
    have HF3 := Lib.hid (t3.blk HFd.out (fun e => e))
    refine hKc _ _ ⟨t3, ?_⟩
    clear hKc Kc
    clear t3 hkr
    refine plan_a1 rfl (by rfl) (fun Kc hKc => ?_)
    go_simp
    refine (HS.out A' B' D' k' m' n' _ (by exact HKr.out _ _ (HR.out.touch HT3.out (fun _ _ e => e))) (by exact HR.out.touch HT3.out (fun _ _ e => e))).mono ?_
    rintro e w4 ⟨rfl, t4⟩
    have HT4 := Lib.hid (HT3.out.trans t4 (fun _ _ e => e))
    have HB4 := Lib.hid (t4.blk HB3.out (fun e => e))
    have HF4 := Lib.hid (t4.blk HF3.out (fun e => e))
    refine hKc _ _ ⟨t4, ?_⟩
    clear hKc Kc
    clear t4 x0 x1
    iterate 3
      refine plan_s1 rfl (by rfl) (fun Kc hKc => ?_)
      go_simp
      first
        | (refine hKc _ ?_)
      clear hKc Kc
    refine plan_done ?_
    have hb4 := HB4.out
    have x0 := hb4.cell 0; have x1 := hb4.cell 1; have x2 := hb4.cell 2; have x3 := hb4.cell 3; have x4 := hb4.cell 4; have x5 := hb4.cell 5; have x6 := hb4.cell 6; have x7 := hb4.cell 7; have x8 := hb4.cell 8; have x9 := hb4.cell 9; have x10 := hb4.cell 10; have x11 := hb4.cell 11; have x12 := hb4.cell 12; simp at x0 x1 x2 x3 x4 x5 x6 x7 x8 x9 x10 x11 x12
    have hf4 := HF4.out
    have y0 := hf4.cell 0; have y1 := hf4.cell 1; have y2 := hf4.cell 2; have y3 := hf4.cell 3; have y4 := hf4.cell 4; simp at y0 y1 y2 y3 y4
    clear hf4
    clear hb4
    go_wp2
    go_ret
    exact ⟨ret_bool HV2.out.symm, HT4.out⟩
  rw [Bool.true_and] at HV
  cases f2
  rotate_left
  · have HV2 := Lib.hid (show v = (ck == 0) by rw [HV.out]; rfl)
    clear HV HGd HGE
    go_enter Try.func42, Try.ntmps42
    go_wp2_with (first | (go_at_call 43; go_must (refine (HOf.out _).mono ?_); rintro e w1 ⟨rfl, t1⟩; have HT1 := Lib.hid (HT0.out.trans t1 (fun _ _ e => e)); have HB1 := Lib.hid (t1.blk HB0.out (fun e => e)); clear t1))
    have HTd := Lib.hid (show Touch (fun _ => False) w (w1.alloc (.cells #[.bool f1, .bool true, .bool f3, .bool f4, .bool f5] 104)).drew from (HT1.out.alloc _).drew)
    have HBd := Lib.hid (show Blk (w1.alloc (.cells #[.bool f1, .bool true, .bool f3, .bool f4, .bool f5] 104)).drew w.heap.size 35 #[.int .i64 kd, .int .u64 (cl : Int), .int .u64 (rq : Int), .int .u64 (i : Int), .int .i64 cn, .int .i64 at_, .int .i64 of, .slice A wk.length k, .slice B cs.length m, .int .i64 tc, .slice D lv.length n, .int .i64 rt, .int .i64 bk] from (Touch.refl (fun _ => False) _).drew.blk (HB1.out.alloc _) (fun e => e))
    have HFd := Lib.hid (show Blk (w1.alloc (.cells #[.bool f1, .bool true, .bool f3, .bool f4, .bool f5] 104)).drew w1.heap.size 104 #[.bool f1, .bool true, .bool f3, .bool f4, .bool f5] from (Touch.refl (fun _ => False) _).drew.blk (Blk.new _ _ _) (fun e => e))
    have hbd := HBd.out
    have x0 := hbd.cell 0; have x1 := hbd.cell 1; simp at x0 x1
    clear hbd
    refine wp_region_plan [(0, 0), (0, 1), (0, 2), (0, 3), (0, 4), (0, 5), (0, 6), (0, 7), (1, 8), (1, 9), (1, 11), (2, 10), (2, 12), (0, 13), (0, 14), (0, 15)] (fun _ => False) (by kernel_rfl) (by kernel_rfl) (fun c a d v w h => by cases d <;> exact h) ?_
    iterate 8
      refine plan_s1 rfl (by rfl) (fun Kc hKc => ?_)
      go_simp
      first
        | (refine hKc _ ?_)
      clear hKc Kc
    refine plan_hC rowCm rfl _ rfl rfl w.heap.size 0 rfl #[.int .i64 kd, .int .u64 (cl : Int), .int .u64 (rq : Int), .int .u64 (i : Int), .int .i64 cn, .int .i64 at_, .int .i64 of, .slice A wk.length k, .slice B cs.length m, .int .i64 tc, .slice D lv.length n, .int .i64 rt, .int .i64 bk] rfl (fun wh hT => (hT.blk HBd.out (fun e => e)).whole) ?_
    go_frame
    refine plan_hC rowFl rfl _ rfl rfl w1.heap.size 0 rfl #[.bool f1, .bool true, .bool f3, .bool f4, .bool f5] rfl (fun wh hT => (hT.blk HFd.out (fun e => e)).whole) ?_
    go_frame
    refine plan_hC rowCm rfl _ rfl rfl w.heap.size 0 rfl #[.int .i64 kd, .int .u64 (cl : Int), .int .u64 (rq : Int), .int .u64 (i : Int), .int .i64 cn, .int .i64 at_, .int .i64 of, .slice A wk.length k, .slice B cs.length m, .int .i64 tc, .slice D lv.length n, .int .i64 rt, .int .i64 bk] rfl (fun wh hT => (hT.blk HBd.out (fun e => e)).whole) ?_
    go_frame
    refine plan_a1 rfl (by rfl) (fun Kc hKc => ?_)
    go_simp
    refine (HO1.out _).mono ?_
    rintro e w3 ⟨⟨A', B', D', k', m', n', rfl, hkr⟩, t3⟩
    have HKr := Lib.hid hkr
    have HT3 := Lib.hid (HTd.out.trans t3 (fun _ _ e => e))
    have HB3 := Lib.hid (t3.blk HBd.out (fun e => e))
    have HF3 := Lib.hid (t3.blk HFd.out (fun e => e))
    refine hKc _ _ ⟨t3, ?_⟩
    clear hKc Kc
    clear t3 hkr
    refine plan_a1 rfl (by rfl) (fun Kc hKc => ?_)
    go_simp
    refine (HS.out A' B' D' k' m' n' _ (by exact HKr.out _ _ (HR.out.touch HT3.out (fun _ _ e => e))) (by exact HR.out.touch HT3.out (fun _ _ e => e))).mono ?_
    rintro e w4 ⟨rfl, t4⟩
    have HT4 := Lib.hid (HT3.out.trans t4 (fun _ _ e => e))
    have HB4 := Lib.hid (t4.blk HB3.out (fun e => e))
    have HF4 := Lib.hid (t4.blk HF3.out (fun e => e))
    refine hKc _ _ ⟨t4, ?_⟩
    clear hKc Kc
    clear t4 x0 x1
    iterate 3
      refine plan_s1 rfl (by rfl) (fun Kc hKc => ?_)
      go_simp
      first
        | (refine hKc _ ?_)
      clear hKc Kc
    refine plan_done ?_
    have hb4 := HB4.out
    have x0 := hb4.cell 0; have x1 := hb4.cell 1; have x2 := hb4.cell 2; have x3 := hb4.cell 3; have x4 := hb4.cell 4; have x5 := hb4.cell 5; have x6 := hb4.cell 6; have x7 := hb4.cell 7; have x8 := hb4.cell 8; have x9 := hb4.cell 9; have x10 := hb4.cell 10; have x11 := hb4.cell 11; have x12 := hb4.cell 12; simp at x0 x1 x2 x3 x4 x5 x6 x7 x8 x9 x10 x11 x12
    have hf4 := HF4.out
    have y0 := hf4.cell 0; have y1 := hf4.cell 1; have y2 := hf4.cell 2; have y3 := hf4.cell 3; have y4 := hf4.cell 4; simp at y0 y1 y2 y3 y4
    clear hf4
    clear hb4
    go_wp2_with (go_at_call 66; go_must (refine (HCk.out _ (by exact HR.out.cal.touch HT4.out (fun _ _ e => e))).mono ?_); rintro e w5 ⟨rfl, t5⟩; have HT5 := Lib.hid (HT4.out.trans t5 (fun _ _ e => e)); clear t5)
    go_ret
    exact ⟨ret_bool HV2.out.symm, HT5.out⟩
  cases f3
  rotate_left
  · have HV2 := Lib.hid (show v = (ge == 0) by rw [HV.out, HGE.out]; cases gb <;> rfl)
    clear HV HCk HGE
    go_enter Try.func42, Try.ntmps42
    go_wp2_with (first | (go_at_call 43; go_must (refine (HOf.out _).mono ?_); rintro e w1 ⟨rfl, t1⟩; have HT1 := Lib.hid (HT0.out.trans t1 (fun _ _ e => e)); have HB1 := Lib.hid (t1.blk HB0.out (fun e => e)); clear t1))
    have HTd := Lib.hid (show Touch (fun _ => False) w (w1.alloc (.cells #[.bool f1, .bool false, .bool true, .bool f4, .bool f5] 104)).drew from (HT1.out.alloc _).drew)
    have HBd := Lib.hid (show Blk (w1.alloc (.cells #[.bool f1, .bool false, .bool true, .bool f4, .bool f5] 104)).drew w.heap.size 35 #[.int .i64 kd, .int .u64 (cl : Int), .int .u64 (rq : Int), .int .u64 (i : Int), .int .i64 cn, .int .i64 at_, .int .i64 of, .slice A wk.length k, .slice B cs.length m, .int .i64 tc, .slice D lv.length n, .int .i64 rt, .int .i64 bk] from (Touch.refl (fun _ => False) _).drew.blk (HB1.out.alloc _) (fun e => e))
    have HFd := Lib.hid (show Blk (w1.alloc (.cells #[.bool f1, .bool false, .bool true, .bool f4, .bool f5] 104)).drew w1.heap.size 104 #[.bool f1, .bool false, .bool true, .bool f4, .bool f5] from (Touch.refl (fun _ => False) _).drew.blk (Blk.new _ _ _) (fun e => e))
    have hbd := HBd.out
    have x0 := hbd.cell 0; have x1 := hbd.cell 1; simp at x0 x1
    clear hbd
    refine wp_region_plan [(0, 0), (0, 1), (0, 2), (0, 3), (0, 4), (0, 5), (0, 6), (0, 7), (1, 8), (1, 9), (1, 11), (2, 10), (2, 12), (0, 13), (0, 14), (0, 15)] (fun _ => False) (by kernel_rfl) (by kernel_rfl) (fun c a d v w h => by cases d <;> exact h) ?_
    iterate 8
      refine plan_s1 rfl (by rfl) (fun Kc hKc => ?_)
      go_simp
      first
        | (refine hKc _ ?_)
      clear hKc Kc
    refine plan_hC rowCm rfl _ rfl rfl w.heap.size 0 rfl #[.int .i64 kd, .int .u64 (cl : Int), .int .u64 (rq : Int), .int .u64 (i : Int), .int .i64 cn, .int .i64 at_, .int .i64 of, .slice A wk.length k, .slice B cs.length m, .int .i64 tc, .slice D lv.length n, .int .i64 rt, .int .i64 bk] rfl (fun wh hT => (hT.blk HBd.out (fun e => e)).whole) ?_
    go_frame
    refine plan_hC rowFl rfl _ rfl rfl w1.heap.size 0 rfl #[.bool f1, .bool false, .bool true, .bool f4, .bool f5] rfl (fun wh hT => (hT.blk HFd.out (fun e => e)).whole) ?_
    go_frame
    refine plan_hC rowCm rfl _ rfl rfl w.heap.size 0 rfl #[.int .i64 kd, .int .u64 (cl : Int), .int .u64 (rq : Int), .int .u64 (i : Int), .int .i64 cn, .int .i64 at_, .int .i64 of, .slice A wk.length k, .slice B cs.length m, .int .i64 tc, .slice D lv.length n, .int .i64 rt, .int .i64 bk] rfl (fun wh hT => (hT.blk HBd.out (fun e => e)).whole) ?_
    go_frame
    refine plan_a1 rfl (by rfl) (fun Kc hKc => ?_)
    go_simp
    refine (HO1.out _).mono ?_
    rintro e w3 ⟨⟨A', B', D', k', m', n', rfl, hkr⟩, t3⟩
    have HKr := Lib.hid hkr
    have HT3 := Lib.hid (HTd.out.trans t3 (fun _ _ e => e))
    have HB3 := Lib.hid (t3.blk HBd.out (fun e => e))
    have HF3 := Lib.hid (t3.blk HFd.out (fun e => e))
    refine hKc _ _ ⟨t3, ?_⟩
    clear hKc Kc
    clear t3 hkr
    refine plan_a1 rfl (by rfl) (fun Kc hKc => ?_)
    go_simp
    refine (HS.out A' B' D' k' m' n' _ (by exact HKr.out _ _ (HR.out.touch HT3.out (fun _ _ e => e))) (by exact HR.out.touch HT3.out (fun _ _ e => e))).mono ?_
    rintro e w4 ⟨rfl, t4⟩
    have HT4 := Lib.hid (HT3.out.trans t4 (fun _ _ e => e))
    have HB4 := Lib.hid (t4.blk HB3.out (fun e => e))
    have HF4 := Lib.hid (t4.blk HF3.out (fun e => e))
    refine hKc _ _ ⟨t4, ?_⟩
    clear hKc Kc
    clear t4 x0 x1
    iterate 3
      refine plan_s1 rfl (by rfl) (fun Kc hKc => ?_)
      go_simp
      first
        | (refine hKc _ ?_)
      clear hKc Kc
    refine plan_done ?_
    have hb4 := HB4.out
    have x0 := hb4.cell 0; have x1 := hb4.cell 1; have x2 := hb4.cell 2; have x3 := hb4.cell 3; have x4 := hb4.cell 4; have x5 := hb4.cell 5; have x6 := hb4.cell 6; have x7 := hb4.cell 7; have x8 := hb4.cell 8; have x9 := hb4.cell 9; have x10 := hb4.cell 10; have x11 := hb4.cell 11; have x12 := hb4.cell 12; simp at x0 x1 x2 x3 x4 x5 x6 x7 x8 x9 x10 x11 x12
    have hf4 := HF4.out
    have y0 := hf4.cell 0; have y1 := hf4.cell 1; have y2 := hf4.cell 2; have y3 := hf4.cell 3; have y4 := hf4.cell 4; simp at y0 y1 y2 y3 y4
    clear hf4
    clear hb4
    go_wp2_with (go_at_call 67; go_must (refine (HGd.out _ (by exact HR.out.tm.touch HT4.out (fun _ _ e => e))).mono ?_); rintro e w5 ⟨rfl, t5⟩; have HT5 := Lib.hid (HT4.out.trans t5 (fun _ _ e => e)); clear t5)
    go_ret
    exact ⟨ret_bool HV2.out.symm, HT5.out⟩
  by_cases hc0 : cn < 0
  · have HV2 := Lib.hid (show v = false by rw [HV.out]; simp; omega)
    have hc1 : ¬ (0 : Int) ≤ cn := by omega
    clear HV HCk HGd HGE
    go_enter Try.func42, Try.ntmps42
    go_wp2_with (first | (go_at_call 43; go_must (refine (HOf.out _).mono ?_); rintro e w1 ⟨rfl, t1⟩; have HT1 := Lib.hid (HT0.out.trans t1 (fun _ _ e => e)); have HB1 := Lib.hid (t1.blk HB0.out (fun e => e)); clear t1))
    have HTd := Lib.hid (show Touch (fun _ => False) w (w1.alloc (.cells #[.bool f1, .bool false, .bool false, .bool f4, .bool f5] 104)).drew from (HT1.out.alloc _).drew)
    have HBd := Lib.hid (show Blk (w1.alloc (.cells #[.bool f1, .bool false, .bool false, .bool f4, .bool f5] 104)).drew w.heap.size 35 #[.int .i64 kd, .int .u64 (cl : Int), .int .u64 (rq : Int), .int .u64 (i : Int), .int .i64 cn, .int .i64 at_, .int .i64 of, .slice A wk.length k, .slice B cs.length m, .int .i64 tc, .slice D lv.length n, .int .i64 rt, .int .i64 bk] from (Touch.refl (fun _ => False) _).drew.blk (HB1.out.alloc _) (fun e => e))
    have HFd := Lib.hid (show Blk (w1.alloc (.cells #[.bool f1, .bool false, .bool false, .bool f4, .bool f5] 104)).drew w1.heap.size 104 #[.bool f1, .bool false, .bool false, .bool f4, .bool f5] from (Touch.refl (fun _ => False) _).drew.blk (Blk.new _ _ _) (fun e => e))
    have hbd := HBd.out
    have x0 := hbd.cell 0; have x1 := hbd.cell 1; simp at x0 x1
    clear hbd
    refine wp_region_plan [(0, 0), (0, 1), (0, 2), (0, 3), (0, 4), (0, 5), (0, 6), (0, 7), (1, 8), (1, 9), (1, 11), (2, 10), (2, 12), (0, 13), (0, 14), (0, 15)] (fun _ => False) (by kernel_rfl) (by kernel_rfl) (fun c a d v w h => by cases d <;> exact h) ?_
    iterate 8
      refine plan_s1 rfl (by rfl) (fun Kc hKc => ?_)
      go_simp
      first
        | (refine hKc _ ?_)
      clear hKc Kc
    refine plan_hC rowCm rfl _ rfl rfl w.heap.size 0 rfl #[.int .i64 kd, .int .u64 (cl : Int), .int .u64 (rq : Int), .int .u64 (i : Int), .int .i64 cn, .int .i64 at_, .int .i64 of, .slice A wk.length k, .slice B cs.length m, .int .i64 tc, .slice D lv.length n, .int .i64 rt, .int .i64 bk] rfl (fun wh hT => (hT.blk HBd.out (fun e => e)).whole) ?_
    go_frame
    refine plan_hC rowFl rfl _ rfl rfl w1.heap.size 0 rfl #[.bool f1, .bool false, .bool false, .bool f4, .bool f5] rfl (fun wh hT => (hT.blk HFd.out (fun e => e)).whole) ?_
    go_frame
    refine plan_hC rowCm rfl _ rfl rfl w.heap.size 0 rfl #[.int .i64 kd, .int .u64 (cl : Int), .int .u64 (rq : Int), .int .u64 (i : Int), .int .i64 cn, .int .i64 at_, .int .i64 of, .slice A wk.length k, .slice B cs.length m, .int .i64 tc, .slice D lv.length n, .int .i64 rt, .int .i64 bk] rfl (fun wh hT => (hT.blk HBd.out (fun e => e)).whole) ?_
    go_frame
    refine plan_a1 rfl (by rfl) (fun Kc hKc => ?_)
    go_simp
    refine (HO1.out _).mono ?_
    rintro e w3 ⟨⟨A', B', D', k', m', n', rfl, hkr⟩, t3⟩
    have HKr := Lib.hid hkr
    have HT3 := Lib.hid (HTd.out.trans t3 (fun _ _ e => e))
    have HB3 := Lib.hid (t3.blk HBd.out (fun e => e))
    have HF3 := Lib.hid (t3.blk HFd.out (fun e => e))
    refine hKc _ _ ⟨t3, ?_⟩
    clear hKc Kc
    clear t3 hkr
    refine plan_a1 rfl (by rfl) (fun Kc hKc => ?_)
    go_simp
    refine (HS.out A' B' D' k' m' n' _ (by exact HKr.out _ _ (HR.out.touch HT3.out (fun _ _ e => e))) (by exact HR.out.touch HT3.out (fun _ _ e => e))).mono ?_
    rintro e w4 ⟨rfl, t4⟩
    have HT4 := Lib.hid (HT3.out.trans t4 (fun _ _ e => e))
    have HB4 := Lib.hid (t4.blk HB3.out (fun e => e))
    have HF4 := Lib.hid (t4.blk HF3.out (fun e => e))
    refine hKc _ _ ⟨t4, ?_⟩
    clear hKc Kc
    clear t4 x0 x1
    iterate 3
      refine plan_s1 rfl (by rfl) (fun Kc hKc => ?_)
      go_simp
      first
        | (refine hKc _ ?_)
      clear hKc Kc
    refine plan_done ?_
    have hb4 := HB4.out
    have x0 := hb4.cell 0; have x1 := hb4.cell 1; have x2 := hb4.cell 2; have x3 := hb4.cell 3; have x4 := hb4.cell 4; have x5 := hb4.cell 5; have x6 := hb4.cell 6; have x7 := hb4.cell 7; have x8 := hb4.cell 8; have x9 := hb4.cell 9; have x10 := hb4.cell 10; have x11 := hb4.cell 11; have x12 := hb4.cell 12; simp at x0 x1 x2 x3 x4 x5 x6 x7 x8 x9 x10 x11 x12
    have hf4 := HF4.out
    have y0 := hf4.cell 0; have y1 := hf4.cell 1; have y2 := hf4.cell 2; have y3 := hf4.cell 3; have y4 := hf4.cell 4; simp at y0 y1 y2 y3 y4
    clear hf4
    clear hb4
    go_wp2
    go_ret
    exact ⟨ret_bool HV2.out.symm, HT4.out⟩
  by_cases hc9 : 15 < cn
  · have HV2 := Lib.hid (show v = false by rw [HV.out]; simp; omega)
    have hc1 : (0 : Int) ≤ cn := by omega
    have hc2 : decide (cn < 16) = false := by simp; omega
    have hc3 : decide (cn ≤ 15) = false := by simp; omega
    clear HV HCk HGd HGE
    go_enter Try.func42, Try.ntmps42
    go_wp2_with (first | (go_at_call 43; go_must (refine (HOf.out _).mono ?_); rintro e w1 ⟨rfl, t1⟩; have HT1 := Lib.hid (HT0.out.trans t1 (fun _ _ e => e)); have HB1 := Lib.hid (t1.blk HB0.out (fun e => e)); clear t1))
    have HTd := Lib.hid (show Touch (fun _ => False) w (w1.alloc (.cells #[.bool f1, .bool false, .bool false, .bool f4, .bool f5] 104)).drew from (HT1.out.alloc _).drew)
    have HBd := Lib.hid (show Blk (w1.alloc (.cells #[.bool f1, .bool false, .bool false, .bool f4, .bool f5] 104)).drew w.heap.size 35 #[.int .i64 kd, .int .u64 (cl : Int), .int .u64 (rq : Int), .int .u64 (i : Int), .int .i64 cn, .int .i64 at_, .int .i64 of, .slice A wk.length k, .slice B cs.length m, .int .i64 tc, .slice D lv.length n, .int .i64 rt, .int .i64 bk] from (Touch.refl (fun _ => False) _).drew.blk (HB1.out.alloc _) (fun e => e))
    have HFd := Lib.hid (show Blk (w1.alloc (.cells #[.bool f1, .bool false, .bool false, .bool f4, .bool f5] 104)).drew w1.heap.size 104 #[.bool f1, .bool false, .bool false, .bool f4, .bool f5] from (Touch.refl (fun _ => False) _).drew.blk (Blk.new _ _ _) (fun e => e))
    have hbd := HBd.out
    have x0 := hbd.cell 0; have x1 := hbd.cell 1; simp at x0 x1
    clear hbd
    refine wp_region_plan [(0, 0), (0, 1), (0, 2), (0, 3), (0, 4), (0, 5), (0, 6), (0, 7), (1, 8), (1, 9), (1, 11), (2, 10), (2, 12), (0, 13), (0, 14), (0, 15)] (fun _ => False) (by kernel_rfl) (by kernel_rfl) (fun c a d v w h => by cases d <;> exact h) ?_
    iterate 8
      refine plan_s1 rfl (by rfl) (fun Kc hKc => ?_)
      go_simp
      first
        | (refine hKc _ ?_)
      clear hKc Kc
    refine plan_hC rowCm rfl _ rfl rfl w.heap.size 0 rfl #[.int .i64 kd, .int .u64 (cl : Int), .int .u64 (rq : Int), .int .u64 (i : Int), .int .i64 cn, .int .i64 at_, .int .i64 of, .slice A wk.length k, .slice B cs.length m, .int .i64 tc, .slice D lv.length n, .int .i64 rt, .int .i64 bk] rfl (fun wh hT => (hT.blk HBd.out (fun e => e)).whole) ?_
    go_frame
    refine plan_hC rowFl rfl _ rfl rfl w1.heap.size 0 rfl #[.bool f1, .bool false, .bool false, .bool f4, .bool f5] rfl (fun wh hT => (hT.blk HFd.out (fun e => e)).whole) ?_
    go_frame
    refine plan_hC rowCm rfl _ rfl rfl w.heap.size 0 rfl #[.int .i64 kd, .int .u64 (cl : Int), .int .u64 (rq : Int), .int .u64 (i : Int), .int .i64 cn, .int .i64 at_, .int .i64 of, .slice A wk.length k, .slice B cs.length m, .int .i64 tc, .slice D lv.length n, .int .i64 rt, .int .i64 bk] rfl (fun wh hT => (hT.blk HBd.out (fun e => e)).whole) ?_
    go_frame
    refine plan_a1 rfl (by rfl) (fun Kc hKc => ?_)
    go_simp
    refine (HO1.out _).mono ?_
    rintro e w3 ⟨⟨A', B', D', k', m', n', rfl, hkr⟩, t3⟩
    have HKr := Lib.hid hkr
    have HT3 := Lib.hid (HTd.out.trans t3 (fun _ _ e => e))
    have HB3 := Lib.hid (t3.blk HBd.out (fun e => e))
    have HF3 := Lib.hid (t3.blk HFd.out (fun e => e))
    refine hKc _ _ ⟨t3, ?_⟩
    clear hKc Kc
    clear t3 hkr
    refine plan_a1 rfl (by rfl) (fun Kc hKc => ?_)
    go_simp
    refine (HS.out A' B' D' k' m' n' _ (by exact HKr.out _ _ (HR.out.touch HT3.out (fun _ _ e => e))) (by exact HR.out.touch HT3.out (fun _ _ e => e))).mono ?_
    rintro e w4 ⟨rfl, t4⟩
    have HT4 := Lib.hid (HT3.out.trans t4 (fun _ _ e => e))
    have HB4 := Lib.hid (t4.blk HB3.out (fun e => e))
    have HF4 := Lib.hid (t4.blk HF3.out (fun e => e))
    refine hKc _ _ ⟨t4, ?_⟩
    clear hKc Kc
    clear t4 x0 x1
    iterate 3
      refine plan_s1 rfl (by rfl) (fun Kc hKc => ?_)
      go_simp
      first
        | (refine hKc _ ?_)
      clear hKc Kc
    refine plan_done ?_
    have hb4 := HB4.out
    have x0 := hb4.cell 0; have x1 := hb4.cell 1; have x2 := hb4.cell 2; have x3 := hb4.cell 3; have x4 := hb4.cell 4; have x5 := hb4.cell 5; have x6 := hb4.cell 6; have x7 := hb4.cell 7; have x8 := hb4.cell 8; have x9 := hb4.cell 9; have x10 := hb4.cell 10; have x11 := hb4.cell 11; have x12 := hb4.cell 12; simp at x0 x1 x2 x3 x4 x5 x6 x7 x8 x9 x10 x11 x12
    have hf4 := HF4.out
    have y0 := hf4.cell 0; have y1 := hf4.cell 1; have y2 := hf4.cell 2; have y3 := hf4.cell 3; have y4 := hf4.cell 4; simp at y0 y1 y2 y3 y4
    clear hf4
    clear hb4
    go_wp2
    go_ret
    exact ⟨ret_bool HV2.out.symm, HT4.out⟩
  have HV2 := Lib.hid (show v = true by rw [HV.out]; simp; omega)
  have hc1 : (0 : Int) ≤ cn := by omega
  have hc2 : decide (cn < 16) = true := by simp; omega
  have hc3 : decide (cn ≤ 15) = true := by simp; omega
  clear HV HCk HGd HGE
  go_enter Try.func42, Try.ntmps42
  go_wp2_with (first | (go_at_call 43; go_must (refine (HOf.out _).mono ?_); rintro e w1 ⟨rfl, t1⟩; have HT1 := Lib.hid (HT0.out.trans t1 (fun _ _ e => e)); have HB1 := Lib.hid (t1.blk HB0.out (fun e => e)); clear t1))
  have HTd := Lib.hid (show Touch (fun _ => False) w (w1.alloc (.cells #[.bool f1, .bool false, .bool false, .bool f4, .bool f5] 104)).drew from (HT1.out.alloc _).drew)
  have HBd := Lib.hid (show Blk (w1.alloc (.cells #[.bool f1, .bool false, .bool false, .bool f4, .bool f5] 104)).drew w.heap.size 35 #[.int .i64 kd, .int .u64 (cl : Int), .int .u64 (rq : Int), .int .u64 (i : Int), .int .i64 cn, .int .i64 at_, .int .i64 of, .slice A wk.length k, .slice B cs.length m, .int .i64 tc, .slice D lv.length n, .int .i64 rt, .int .i64 bk] from (Touch.refl (fun _ => False) _).drew.blk (HB1.out.alloc _) (fun e => e))
  have HFd := Lib.hid (show Blk (w1.alloc (.cells #[.bool f1, .bool false, .bool false, .bool f4, .bool f5] 104)).drew w1.heap.size 104 #[.bool f1, .bool false, .bool false, .bool f4, .bool f5] from (Touch.refl (fun _ => False) _).drew.blk (Blk.new _ _ _) (fun e => e))
  have hbd := HBd.out
  have x0 := hbd.cell 0; have x1 := hbd.cell 1; simp at x0 x1
  clear hbd
  refine wp_region_plan [(0, 0), (0, 1), (0, 2), (0, 3), (0, 4), (0, 5), (0, 6), (0, 7), (1, 8), (1, 9), (1, 11), (2, 10), (2, 12), (0, 13), (0, 14), (0, 15)] (fun _ => False) (by kernel_rfl) (by kernel_rfl) (fun c a d v w h => by cases d <;> exact h) ?_
  iterate 8
    refine plan_s1 rfl (by rfl) (fun Kc hKc => ?_)
    go_simp
    first
      | (refine hKc _ ?_)
    clear hKc Kc
  refine plan_hC rowCm rfl _ rfl rfl w.heap.size 0 rfl #[.int .i64 kd, .int .u64 (cl : Int), .int .u64 (rq : Int), .int .u64 (i : Int), .int .i64 cn, .int .i64 at_, .int .i64 of, .slice A wk.length k, .slice B cs.length m, .int .i64 tc, .slice D lv.length n, .int .i64 rt, .int .i64 bk] rfl (fun wh hT => (hT.blk HBd.out (fun e => e)).whole) ?_
  go_frame
  refine plan_hC rowFl rfl _ rfl rfl w1.heap.size 0 rfl #[.bool f1, .bool false, .bool false, .bool f4, .bool f5] rfl (fun wh hT => (hT.blk HFd.out (fun e => e)).whole) ?_
  go_frame
  refine plan_hC rowCm rfl _ rfl rfl w.heap.size 0 rfl #[.int .i64 kd, .int .u64 (cl : Int), .int .u64 (rq : Int), .int .u64 (i : Int), .int .i64 cn, .int .i64 at_, .int .i64 of, .slice A wk.length k, .slice B cs.length m, .int .i64 tc, .slice D lv.length n, .int .i64 rt, .int .i64 bk] rfl (fun wh hT => (hT.blk HBd.out (fun e => e)).whole) ?_
  go_frame
  refine plan_a1 rfl (by rfl) (fun Kc hKc => ?_)
  go_simp
  refine (HO1.out _).mono ?_
  rintro e w3 ⟨⟨A', B', D', k', m', n', rfl, hkr⟩, t3⟩
  have HKr := Lib.hid hkr
  have HT3 := Lib.hid (HTd.out.trans t3 (fun _ _ e => e))
  have HB3 := Lib.hid (t3.blk HBd.out (fun e => e))
  have HF3 := Lib.hid (t3.blk HFd.out (fun e => e))
  refine hKc _ _ ⟨t3, ?_⟩
  clear hKc Kc
  clear t3 hkr
  refine plan_a1 rfl (by rfl) (fun Kc hKc => ?_)
  go_simp
  refine (HS.out A' B' D' k' m' n' _ (by exact HKr.out _ _ (HR.out.touch HT3.out (fun _ _ e => e))) (by exact HR.out.touch HT3.out (fun _ _ e => e))).mono ?_
  rintro e w4 ⟨rfl, t4⟩
  have HT4 := Lib.hid (HT3.out.trans t4 (fun _ _ e => e))
  have HB4 := Lib.hid (t4.blk HB3.out (fun e => e))
  have HF4 := Lib.hid (t4.blk HF3.out (fun e => e))
  refine hKc _ _ ⟨t4, ?_⟩
  clear hKc Kc
  clear t4 x0 x1
  iterate 3
    refine plan_s1 rfl (by rfl) (fun Kc hKc => ?_)
    go_simp
    first
      | (refine hKc _ ?_)
    clear hKc Kc
  refine plan_done ?_
  have hb4 := HB4.out
  have x0 := hb4.cell 0; have x1 := hb4.cell 1; have x2 := hb4.cell 2; have x3 := hb4.cell 3; have x4 := hb4.cell 4; have x5 := hb4.cell 5; have x6 := hb4.cell 6; have x7 := hb4.cell 7; have x8 := hb4.cell 8; have x9 := hb4.cell 9; have x10 := hb4.cell 10; have x11 := hb4.cell 11; have x12 := hb4.cell 12; simp at x0 x1 x2 x3 x4 x5 x6 x7 x8 x9 x10 x11 x12
  have hf4 := HF4.out
  have y0 := hf4.cell 0; have y1 := hf4.cell 1; have y2 := hf4.cell 2; have y3 := hf4.cell 3; have y4 := hf4.cell 4; simp at y0 y1 y2 y3 y4
  clear hf4
  clear hb4
  go_wp2
  go_ret
  exact ⟨ret_bool HV2.out.symm, HT4.out⟩
end Go.Proofs.Ytlcefchbfjfifaa
