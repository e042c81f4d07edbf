/- CommandTells, walked. (written by gencdm.py) -/
import Derived.Test.YtcblbjhhlnmkjaaVCdL
namespace Go.Proofs.Ytcblbjhhlnmkjaa
open Go.RowKit Cal
set_option maxHeartbeats 400000000
set_option maxRecDepth 100000
set_option linter.unusedVariables false
attribute [local irreducible] wpPlan

theorem walk_CommandTells {w : World} (a : Cm) (A B D : Option Addr) (k m n : Nat) (hr : CmR w (fun q => q < w.heap.size) a A B D) (h64 : a.in64) (b : Cm) (A' B' D' : Option Addr) (k' m' n' : Nat) (hr' : CmR w (fun q => q < w.heap.size) b A' B' D') (h64' : b.in64) (kind : Int) (hkind : -9223372036854775808 ≤ kind ∧ kind ≤ 9223372036854775807) :
    Calls Try.prog 5 #[.agg #[.int .i64 a.kind, .int .u64 a.client, .int .u64 a.req, .int .u64 a.id, .int .i64 a.con, .int .i64 a.at_, .int .i64 a.cal.off, .slice A a.cal.wk.length k, .slice B a.cal.cl.length m, .int .i64 a.tm.cal, .slice D a.tm.lv.length n, .int .i64 a.tm.rt, .int .i64 a.tm.bk], .agg #[.int .i64 b.kind, .int .u64 b.client, .int .u64 b.req, .int .u64 b.id, .int .i64 b.con, .int .i64 b.at_, .int .i64 b.cal.off, .slice A' b.cal.wk.length k', .slice B' b.cal.cl.length m', .int .i64 b.tm.cal, .slice D' b.tm.lv.length n', .int .i64 b.tm.rt, .int .i64 b.tm.bk], .int .i64 kind] w fun e w' => e = .returned (.bool true) ∧ Below w.heap.size w w' := by
  have HT0 := Lib.hid (((Touch.refl (fun _ => False) w).alloc (.cells #[.int .i64 a.kind, .int .u64 a.client, .int .u64 a.req, .int .u64 a.id, .int .i64 a.con, .int .i64 a.at_, .int .i64 a.cal.off, .slice A a.cal.wk.length k, .slice B a.cal.cl.length m, .int .i64 a.tm.cal, .slice D a.tm.lv.length n, .int .i64 a.tm.rt, .int .i64 a.tm.bk] 30)).alloc (.cells #[.int .i64 b.kind, .int .u64 b.client, .int .u64 b.req, .int .u64 b.id, .int .i64 b.con, .int .i64 b.at_, .int .i64 b.cal.off, .slice A' b.cal.wk.length k', .slice B' b.cal.cl.length m', .int .i64 b.tm.cal, .slice D' b.tm.lv.length n', .int .i64 b.tm.rt, .int .i64 b.tm.bk] 30))
  have HBa := Lib.hid ((Blk.new w 30 #[.int .i64 a.kind, .int .u64 a.client, .int .u64 a.req, .int .u64 a.id, .int .i64 a.con, .int .i64 a.at_, .int .i64 a.cal.off, .slice A a.cal.wk.length k, .slice B a.cal.cl.length m, .int .i64 a.tm.cal, .slice D a.tm.lv.length n, .int .i64 a.tm.rt, .int .i64 a.tm.bk]).alloc (.cells #[.int .i64 b.kind, .int .u64 b.client, .int .u64 b.req, .int .u64 b.id, .int .i64 b.con, .int .i64 b.at_, .int .i64 b.cal.off, .slice A' b.cal.wk.length k', .slice B' b.cal.cl.length m', .int .i64 b.tm.cal, .slice D' b.tm.lv.length n', .int .i64 b.tm.rt, .int .i64 b.tm.bk] 30))
  have HBb := Lib.hid (show Blk ((w.alloc (.cells #[.int .i64 a.kind, .int .u64 a.client, .int .u64 a.req, .int .u64 a.id, .int .i64 a.con, .int .i64 a.at_, .int .i64 a.cal.off, .slice A a.cal.wk.length k, .slice B a.cal.cl.length m, .int .i64 a.tm.cal, .slice D a.tm.lv.length n, .int .i64 a.tm.rt, .int .i64 a.tm.bk] 30)).alloc (.cells #[.int .i64 b.kind, .int .u64 b.client, .int .u64 b.req, .int .u64 b.id, .int .i64 b.con, .int .i64 b.at_, .int .i64 b.cal.off, .slice A' b.cal.wk.length k', .slice B' b.cal.cl.length m', .int .i64 b.tm.cal, .slice D' b.tm.lv.length n', .int .i64 b.tm.rt, .int .i64 b.tm.bk] 30)) (w.heap.size + 1) 30 #[.int .i64 b.kind, .int .u64 b.client, .int .u64 b.req, .int .u64 b.id, .int .i64 b.con, .int .i64 b.at_, .int .i64 b.cal.off, .slice A' b.cal.wk.length k', .slice B' b.cal.cl.length m', .int .i64 b.tm.cal, .slice D' b.tm.lv.length n', .int .i64 b.tm.rt, .int .i64 b.tm.bk] by simpa using Blk.new (w.alloc (.cells #[.int .i64 a.kind, .int .u64 a.client, .int .u64 a.req, .int .u64 a.id, .int .i64 a.con, .int .i64 a.at_, .int .i64 a.cal.off, .slice A a.cal.wk.length k, .slice B a.cal.cl.length m, .int .i64 a.tm.cal, .slice D a.tm.lv.length n, .int .i64 a.tm.rt, .int .i64 a.tm.bk] 30)) 30 #[.int .i64 b.kind, .int .u64 b.client, .int .u64 b.req, .int .u64 b.id, .int .i64 b.con, .int .i64 b.at_, .int .i64 b.cal.off, .slice A' b.cal.wk.length k', .slice B' b.cal.cl.length m', .int .i64 b.tm.cal, .slice D' b.tm.lv.length n', .int .i64 b.tm.rt, .int .i64 b.tm.bk])
  have HR := Lib.hid hr
  have HR' := Lib.hid hr'
  have HLa := Lib.hid (fun w1 => light18_any A B D k m n a w1)
  have HLb := Lib.hid (fun w1 => light18_any A' B' D' k' m' n' b w1)
  obtain ⟨ha, -, -⟩ := h64
  obtain ⟨ha', -, -⟩ := h64'
  cases hla : lightC a
  · rw [hla] at HLa
    clear hla HLb
    go_enter Try.func5, Try.ntmps5
    go_wp2_with (first
      | (go_at_call 13; go_must (refine (lives18_any _).mono ?_); rintro e w3 ⟨rfl, t3⟩; have HT3 := Lib.hid (HT1.out.trans t3 (fun _ _ e => e)); clear t3)
      | (go_at_call 12; go_must (refine (HLa.out _).mono ?_); rintro e w1 ⟨rfl, t1⟩; have HT1 := Lib.hid (HT0.out.trans t1 (fun _ _ e => e)); have HBa1 := Lib.hid (t1.blk HBa.out (fun e => e)); have HBb1 := Lib.hid (t1.blk HBb.out (fun e => e)); have hb := HBb1.out; have x0 := hb.cell 0; have x1 := hb.cell 1; have x2 := hb.cell 2; have x3 := hb.cell 3; have x4 := hb.cell 4; have x5 := hb.cell 5; have x6 := hb.cell 6; have x7 := hb.cell 7; have x8 := hb.cell 8; have x9 := hb.cell 9; have x10 := hb.cell 10; have x11 := hb.cell 11; have x12 := hb.cell 12; simp at x0 x1 x2 x3 x4 x5 x6 x7 x8 x9 x10 x11 x12; clear t1 hb))
    go_ret
    exact ⟨rfl, HT3.out.below⟩
  rw [hla] at HLa
  cases hlb : lightC b
  · rw [hlb] at HLb
    clear hla hlb
    go_enter Try.func5, Try.ntmps5
    go_wp2_with (first
      | (go_at_call 13; go_must (refine (lives18_any _).mono ?_); rintro e w3 ⟨rfl, t3⟩; have HT3 := Lib.hid (HT2.out.trans t3 (fun _ _ e => e)); clear t3)
      | (go_at_call 12; have HMQ := HBb1; go_must (refine (HLb.out _).mono ?_); rintro e w2 ⟨rfl, t2⟩; have HT2 := Lib.hid (HT1.out.trans t2 (fun _ _ e => e)); have HBa2 := Lib.hid (t2.blk HBa1.out (fun e => e)); have HBb2 := Lib.hid (t2.blk HBb1.out (fun e => e)); clear t2 x0 x1 x2 x3 x4 x5 x6 x7 x8 x9 x10 x11 x12)
      | (go_at_call 12; go_must (refine (HLa.out _).mono ?_); rintro e w1 ⟨rfl, t1⟩; have HT1 := Lib.hid (HT0.out.trans t1 (fun _ _ e => e)); have HBa1 := Lib.hid (t1.blk HBa.out (fun e => e)); have HBb1 := Lib.hid (t1.blk HBb.out (fun e => e)); have hb := HBb1.out; have x0 := hb.cell 0; have x1 := hb.cell 1; have x2 := hb.cell 2; have x3 := hb.cell 3; have x4 := hb.cell 4; have x5 := hb.cell 5; have x6 := hb.cell 6; have x7 := hb.cell 7; have x8 := hb.cell 8; have x9 := hb.cell 9; have x10 := hb.cell 10; have x11 := hb.cell 11; have x12 := hb.cell 12; simp at x0 x1 x2 x3 x4 x5 x6 x7 x8 x9 x10 x11 x12; clear t1 hb))
    go_ret
    exact ⟨rfl, HT3.out.below⟩
  rw [hlb] at HLb
  obtain ⟨h1, h2, h3⟩ := lightC_in hla
  have HNm := Lib.hid (fun w1 => named_any kind w1)
  have HSa := Lib.hid (fun w1 hr => cmsound_any (fun q => q < w.heap.size) A B D k m n a w1 hr (by omega) (by omega) (by omega) ha)
  have HFa := Lib.hid (fun w1 hr => fcmsound_any (fun q => q < w.heap.size) A B D k m n a w1 hr (by omega) (by omega) (by omega) ha)
  have HSm := Lib.hid (fun w1 hr hr' => cmsame_any (fun q => q < w.heap.size) (fun q => q < w.heap.size) A B D A' B' D' k m n k' m' n' a b w1 hr hr' (by omega) (by omega) (by omega) ha ha')
  have HFm := Lib.hid (fun w1 hr hr' => fcmsame_any (fun q => q < w.heap.size) (fun q => q < w.heap.size) A B D A' B' D' k m n k' m' n' a b w1 hr hr' (by omega) (by omega) (by omega) ha ha')
  have HSs := Lib.hid (fun w1 hr => cmsame_any (fun q => q < w.heap.size) (fun q => q < w.heap.size) A B D A B D k m n k m n a a w1 hr hr (by omega) (by omega) (by omega) ha ha)
  rw [sameCm_self] at HSs
  generalize cmSound a = sd at *
  generalize sameCm a b = sm at *
  clear hla hlb h1 h2 h3 ha ha' hr hr'
  have hsd : (sd == sd) = true := by simp
  have hsm : (sm == sm) = true := by simp
  by_cases hk1 : kind < 1
  · have hn : named kind = false := by simp [named]; omega
    have hb1 : decide (1 ≤ kind) = false := by simp; omega
    rw [hn] at HNm
    clear hn hk1
    go_enter Try.func5, Try.ntmps5
    go_wp2_with (first
      | (go_at_call 12; have HMQ := HBb1; go_must (refine (HLb.out _).mono ?_); rintro e w2 ⟨rfl, t2⟩; have HT2 := Lib.hid (HT1.out.trans t2 (fun _ _ e => e)); have HBa2 := Lib.hid (t2.blk HBa1.out (fun e => e)); have HBb2 := Lib.hid (t2.blk HBb1.out (fun e => e)); clear t2 x0 x1 x2 x3 x4 x5 x6 x7 x8 x9 x10 x11 x12)
      | (go_at_call 12; go_must (refine (HLa.out _).mono ?_); rintro e w1 ⟨rfl, t1⟩; have HT1 := Lib.hid (HT0.out.trans t1 (fun _ _ e => e)); have HBa1 := Lib.hid (t1.blk HBa.out (fun e => e)); have HBb1 := Lib.hid (t1.blk HBb.out (fun e => e)); have hb := HBb1.out; have x0 := hb.cell 0; have x1 := hb.cell 1; have x2 := hb.cell 2; have x3 := hb.cell 3; have x4 := hb.cell 4; have x5 := hb.cell 5; have x6 := hb.cell 6; have x7 := hb.cell 7; have x8 := hb.cell 8; have x9 := hb.cell 9; have x10 := hb.cell 10; have x11 := hb.cell 11; have x12 := hb.cell 12; simp at x0 x1 x2 x3 x4 x5 x6 x7 x8 x9 x10 x11 x12; clear t1 hb))
    have HT2d := Lib.hid HT2.out.drew
    have HBac := Lib.hid ((Touch.refl (fun _ => False) w2).drew.blk HBa2.out (fun e => e))
    have HBbc := Lib.hid ((Touch.refl (fun _ => False) w2).drew.blk HBb2.out (fun e => e))
    refine wp_region_plan [(0, 0), (1, 2), (1, 3), (2, 1), (0, 4), (0, 5), (0, 6), (0, 7), (0, 8), (0, 9), (1, 10), (1, 12), (2, 11), (2, 13), (0, 14), (0, 15), (0, 16), (1, 17), (1, 18), (1, 20), (1, 21), (2, 19), (2, 22), (0, 23), (0, 24), (0, 25), (1, 26), (1, 27), (2, 28), (0, 29), (0, 30), (2, 31), (0, 32), (0, 33)] (fun _ => False) (by kernel_rfl) (by kernel_rfl) (fun c a d v w h => by cases d <;> exact h) ?_
    iterate 1
      refine plan_s1 rfl (by rfl) (fun Kc hKc => ?_)
      go_simp
      first
        | (refine hKc _ ?_)
      clear hKc Kc
    iterate 2
      apply plan_h
      · rfl
      · rfl
      · intro wh hT
        go_simp
        try rfl
      go_frame
    refine plan_a1 rfl (by rfl) (fun Kc hKc => ?_)
    go_simp
    refine (HNm.out _).mono ?_
    rintro e w3 ⟨rfl, t3⟩
    have HT3 := Lib.hid (HT2d.out.trans t3 (fun _ _ e => e))
    have HBac := Lib.hid (t3.blk HBac.out (fun e => e))
    have HBbc := Lib.hid (t3.blk HBbc.out (fun e => e))
    refine hKc _ _ ⟨t3, ?_⟩
    clear hKc Kc
    clear t3
    iterate 6
      refine plan_s rfl fun Kc hKc => ?_
      go_simp
      first
        | (refine hKc _ ?_)
      clear hKc Kc
    refine plan_hC rowCm rfl _ rfl rfl w.heap.size 0 rfl #[.int .i64 a.kind, .int .u64 a.client, .int .u64 a.req, .int .u64 a.id, .int .i64 a.con, .int .i64 a.at_, .int .i64 a.cal.off, .slice A a.cal.wk.length k, .slice B a.cal.cl.length m, .int .i64 a.tm.cal, .slice D a.tm.lv.length n, .int .i64 a.tm.rt, .int .i64 a.tm.bk] rfl (fun wh hT => (hT.blk HBac.out (fun e => e)).whole) ?_
    go_frame
    refine plan_hC rowCm rfl _ rfl rfl w.heap.size 0 rfl #[.int .i64 a.kind, .int .u64 a.client, .int .u64 a.req, .int .u64 a.id, .int .i64 a.con, .int .i64 a.at_, .int .i64 a.cal.off, .slice A a.cal.wk.length k, .slice B a.cal.cl.length m, .int .i64 a.tm.cal, .slice D a.tm.lv.length n, .int .i64 a.tm.rt, .int .i64 a.tm.bk] rfl (fun wh hT => (hT.blk HBac.out (fun e => e)).whole) ?_
    go_frame
    refine plan_a1 rfl (by rfl) (fun Kc hKc => ?_)
    go_simp
    refine (HSa.out _ (by exact HR.out.touch HT3.out (fun _ _ e => e))).mono ?_
    rintro e w4 ⟨rfl, t4⟩
    have HT4 := Lib.hid (HT3.out.trans t4 (fun _ _ e => e))
    have HBac := Lib.hid (t4.blk HBac.out (fun e => e))
    have HBbc := Lib.hid (t4.blk HBbc.out (fun e => e))
    refine hKc _ _ ⟨t4, ?_⟩
    clear hKc Kc
    clear t4
    refine plan_a1 rfl (by rfl) (fun Kc hKc => ?_)
    go_simp
    refine (HFa.out _ (by exact HR.out.touch HT4.out (fun _ _ e => e))).mono ?_
    rintro e w5 ⟨rfl, t5⟩
    have HT5 := Lib.hid (HT4.out.trans t5 (fun _ _ e => e))
    have HBac := Lib.hid (t5.blk HBac.out (fun e => e))
    have HBbc := Lib.hid (t5.blk HBbc.out (fun e => e))
    refine hKc _ _ ⟨t5, ?_⟩
    clear hKc Kc
    clear t5
    iterate 3
      refine plan_s1 rfl (by rfl) (fun Kc hKc => ?_)
      go_simp
      first
        | (refine hKc _ ?_)
      clear hKc Kc
    refine plan_hC rowCm rfl _ rfl rfl w.heap.size 0 rfl #[.int .i64 a.kind, .int .u64 a.client, .int .u64 a.req, .int .u64 a.id, .int .i64 a.con, .int .i64 a.at_, .int .i64 a.cal.off, .slice A a.cal.wk.length k, .slice B a.cal.cl.length m, .int .i64 a.tm.cal, .slice D a.tm.lv.length n, .int .i64 a.tm.rt, .int .i64 a.tm.bk] rfl (fun wh hT => (hT.blk HBac.out (fun e => e)).whole) ?_
    go_frame
    refine plan_hC rowCm rfl _ rfl rfl (w.heap.size + 1) 0 rfl #[.int .i64 b.kind, .int .u64 b.client, .int .u64 b.req, .int .u64 b.id, .int .i64 b.con, .int .i64 b.at_, .int .i64 b.cal.off, .slice A' b.cal.wk.length k', .slice B' b.cal.cl.length m', .int .i64 b.tm.cal, .slice D' b.tm.lv.length n', .int .i64 b.tm.rt, .int .i64 b.tm.bk] rfl (fun wh hT => (hT.blk HBbc.out (fun e => e)).whole) ?_
    go_frame
    refine plan_hC rowCm rfl _ rfl rfl w.heap.size 0 rfl #[.int .i64 a.kind, .int .u64 a.client, .int .u64 a.req, .int .u64 a.id, .int .i64 a.con, .int .i64 a.at_, .int .i64 a.cal.off, .slice A a.cal.wk.length k, .slice B a.cal.cl.length m, .int .i64 a.tm.cal, .slice D a.tm.lv.length n, .int .i64 a.tm.rt, .int .i64 a.tm.bk] rfl (fun wh hT => (hT.blk HBac.out (fun e => e)).whole) ?_
    go_frame
    refine plan_hC rowCm rfl _ rfl rfl (w.heap.size + 1) 0 rfl #[.int .i64 b.kind, .int .u64 b.client, .int .u64 b.req, .int .u64 b.id, .int .i64 b.con, .int .i64 b.at_, .int .i64 b.cal.off, .slice A' b.cal.wk.length k', .slice B' b.cal.cl.length m', .int .i64 b.tm.cal, .slice D' b.tm.lv.length n', .int .i64 b.tm.rt, .int .i64 b.tm.bk] rfl (fun wh hT => (hT.blk HBbc.out (fun e => e)).whole) ?_
    go_frame
    refine plan_a1 rfl (by rfl) (fun Kc hKc => ?_)
    go_simp
    refine (HSm.out _ (by exact HR.out.touch HT5.out (fun _ _ e => e)) (by exact HR'.out.touch HT5.out (fun _ _ e => e))).mono ?_
    rintro e w6 ⟨rfl, t6⟩
    have HT6 := Lib.hid (HT5.out.trans t6 (fun _ _ e => e))
    have HBac := Lib.hid (t6.blk HBac.out (fun e => e))
    have HBbc := Lib.hid (t6.blk HBbc.out (fun e => e))
    refine hKc _ _ ⟨t6, ?_⟩
    clear hKc Kc
    clear t6
    refine plan_a1 rfl (by rfl) (fun Kc hKc => ?_)
    go_simp
    refine (HFm.out _ (by exact HR.out.touch HT6.out (fun _ _ e => e)) (by exact HR'.out.touch HT6.out (fun _ _ e => e))).mono ?_
    rintro e w7 ⟨rfl, t7⟩
    have HT7 := Lib.hid (HT6.out.trans t7 (fun _ _ e => e))
    have HBac := Lib.hid (t7.blk HBac.out (fun e => e))
    have HBbc := Lib.hid (t7.blk HBbc.out (fun e => e))
    refine hKc _ _ ⟨t7, ?_⟩
    clear hKc Kc
    clear t7
    iterate 3
      refine plan_s1 rfl (by rfl) (fun Kc hKc => ?_)
      go_simp
      first
        | (refine hKc _ ?_)
      clear hKc Kc
    refine plan_hC rowCm rfl _ rfl rfl w.heap.size 0 rfl #[.int .i64 a.kind, .int .u64 a.client, .int .u64 a.req, .int .u64 a.id, .int .i64 a.con, .int .i64 a.at_, .int .i64 a.cal.off, .slice A a.cal.wk.length k, .slice B a.cal.cl.length m, .int .i64 a.tm.cal, .slice D a.tm.lv.length n, .int .i64 a.tm.rt, .int .i64 a.tm.bk] rfl (fun wh hT => (hT.blk HBac.out (fun e => e)).whole) ?_
    go_frame
    refine plan_hC rowCm rfl _ rfl rfl w.heap.size 0 rfl #[.int .i64 a.kind, .int .u64 a.client, .int .u64 a.req, .int .u64 a.id, .int .i64 a.con, .int .i64 a.at_, .int .i64 a.cal.off, .slice A a.cal.wk.length k, .slice B a.cal.cl.length m, .int .i64 a.tm.cal, .slice D a.tm.lv.length n, .int .i64 a.tm.rt, .int .i64 a.tm.bk] rfl (fun wh hT => (hT.blk HBac.out (fun e => e)).whole) ?_
    go_frame
    refine plan_a1 rfl (by rfl) (fun Kc hKc => ?_)
    go_simp
    refine (HSs.out _ (by exact HR.out.touch HT7.out (fun _ _ e => e))).mono ?_
    rintro e w8 ⟨rfl, t8⟩
    have HT8 := Lib.hid (HT7.out.trans t8 (fun _ _ e => e))
    have HBac := Lib.hid (t8.blk HBac.out (fun e => e))
    have HBbc := Lib.hid (t8.blk HBbc.out (fun e => e))
    refine hKc _ _ ⟨t8, ?_⟩
    clear hKc Kc
    clear t8
    iterate 2
      refine plan_s1 rfl (by rfl) (fun Kc hKc => ?_)
      go_simp
      first
        | (refine hKc _ ?_)
      clear hKc Kc
    refine plan_a1 rfl (by rfl) (fun Kc hKc => ?_)
    go_simp
    refine (lives18_any _).mono ?_
    rintro e w9 ⟨rfl, t9⟩
    have HT9 := Lib.hid (HT8.out.trans t9 (fun _ _ e => e))
    refine hKc _ _ ⟨t9, ?_⟩
    clear hKc Kc
    clear t9
    iterate 2
      refine plan_s1 rfl (by rfl) (fun Kc hKc => ?_)
      go_simp
      first
        | (refine hKc _ ?_)
      clear hKc Kc
    refine plan_done ?_
    go_wp2
    go_ret
    exact ⟨rfl, HT9.out.below⟩
  have hb1 : decide (1 ≤ kind) = true := by simp; omega
  by_cases hk2 : 12 < kind
  · have hn : named kind = false := by simp [named]; omega
    have hb2 : decide (kind ≤ 12) = false := by simp; omega
    rw [hn] at HNm
    clear hn hk1 hk2
    go_enter Try.func5, Try.ntmps5
    go_wp2_with (first
      | (go_at_call 12; have HMQ := HBb1; go_must (refine (HLb.out _).mono ?_); rintro e w2 ⟨rfl, t2⟩; have HT2 := Lib.hid (HT1.out.trans t2 (fun _ _ e => e)); have HBa2 := Lib.hid (t2.blk HBa1.out (fun e => e)); have HBb2 := Lib.hid (t2.blk HBb1.out (fun e => e)); clear t2 x0 x1 x2 x3 x4 x5 x6 x7 x8 x9 x10 x11 x12)
      | (go_at_call 12; go_must (refine (HLa.out _).mono ?_); rintro e w1 ⟨rfl, t1⟩; have HT1 := Lib.hid (HT0.out.trans t1 (fun _ _ e => e)); have HBa1 := Lib.hid (t1.blk HBa.out (fun e => e)); have HBb1 := Lib.hid (t1.blk HBb.out (fun e => e)); have hb := HBb1.out; have x0 := hb.cell 0; have x1 := hb.cell 1; have x2 := hb.cell 2; have x3 := hb.cell 3; have x4 := hb.cell 4; have x5 := hb.cell 5; have x6 := hb.cell 6; have x7 := hb.cell 7; have x8 := hb.cell 8; have x9 := hb.cell 9; have x10 := hb.cell 10; have x11 := hb.cell 11; have x12 := hb.cell 12; simp at x0 x1 x2 x3 x4 x5 x6 x7 x8 x9 x10 x11 x12; clear t1 hb))
    have HT2d := Lib.hid HT2.out.drew
    have HBac := Lib.hid ((Touch.refl (fun _ => False) w2).drew.blk HBa2.out (fun e => e))
    have HBbc := Lib.hid ((Touch.refl (fun _ => False) w2).drew.blk HBb2.out (fun e => e))
    refine wp_region_plan [(0, 0), (1, 2), (1, 3), (2, 1), (0, 4), (0, 5), (0, 6), (0, 7), (0, 8), (0, 9), (1, 10), (1, 12), (2, 11), (2, 13), (0, 14), (0, 15), (0, 16), (1, 17), (1, 18), (1, 20), (1, 21), (2, 19), (2, 22), (0, 23), (0, 24), (0, 25), (1, 26), (1, 27), (2, 28), (0, 29), (0, 30), (2, 31), (0, 32), (0, 33)] (fun _ => False) (by kernel_rfl) (by kernel_rfl) (fun c a d v w h => by cases d <;> exact h) ?_
    iterate 1
      refine plan_s1 rfl (by rfl) (fun Kc hKc => ?_)
      go_simp
      first
        | (refine hKc _ ?_)
      clear hKc Kc
    iterate 2
      apply plan_h
      · rfl
      · rfl
      · intro wh hT
        go_simp
        try rfl
      go_frame
    refine plan_a1 rfl (by rfl) (fun Kc hKc => ?_)
    go_simp
    refine (HNm.out _).mono ?_
    rintro e w3 ⟨rfl, t3⟩
    have HT3 := Lib.hid (HT2d.out.trans t3 (fun _ _ e => e))
    have HBac := Lib.hid (t3.blk HBac.out (fun e => e))
    have HBbc := Lib.hid (t3.blk HBbc.out (fun e => e))
    refine hKc _ _ ⟨t3, ?_⟩
    clear hKc Kc
    clear t3
    iterate 6
      refine plan_s1 rfl (by rfl) (fun Kc hKc => ?_)
      go_simp
      first
        | (refine hKc _ ?_)
      clear hKc Kc
    refine plan_hC rowCm rfl _ rfl rfl w.heap.size 0 rfl #[.int .i64 a.kind, .int .u64 a.client, .int .u64 a.req, .int .u64 a.id, .int .i64 a.con, .int .i64 a.at_, .int .i64 a.cal.off, .slice A a.cal.wk.length k, .slice B a.cal.cl.length m, .int .i64 a.tm.cal, .slice D a.tm.lv.length n, .int .i64 a.tm.rt, .int .i64 a.tm.bk] rfl (fun wh hT => (hT.blk HBac.out (fun e => e)).whole) ?_
    go_frame
    refine plan_hC rowCm rfl _ rfl rfl w.heap.size 0 rfl #[.int .i64 a.kind, .int .u64 a.client, .int .u64 a.req, .int .u64 a.id, .int .i64 a.con, .int .i64 a.at_, .int .i64 a.cal.off, .slice A a.cal.wk.length k, .slice B a.cal.cl.length m, .int .i64 a.tm.cal, .slice D a.tm.lv.length n, .int .i64 a.tm.rt, .int .i64 a.tm.bk] rfl (fun wh hT => (hT.blk HBac.out (fun e => e)).whole) ?_
    go_frame
    refine plan_a1 rfl (by rfl) (fun Kc hKc => ?_)
    go_simp
    refine (HSa.out _ (by exact HR.out.touch HT3.out (fun _ _ e => e))).mono ?_
    rintro e w4 ⟨rfl, t4⟩
    have HT4 := Lib.hid (HT3.out.trans t4 (fun _ _ e => e))
    have HBac := Lib.hid (t4.blk HBac.out (fun e => e))
    have HBbc := Lib.hid (t4.blk HBbc.out (fun e => e))
    refine hKc _ _ ⟨t4, ?_⟩
    clear hKc Kc
    clear t4
    refine plan_a1 rfl (by rfl) (fun Kc hKc => ?_)
    go_simp
    refine (HFa.out _ (by exact HR.out.touch HT4.out (fun _ _ e => e))).mono ?_
    rintro e w5 ⟨rfl, t5⟩
    have HT5 := Lib.hid (HT4.out.trans t5 (fun _ _ e => e))
    have HBac := Lib.hid (t5.blk HBac.out (fun e => e))
    have HBbc := Lib.hid (t5.blk HBbc.out (fun e => e))
    refine hKc _ _ ⟨t5, ?_⟩
    clear hKc Kc
    clear t5
    iterate 3
      refine plan_s1 rfl (by rfl) (fun Kc hKc => ?_)
      go_simp
      first
        | (refine hKc _ ?_)
      clear hKc Kc
    refine plan_hC rowCm rfl _ rfl rfl w.heap.size 0 rfl #[.int .i64 a.kind, .int .u64 a.client, .int .u64 a.req, .int .u64 a.id, .int .i64 a.con, .int .i64 a.at_, .int .i64 a.cal.off, .slice A a.cal.wk.length k, .slice B a.cal.cl.length m, .int .i64 a.tm.cal, .slice D a.tm.lv.length n, .int .i64 a.tm.rt, .int .i64 a.tm.bk] rfl (fun wh hT => (hT.blk HBac.out (fun e => e)).whole) ?_
    go_frame
    refine plan_hC rowCm rfl _ rfl rfl (w.heap.size + 1) 0 rfl #[.int .i64 b.kind, .int .u64 b.client, .int .u64 b.req, .int .u64 b.id, .int .i64 b.con, .int .i64 b.at_, .int .i64 b.cal.off, .slice A' b.cal.wk.length k', .slice B' b.cal.cl.length m', .int .i64 b.tm.cal, .slice D' b.tm.lv.length n', .int .i64 b.tm.rt, .int .i64 b.tm.bk] rfl (fun wh hT => (hT.blk HBbc.out (fun e => e)).whole) ?_
    go_frame
    refine plan_hC rowCm rfl _ rfl rfl w.heap.size 0 rfl #[.int .i64 a.kind, .int .u64 a.client, .int .u64 a.req, .int .u64 a.id, .int .i64 a.con, .int .i64 a.at_, .int .i64 a.cal.off, .slice A a.cal.wk.length k, .slice B a.cal.cl.length m, .int .i64 a.tm.cal, .slice D a.tm.lv.length n, .int .i64 a.tm.rt, .int .i64 a.tm.bk] rfl (fun wh hT => (hT.blk HBac.out (fun e => e)).whole) ?_
    go_frame
    refine plan_hC rowCm rfl _ rfl rfl (w.heap.size + 1) 0 rfl #[.int .i64 b.kind, .int .u64 b.client, .int .u64 b.req, .int .u64 b.id, .int .i64 b.con, .int .i64 b.at_, .int .i64 b.cal.off, .slice A' b.cal.wk.length k', .slice B' b.cal.cl.length m', .int .i64 b.tm.cal, .slice D' b.tm.lv.length n', .int .i64 b.tm.rt, .int .i64 b.tm.bk] rfl (fun wh hT => (hT.blk HBbc.out (fun e => e)).whole) ?_
    go_frame
    refine plan_a1 rfl (by rfl) (fun Kc hKc => ?_)
    go_simp
    refine (HSm.out _ (by exact HR.out.touch HT5.out (fun _ _ e => e)) (by exact HR'.out.touch HT5.out (fun _ _ e => e))).mono ?_
    rintro e w6 ⟨rfl, t6⟩
    have HT6 := Lib.hid (HT5.out.trans t6 (fun _ _ e => e))
    have HBac := Lib.hid (t6.blk HBac.out (fun e => e))
    have HBbc := Lib.hid (t6.blk HBbc.out (fun e => e))
    refine hKc _ _ ⟨t6, ?_⟩
    clear hKc Kc
    clear t6
    refine plan_a1 rfl (by rfl) (fun Kc hKc => ?_)
    go_simp
    refine (HFm.out _ (by exact HR.out.touch HT6.out (fun _ _ e => e)) (by exact HR'.out.touch HT6.out (fun _ _ e => e))).mono ?_
    rintro e w7 ⟨rfl, t7⟩
    have HT7 := Lib.hid (HT6.out.trans t7 (fun _ _ e => e))
    have HBac := Lib.hid (t7.blk HBac.out (fun e => e))
    have HBbc := Lib.hid (t7.blk HBbc.out (fun e => e))
    refine hKc _ _ ⟨t7, ?_⟩
    clear hKc Kc
    clear t7
    iterate 3
      refine plan_s1 rfl (by rfl) (fun Kc hKc => ?_)
      go_simp
      first
        | (refine hKc _ ?_)
      clear hKc Kc
    refine plan_hC rowCm rfl _ rfl rfl w.heap.size 0 rfl #[.int .i64 a.kind, .int .u64 a.client, .int .u64 a.req, .int .u64 a.id, .int .i64 a.con, .int .i64 a.at_, .int .i64 a.cal.off, .slice A a.cal.wk.length k, .slice B a.cal.cl.length m, .int .i64 a.tm.cal, .slice D a.tm.lv.length n, .int .i64 a.tm.rt, .int .i64 a.tm.bk] rfl (fun wh hT => (hT.blk HBac.out (fun e => e)).whole) ?_
    go_frame
    refine plan_hC rowCm rfl _ rfl rfl w.heap.size 0 rfl #[.int .i64 a.kind, .int .u64 a.client, .int .u64 a.req, .int .u64 a.id, .int .i64 a.con, .int .i64 a.at_, .int .i64 a.cal.off, .slice A a.cal.wk.length k, .slice B a.cal.cl.length m, .int .i64 a.tm.cal, .slice D a.tm.lv.length n, .int .i64 a.tm.rt, .int .i64 a.tm.bk] rfl (fun wh hT => (hT.blk HBac.out (fun e => e)).whole) ?_
    go_frame
    refine plan_a1 rfl (by rfl) (fun Kc hKc => ?_)
    go_simp
    refine (HSs.out _ (by exact HR.out.touch HT7.out (fun _ _ e => e))).mono ?_
    rintro e w8 ⟨rfl, t8⟩
    have HT8 := Lib.hid (HT7.out.trans t8 (fun _ _ e => e))
    have HBac := Lib.hid (t8.blk HBac.out (fun e => e))
    have HBbc := Lib.hid (t8.blk HBbc.out (fun e => e))
    refine hKc _ _ ⟨t8, ?_⟩
    clear hKc Kc
    clear t8
    iterate 2
      refine plan_s1 rfl (by rfl) (fun Kc hKc => ?_)
      go_simp
      first
        | (refine hKc _ ?_)
      clear hKc Kc
    refine plan_a1 rfl (by rfl) (fun Kc hKc => ?_)
    go_simp
    refine (lives18_any _).mono ?_
    rintro e w9 ⟨rfl, t9⟩
    have HT9 := Lib.hid (HT8.out.trans t9 (fun _ _ e => e))
    refine hKc _ _ ⟨t9, ?_⟩
    clear hKc Kc
    clear t9
    iterate 2
      refine plan_s1 rfl (by rfl) (fun Kc hKc => ?_)
      go_simp
      first
        | (refine hKc _ ?_)
      clear hKc Kc
    refine plan_done ?_
    go_wp2
    go_ret
    exact ⟨rfl, HT9.out.below⟩
  have hn : named kind = true := by simp [named]; omega
  have hb2 : decide (kind ≤ 12) = true := by simp; omega
  rw [hn] at HNm
  clear hn hk1 hk2
  go_enter Try.func5, Try.ntmps5
  go_wp2_with (first
    | (go_at_call 12; have HMQ := HBb1; go_must (refine (HLb.out _).mono ?_); rintro e w2 ⟨rfl, t2⟩; have HT2 := Lib.hid (HT1.out.trans t2 (fun _ _ e => e)); have HBa2 := Lib.hid (t2.blk HBa1.out (fun e => e)); have HBb2 := Lib.hid (t2.blk HBb1.out (fun e => e)); clear t2 x0 x1 x2 x3 x4 x5 x6 x7 x8 x9 x10 x11 x12)
    | (go_at_call 12; go_must (refine (HLa.out _).mono ?_); rintro e w1 ⟨rfl, t1⟩; have HT1 := Lib.hid (HT0.out.trans t1 (fun _ _ e => e)); have HBa1 := Lib.hid (t1.blk HBa.out (fun e => e)); have HBb1 := Lib.hid (t1.blk HBb.out (fun e => e)); have hb := HBb1.out; have x0 := hb.cell 0; have x1 := hb.cell 1; have x2 := hb.cell 2; have x3 := hb.cell 3; have x4 := hb.cell 4; have x5 := hb.cell 5; have x6 := hb.cell 6; have x7 := hb.cell 7; have x8 := hb.cell 8; have x9 := hb.cell 9; have x10 := hb.cell 10; have x11 := hb.cell 11; have x12 := hb.cell 12; simp at x0 x1 x2 x3 x4 x5 x6 x7 x8 x9 x10 x11 x12; clear t1 hb))
  have HT2d := Lib.hid HT2.out.drew
  have HBac := Lib.hid ((Touch.refl (fun _ => False) w2).drew.blk HBa2.out (fun e => e))
  have HBbc := Lib.hid ((Touch.refl (fun _ => False) w2).drew.blk HBb2.out (fun e => e))
  refine wp_region_plan [(0, 0), (1, 2), (1, 3), (2, 1), (0, 4), (0, 5), (0, 6), (0, 7), (0, 8), (0, 9), (1, 10), (1, 12), (2, 11), (2, 13), (0, 14), (0, 15), (0, 16), (1, 17), (1, 18), (1, 20), (1, 21), (2, 19), (2, 22), (0, 23), (0, 24), (0, 25), (1, 26), (1, 27), (2, 28), (0, 29), (0, 30), (2, 31), (0, 32), (0, 33)] (fun _ => False) (by kernel_rfl) (by kernel_rfl) (fun c a d v w h => by cases d <;> exact h) ?_
  iterate 1
    refine plan_s1 rfl (by rfl) (fun Kc hKc => ?_)
    go_simp
    first
      | (refine hKc _ ?_)
    clear hKc Kc
  iterate 2
    apply plan_h
    · rfl
    · rfl
    · intro wh hT
      go_simp
      try rfl
    go_frame
  refine plan_a1 rfl (by rfl) (fun Kc hKc => ?_)
  go_simp
  refine (HNm.out _).mono ?_
  rintro e w3 ⟨rfl, t3⟩
  have HT3 := Lib.hid (HT2d.out.trans t3 (fun _ _ e => e))
  have HBac := Lib.hid (t3.blk HBac.out (fun e => e))
  have HBbc := Lib.hid (t3.blk HBbc.out (fun e => e))
  refine hKc _ _ ⟨t3, ?_⟩
  clear hKc Kc
  clear t3
  iterate 6
    refine plan_s1 rfl (by rfl) (fun Kc hKc => ?_)
    go_simp
    first
      | (refine hKc _ ?_)
    clear hKc Kc
  refine plan_hC rowCm rfl _ rfl rfl w.heap.size 0 rfl #[.int .i64 a.kind, .int .u64 a.client, .int .u64 a.req, .int .u64 a.id, .int .i64 a.con, .int .i64 a.at_, .int .i64 a.cal.off, .slice A a.cal.wk.length k, .slice B a.cal.cl.length m, .int .i64 a.tm.cal, .slice D a.tm.lv.length n, .int .i64 a.tm.rt, .int .i64 a.tm.bk] rfl (fun wh hT => (hT.blk HBac.out (fun e => e)).whole) ?_
  go_frame
  refine plan_hC rowCm rfl _ rfl rfl w.heap.size 0 rfl #[.int .i64 a.kind, .int .u64 a.client, .int .u64 a.req, .int .u64 a.id, .int .i64 a.con, .int .i64 a.at_, .int .i64 a.cal.off, .slice A a.cal.wk.length k, .slice B a.cal.cl.length m, .int .i64 a.tm.cal, .slice D a.tm.lv.length n, .int .i64 a.tm.rt, .int .i64 a.tm.bk] rfl (fun wh hT => (hT.blk HBac.out (fun e => e)).whole) ?_
  go_frame
  refine plan_a1 rfl (by rfl) (fun Kc hKc => ?_)
  go_simp
  refine (HSa.out _ (by exact HR.out.touch HT3.out (fun _ _ e => e))).mono ?_
  rintro e w4 ⟨rfl, t4⟩
  have HT4 := Lib.hid (HT3.out.trans t4 (fun _ _ e => e))
  have HBac := Lib.hid (t4.blk HBac.out (fun e => e))
  have HBbc := Lib.hid (t4.blk HBbc.out (fun e => e))
  refine hKc _ _ ⟨t4, ?_⟩
  clear hKc Kc
  clear t4
  refine plan_a1 rfl (by rfl) (fun Kc hKc => ?_)
  go_simp
  refine (HFa.out _ (by exact HR.out.touch HT4.out (fun _ _ e => e))).mono ?_
  rintro e w5 ⟨rfl, t5⟩
  have HT5 := Lib.hid (HT4.out.trans t5 (fun _ _ e => e))
  have HBac := Lib.hid (t5.blk HBac.out (fun e => e))
  have HBbc := Lib.hid (t5.blk HBbc.out (fun e => e))
  refine hKc _ _ ⟨t5, ?_⟩
  clear hKc Kc
  clear t5
  iterate 3
    refine plan_s1 rfl (by rfl) (fun Kc hKc => ?_)
    go_simp
    first
      | (refine hKc _ ?_)
    clear hKc Kc
  refine plan_hC rowCm rfl _ rfl rfl w.heap.size 0 rfl #[.int .i64 a.kind, .int .u64 a.client, .int .u64 a.req, .int .u64 a.id, .int .i64 a.con, .int .i64 a.at_, .int .i64 a.cal.off, .slice A a.cal.wk.length k, .slice B a.cal.cl.length m, .int .i64 a.tm.cal, .slice D a.tm.lv.length n, .int .i64 a.tm.rt, .int .i64 a.tm.bk] rfl (fun wh hT => (hT.blk HBac.out (fun e => e)).whole) ?_
  go_frame
  refine plan_hC rowCm rfl _ rfl rfl (w.heap.size + 1) 0 rfl #[.int .i64 b.kind, .int .u64 b.client, .int .u64 b.req, .int .u64 b.id, .int .i64 b.con, .int .i64 b.at_, .int .i64 b.cal.off, .slice A' b.cal.wk.length k', .slice B' b.cal.cl.length m', .int .i64 b.tm.cal, .slice D' b.tm.lv.length n', .int .i64 b.tm.rt, .int .i64 b.tm.bk] rfl (fun wh hT => (hT.blk HBbc.out (fun e => e)).whole) ?_
  go_frame
  refine plan_hC rowCm rfl _ rfl rfl w.heap.size 0 rfl #[.int .i64 a.kind, .int .u64 a.client, .int .u64 a.req, .int .u64 a.id, .int .i64 a.con, .int .i64 a.at_, .int .i64 a.cal.off, .slice A a.cal.wk.length k, .slice B a.cal.cl.length m, .int .i64 a.tm.cal, .slice D a.tm.lv.length n, .int .i64 a.tm.rt, .int .i64 a.tm.bk] rfl (fun wh hT => (hT.blk HBac.out (fun e => e)).whole) ?_
  go_frame
  refine plan_hC rowCm rfl _ rfl rfl (w.heap.size + 1) 0 rfl #[.int .i64 b.kind, .int .u64 b.client, .int .u64 b.req, .int .u64 b.id, .int .i64 b.con, .int .i64 b.at_, .int .i64 b.cal.off, .slice A' b.cal.wk.length k', .slice B' b.cal.cl.length m', .int .i64 b.tm.cal, .slice D' b.tm.lv.length n', .int .i64 b.tm.rt, .int .i64 b.tm.bk] rfl (fun wh hT => (hT.blk HBbc.out (fun e => e)).whole) ?_
  go_frame
  refine plan_a1 rfl (by rfl) (fun Kc hKc => ?_)
  go_simp
  refine (HSm.out _ (by exact HR.out.touch HT5.out (fun _ _ e => e)) (by exact HR'.out.touch HT5.out (fun _ _ e => e))).mono ?_
  rintro e w6 ⟨rfl, t6⟩
  have HT6 := Lib.hid (HT5.out.trans t6 (fun _ _ e => e))
  have HBac := Lib.hid (t6.blk HBac.out (fun e => e))
  have HBbc := Lib.hid (t6.blk HBbc.out (fun e => e))
  refine hKc _ _ ⟨t6, ?_⟩
  clear hKc Kc
  clear t6
  refine plan_a1 rfl (by rfl) (fun Kc hKc => ?_)
  go_simp
  refine (HFm.out _ (by exact HR.out.touch HT6.out (fun _ _ e => e)) (by exact HR'.out.touch HT6.out (fun _ _ e => e))).mono ?_
  rintro e w7 ⟨rfl, t7⟩
  have HT7 := Lib.hid (HT6.out.trans t7 (fun _ _ e => e))
  have HBac := Lib.hid (t7.blk HBac.out (fun e => e))
  have HBbc := Lib.hid (t7.blk HBbc.out (fun e => e))
  refine hKc _ _ ⟨t7, ?_⟩
  clear hKc Kc
  clear t7
  iterate 3
    refine plan_s1 rfl (by rfl) (fun Kc hKc => ?_)
    go_simp
    first
      | (refine hKc _ ?_)
    clear hKc Kc
  refine plan_hC rowCm rfl _ rfl rfl w.heap.size 0 rfl #[.int .i64 a.kind, .int .u64 a.client, .int .u64 a.req, .int .u64 a.id, .int .i64 a.con, .int .i64 a.at_, .int .i64 a.cal.off, .slice A a.cal.wk.length k, .slice B a.cal.cl.length m, .int .i64 a.tm.cal, .slice D a.tm.lv.length n, .int .i64 a.tm.rt, .int .i64 a.tm.bk] rfl (fun wh hT => (hT.blk HBac.out (fun e => e)).whole) ?_
  go_frame
  refine plan_hC rowCm rfl _ rfl rfl w.heap.size 0 rfl #[.int .i64 a.kind, .int .u64 a.client, .int .u64 a.req, .int .u64 a.id, .int .i64 a.con, .int .i64 a.at_, .int .i64 a.cal.off, .slice A a.cal.wk.length k, .slice B a.cal.cl.length m, .int .i64 a.tm.cal, .slice D a.tm.lv.length n, .int .i64 a.tm.rt, .int .i64 a.tm.bk] rfl (fun wh hT => (hT.blk HBac.out (fun e => e)).whole) ?_
  go_frame
  refine plan_a1 rfl (by rfl) (fun Kc hKc => ?_)
  go_simp
  refine (HSs.out _ (by exact HR.out.touch HT7.out (fun _ _ e => e))).mono ?_
  rintro e w8 ⟨rfl, t8⟩
  have HT8 := Lib.hid (HT7.out.trans t8 (fun _ _ e => e))
  have HBac := Lib.hid (t8.blk HBac.out (fun e => e))
  have HBbc := Lib.hid (t8.blk HBbc.out (fun e => e))
  refine hKc _ _ ⟨t8, ?_⟩
  clear hKc Kc
  clear t8
  iterate 2
    refine plan_s1 rfl (by rfl) (fun Kc hKc => ?_)
    go_simp
    first
      | (refine hKc _ ?_)
    clear hKc Kc
  refine plan_a1 rfl (by rfl) (fun Kc hKc => ?_)
  go_simp
  refine (lives18_any _).mono ?_
  rintro e w9 ⟨rfl, t9⟩
  have HT9 := Lib.hid (HT8.out.trans t9 (fun _ _ e => e))
  refine hKc _ _ ⟨t9, ?_⟩
  clear hKc Kc
  clear t9
  iterate 2
    refine plan_s1 rfl (by rfl) (fun Kc hKc => ?_)
    go_simp
    first
      | (refine hKc _ ?_)
    clear hKc Kc
  refine plan_done ?_
  go_wp2
  go_ret
  exact ⟨rfl, HT9.out.below⟩
end Go.Proofs.Ytcblbjhhlnmkjaa
