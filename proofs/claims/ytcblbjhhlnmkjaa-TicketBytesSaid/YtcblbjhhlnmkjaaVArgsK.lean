/- TicketBytes, walked. (written by gentke.py) A ticket among the arguments, opened. -/
import Derived.Test.YtcblbjhhlnmkjaaVQuillZ
import Derived.Test.YtcblbjhhlnmkjaaVRepO
import Derived.Test.YtcblbjhhlnmkjaaVRepI
import Derived.Test.YtcblbjhhlnmkjaaVQuillY
import Derived.Test.YtcblbjhhlnmkjaaVQuillG
import Derived.Test.YtcblbjhhlnmkjaaArgsT
section
namespace Go.Proofs.Ytcblbjhhlnmkjaa
open Go.RowKit Cal
set_option maxHeartbeats 4000000
set_option maxRecDepth 100000
set_option linter.unusedVariables false
attribute [local irreducible] wpPlan

theorem left_st (g : Nat) (F : Nat → Prop) (l : List UInt8) (bad : Bool) (w : World) (h : RdAt w g F l bad) :
    Calls Try.prog 46 #[.pointer (some ⟨g, 0, none⟩)] w fun e w' => e = .returned (.int .i64 l.length) ∧ w = w' := by
  obtain ⟨_, A, cap, _, _, hb, _⟩ := h
  exact left_any g A l.length cap bad w hb
theorem bad_st (g : Nat) (F : Nat → Prop) (l : List UInt8) (bad : Bool) (w : World) (h : RdAt w g F l bad) :
    Calls Try.prog 47 #[.pointer (some ⟨g, 0, none⟩)] w fun e w' => e = .returned (.bool bad) ∧ w = w' := by
  obtain ⟨_, A, cap, _, _, hb, _⟩ := h
  exact bad_any g A l.length cap bad w hb
theorem Rd.insideC {w : World} {F : Nat → Prop} {A : Option Addr} {n : Nat} {xs : List Value} (h : Rd w F A n xs) : Rd w (fun k => F k ∧ k < w.heap.size) A n xs :=
  ⟨h.1, fun hn => by obtain ⟨g, off, e, hl, hf, hc⟩ := h.2 hn; exact ⟨g, off, e, hl, ⟨hf, hl⟩, hc⟩⟩
theorem tb_no {w : World} (t : TkV) (ht : t.ok) (hs : tkSound t = false) (D : Option Addr) (nd cd : Nat) (lb : List UInt8) (e1 : lb.length = nd) (u1 : nd ≤ cd) (m1 : cd ≤ maxLen) (s1 : Rd w (fun q => q < w.heap.size) D nd (lb.map B8)) (hnd : ¬ (3000 : Int) < nd) :
    Calls Try.prog 10 #[.agg #[.int .u64 t.id, .int .i64 t.contract, .int .i64 t.state, .int .i64 t.level, .int .u64 t.gen, .int .i64 t.from_, .int .i64 t.left, .int .i64 t.due, .int .i64 t.told], .slice D nd cd] w fun e w' => e = .returned (.bool true) ∧ Below w.heap.size w w' := by
  subst e1
  have HA := Lib.hid ((Touch.refl (fun _ => False) w).alloc (.cells #[.int .u64 t.id, .int .i64 t.contract, .int .i64 t.state, .int .i64 t.level, .int .u64 t.gen, .int .i64 t.from_, .int .i64 t.left, .int .i64 t.due, .int .i64 t.told] 74))
  have HB := Lib.hid (Blk.new w 74 #[.int .u64 t.id, .int .i64 t.contract, .int .i64 t.state, .int .i64 t.level, .int .u64 t.gen, .int .i64 t.from_, .int .i64 t.left, .int .i64 t.due, .int .i64 t.told])
  have HBb := Lib.hid (s1.touch HA.out (fun _ _ e => e))
  have HRD := Lib.hid (fun g F w1 h h1 h2 => ttread_any g F false lb w1 h h1 h2)
  have HRF := Lib.hid (fun g F w1 h h1 h2 => ftread_any g F false lb w1 h h1 h2)
  unfold TkPost at HRD
  unfold FTkPost at HRF
  generalize tkGood (rdTk (false, lb)) = okq at *
  generalize tkRes (rdTk (false, lb)) = tr at *
  obtain ⟨tq, bq, lq⟩ := tr
  simp only at HRD HRF
  have HS1 := Lib.hid (fun w1 => ttk_any t w1 ht)
  have HS2 := Lib.hid (fun w1 => rtk_any t w1 ht)
  rw [hs] at HS1 HS2
  clear s1
  go_enter Try.func10, Try.ntmps10
  go_wp2_with fail
  have HBd := Lib.hid (((Touch.refl (fun _ => False) (w.alloc (.cells #[.int .u64 t.id, .int .i64 t.contract, .int .i64 t.state, .int .i64 t.level, .int .u64 t.gen, .int .i64 t.from_, .int .i64 t.left, .int .i64 t.due, .int .i64 t.told] 74))).drew).blk HB.out (fun e => e))
  refine wp_region_plan [(0, 0), (1, 2), (2, 1), (2, 3), (0, 4)] (fun _ => False) (by kernel_rfl) (by kernel_rfl) (fun c a d v w h => by cases d <;> exact h) ?_
  iterate 1
    refine plan_s1 rfl (by rfl) (fun Kc hKc => ?_)
    go_simp
    first
      | (refine hKc _ ?_)
    clear hKc Kc
  iterate 1
    apply plan_h
    · rfl
    · rfl
    · intro wh hT
      have hbh := hT.blk HBd.out (fun e => e)
      have hf1 := (hbh.cell 0 : wh.cell? ⟨w.heap.size, 0, none⟩ = some (.int .u64 t.id))
      have hf2 := (hbh.cell 1 : wh.cell? ⟨w.heap.size, 1, none⟩ = some (.int .i64 t.contract))
      have hf3 := (hbh.cell 2 : wh.cell? ⟨w.heap.size, 2, none⟩ = some (.int .i64 t.state))
      have hf4 := (hbh.cell 3 : wh.cell? ⟨w.heap.size, 3, none⟩ = some (.int .i64 t.level))
      have hf5 := (hbh.cell 4 : wh.cell? ⟨w.heap.size, 4, none⟩ = some (.int .u64 t.gen))
      have hf6 := (hbh.cell 5 : wh.cell? ⟨w.heap.size, 5, none⟩ = some (.int .i64 t.from_))
      have hf7 := (hbh.cell 6 : wh.cell? ⟨w.heap.size, 6, none⟩ = some (.int .i64 t.left))
      have hf8 := (hbh.cell 7 : wh.cell? ⟨w.heap.size, 7, none⟩ = some (.int .i64 t.due))
      have hf9 := (hbh.cell 8 : wh.cell? ⟨w.heap.size, 8, none⟩ = some (.int .i64 t.told))
      clear hbh
      go_simp
      try rfl
    go_frame
  refine plan_a1 rfl (by rfl) (fun Kc hKc => ?_)
  go_simp
  refine (HS1.out _).mono ?_
  rintro e w1 ⟨rfl, t1⟩
  refine hKc _ _ ⟨t1, ?_⟩
  clear hKc Kc
  refine plan_a1 rfl (by rfl) (fun Kc hKc => ?_)
  go_simp
  refine (HS2.out _).mono ?_
  rintro e w2 ⟨rfl, t2⟩
  refine hKc _ _ ⟨t2, ?_⟩
  clear hKc Kc
  have HT2 := Lib.hid (((Touch.refl (fun _ => False) (w.alloc (.cells #[.int .u64 t.id, .int .i64 t.contract, .int .i64 t.state, .int .i64 t.level, .int .u64 t.gen, .int .i64 t.from_, .int .i64 t.left, .int .i64 t.due, .int .i64 t.told] 74))).drew.trans t1 (fun _ _ e => e)).trans t2 (fun _ _ e => e))
  clear t1 t2
  have hbx := HT2.out.blk HB.out (fun e => e)
  have x0 := hbx.cell 0; have x1 := hbx.cell 1; have x2 := hbx.cell 2; have x3 := hbx.cell 3; have x4 := hbx.cell 4; have x5 := hbx.cell 5; have x6 := hbx.cell 6; have x7 := hbx.cell 7; have x8 := hbx.cell 8; simp at x0 x1 x2 x3 x4 x5 x6 x7 x8
  clear hbx
  iterate 1
    refine plan_s1 rfl (by rfl) (fun Kc hKc => ?_)
    go_simp
    first
      | (refine hKc _ ?_)
    clear hKc Kc
  refine plan_done ?_
  go_wp2_with (first
    | (go_at_call 42; have HM9 := HT3; go_must (refine (open_any _ _ _ _).mono ?_); rintro e w4 ⟨rfl, rfl⟩)
    | (go_at_call 39; go_must (refine (HS2.out _).mono ?_); rintro e w3 ⟨rfl, t3⟩; have HT3 := Lib.hid (HT2.out.trans t3 (fun _ _ e => e)); clear t3))
  obtain ⟨wa, hwa⟩ : ∃ wa, wa = (w3.alloc (.cells #[.slice D lb.length cd, .bool false] 157)).alloc (.cells #[.slice D lb.length cd, .bool false] 88) := ⟨_, rfl⟩
  have hTa : Touch (fun _ => False) w3 wa := hwa ▸ ((Touch.refl _ w3).alloc _).alloc _
  have hza : w3.heap.size + 2 ≤ wa.heap.size := by rw [hwa]; simp
  have HTw := Lib.hid (HT3.out.trans hTa (fun _ _ e => e))
  have hzw : w.heap.size + 1 ≤ w3.heap.size := by have := HT3.out.size; simpa using this
  have hBa : Rd wa (fun q => q < w.heap.size) D lb.length (lb.map B8) := ((HBb.out.touch HT3.out (fun _ _ e => e)).touch hTa (fun _ _ e => e))
  have HD := Lib.hid (show RdAt wa w3.heap.size (fun q => q < w.heap.size) lb false from ⟨by omega, D, cd, u1, m1, hwa ▸ (Blk.new w3 157 #[.slice D lb.length cd, .bool false]).alloc _, hBa⟩)
  have HE := Lib.hid (show RfAt wa (w3.heap.size + 1) (fun q => q < w.heap.size) lb false from ⟨by omega, D, cd, u1, m1, hwa ▸ (by simpa using Blk.new (w3.alloc (.cells #[.slice D lb.length cd, .bool false] 157)) 88 #[.slice D lb.length cd, .bool false]), hBa⟩)
  have HWA := Lib.hid hwa
  have HWz := Lib.hid hzw
  generalize w3.heap.size = g at *
  clear hwa hTa hzw hBa
  go_wp2_with fail
  rw [← HWA.out]
  clear HWA
  refine (HRD.out g (fun q => q < w.heap.size) wa (by exact HD.out) (by omega) (by intro k hk; have := HWz.out; omega)).mono ?_
  rintro e wb ⟨rfl, hdb, tb⟩
  simp only [TkN.cells]
  have hzab := tb.size
  have HEb := Lib.hid (rfAt_touch HE.out tb (by omega) (by intro k hk e; have := HWz.out; omega))
  have HDb := Lib.hid hdb
  have HTb := Lib.hid (HTw.out.trans tb (fun k hk e => by have := HWz.out; simp at hk; omega))
  clear hdb tb HTw HD HE
  go_wp2_with fail
  have HAl := Lib.hid ((Touch.refl (fun _ => False) wb).alloc (.cells #[.int .u64 tq.id, .int .i64 tq.contract, .int .i64 tq.state, .int .i64 tq.level, .int .u64 tq.gen, .int .i64 tq.from_, .int .i64 tq.left, .int .i64 tq.due, .int .i64 tq.told] 74))
  refine (HRF.out (g + 1) (fun q => q < w.heap.size) _ (by exact rfAt_touch HEb.out HAl.out (fun e => e) (fun _ _ e => e)) (by simp; omega) (by intro k hk; have := HWz.out; simp; omega)).mono ?_
  rintro e wc ⟨rfl, hec, tc⟩
  simp only [TkN.cells]
  have hzc : wb.heap.size + 1 ≤ wc.heap.size := by have := tc.size; simpa using this
  have HBb2 := Lib.hid (tc.blk (Blk.new wb 74 #[.int .u64 tq.id, .int .i64 tq.contract, .int .i64 tq.state, .int .i64 tq.level, .int .u64 tq.gen, .int .i64 tq.from_, .int .i64 tq.left, .int .i64 tq.due, .int .i64 tq.told]) (by omega))
  have HDc := Lib.hid (rdAt_touch (rdAt_touch HDb.out HAl.out (fun e => e) (fun _ _ e => e)) tc (by omega) (by intro k hk e; have := HWz.out; omega))
  have HTc := Lib.hid ((HTb.out.trans HAl.out (fun _ _ e => e)).trans tc (fun k hk e => by have := HWz.out; simp at hk; omega))
  have HEc := Lib.hid hec
  clear hec tc HAl HDb HEb HTb
  obtain ⟨wd, hwd⟩ : ∃ wd, wd = wc.alloc (.cells #[.int .u64 tq.id, .int .i64 tq.contract, .int .i64 tq.state, .int .i64 tq.level, .int .u64 tq.gen, .int .i64 tq.from_, .int .i64 tq.left, .int .i64 tq.due, .int .i64 tq.told] 74) := ⟨_, rfl⟩
  have HAl := Lib.hid (show Touch (fun _ => False) wc wd from hwd ▸ ((Touch.refl (fun _ => False) wc).alloc (.cells #[.int .u64 tq.id, .int .i64 tq.contract, .int .i64 tq.state, .int .i64 tq.level, .int .u64 tq.gen, .int .i64 tq.from_, .int .i64 tq.left, .int .i64 tq.due, .int .i64 tq.told] 74)))
  have HBc := Lib.hid (show Blk wd wc.heap.size 74 #[.int .u64 tq.id, .int .i64 tq.contract, .int .i64 tq.state, .int .i64 tq.level, .int .u64 tq.gen, .int .i64 tq.from_, .int .i64 tq.left, .int .i64 tq.due, .int .i64 tq.told] from hwd ▸ Blk.new wc 74 _)
  have HWD := Lib.hid hwd
  clear hwd
  go_wp2_with fail
  rw [← HWD.out]
  clear HWD
  have hbb := HAl.out.blk HBb2.out (fun e => e)
  have HDd := Lib.hid (rdAt_touch HDc.out HAl.out (fun e => e) (fun _ _ e => e))
  have HTd := Lib.hid (HTc.out.trans HAl.out (fun _ _ e => e))
  obtain ⟨_, Ae, ce, hle, hme, hbe, _⟩ := rfAt_touch HEc.out HAl.out (fun e => e) (fun _ _ e => e)
  have y0 := hbe.cell 0; have y1 := hbe.cell 1
  simp at y0 y1
  have q0 := hbb.cell 0; have q1 := hbb.cell 1; have q2 := hbb.cell 2; have q3 := hbb.cell 3; have q4 := hbb.cell 4; have q5 := hbb.cell 5; have q6 := hbb.cell 6; have q7 := hbb.cell 7; have q8 := hbb.cell 8; simp at q0 q1 q2 q3 q4 q5 q6 q7 q8
  have p0 := HBc.out.cell 0; have p1 := HBc.out.cell 1; have p2 := HBc.out.cell 2; have p3 := HBc.out.cell 3; have p4 := HBc.out.cell 4; have p5 := HBc.out.cell 5; have p6 := HBc.out.cell 6; have p7 := HBc.out.cell 7; have p8 := HBc.out.cell 8; simp at p0 p1 p2 p3 p4 p5 p6 p7 p8
  clear hbe hle hme hbb
  have HDf := Lib.hid (rdAt_touch HDd.out ((Touch.refl (fun _ => False) wd).drew) (fun e => e) (fun _ _ e => e))
  refine wp_region_plan [(0, 0), (0, 1), (0, 2), (0, 3), (0, 4), (0, 5), (0, 6), (0, 7), (0, 8), (0, 9), (0, 10), (0, 11), (0, 12), (0, 13), (0, 14), (0, 15), (0, 16), (0, 17), (0, 18), (0, 19), (0, 20), (0, 21), (0, 22), (0, 23), (0, 24), (0, 25), (0, 26), (0, 27), (2, 28), (0, 29), (0, 30)] (fun _ => False) (by kernel_rfl) (by kernel_rfl) (fun c a d v w h => by cases d <;> exact h) ?_
  iterate 28
    refine plan_s1 rfl (by rfl) (fun Kc hKc => ?_)
    go_simp
    first
      | (refine hKc _ ?_)
      | (refine ⟨_, calls_flip (left_st g (fun q => q < w.heap.size) lq bq _ (by exact HDf.out)), hKc _ ?_⟩)
      | (refine ⟨_, calls_flip (bad_st g (fun q => q < w.heap.size) lq bq _ (by exact HDf.out)), hKc _ ?_⟩)
    clear hKc Kc
  refine plan_a1 rfl (by rfl) (fun Kc hKc => ?_)
  go_simp
  refine (lives16_any _).mono ?_
  rintro e we ⟨rfl, te⟩
  refine hKc _ _ ⟨te, ?_⟩
  clear hKc Kc
  have HTe := Lib.hid (HTd.out.drew.trans te (fun _ _ e => e))
  clear te
  iterate 2
    refine plan_s1 rfl (by rfl) (fun Kc hKc => ?_)
    go_simp
    first
      | (refine hKc _ ?_)
    clear hKc Kc
  refine plan_done ?_
  go_wp2_with fail
  go_ret
  exact ⟨ret_bool (by simp), (HA.out.trans HTe.out (fun _ _ e => e)).below⟩
theorem tb_yes {w : World} (n : TkN) (ht : n.ok) (hb : n.bd) (hs : tkSound n.v = true) (D : Option Addr) (nd cd : Nat) (lb : List UInt8) (e1 : lb.length = nd) (u1 : nd ≤ cd) (m1 : cd ≤ maxLen) (s1 : Rd w (fun q => q < w.heap.size) D nd (lb.map B8)) (hnd : ¬ (3000 : Int) < nd) :
    Calls Try.prog 10 #[.agg #[.int .u64 n.id, .int .i64 n.contract, .int .i64 n.state, .int .i64 n.level, .int .u64 n.gen, .int .i64 n.from_, .int .i64 n.left, .int .i64 n.due, .int .i64 n.told], .slice D nd cd] w fun e w' => e = .returned (.bool true) ∧ Below w.heap.size w w' := by
  subst e1
  have HA := Lib.hid ((Touch.refl (fun _ => False) w).alloc (.cells #[.int .u64 n.id, .int .i64 n.contract, .int .i64 n.state, .int .i64 n.level, .int .u64 n.gen, .int .i64 n.from_, .int .i64 n.left, .int .i64 n.due, .int .i64 n.told] 74))
  have HB := Lib.hid (Blk.new w 74 #[.int .u64 n.id, .int .i64 n.contract, .int .i64 n.state, .int .i64 n.level, .int .u64 n.gen, .int .i64 n.from_, .int .i64 n.left, .int .i64 n.due, .int .i64 n.told])
  have HBb := Lib.hid (s1.touch HA.out (fun _ _ e => e))
  have HRD := Lib.hid (fun g F w1 h h1 h2 => ttread_any g F false lb w1 h h1 h2)
  have HRF := Lib.hid (fun g F w1 h h1 h2 => ftread_any g F false lb w1 h h1 h2)
  unfold TkPost at HRD
  unfold FTkPost at HRF
  generalize tkGood (rdTk (false, lb)) = okq at *
  generalize tkRes (rdTk (false, lb)) = tr at *
  obtain ⟨tq, bq, lq⟩ := tr
  simp only at HRD HRF
  have hvo : n.v.ok := by obtain ⟨b1, b2, b3, b4, b5, b6, b7, b8⟩ := hb; simp only [TkN.v, TkV.ok]; omega
  have HS1 := Lib.hid (fun w1 => ttk_any n.v w1 hvo)
  have HS2 := Lib.hid (fun w1 => rtk_any n.v w1 hvo)
  rw [hs] at HS1 HS2
  simp only [TkN.v] at HS1 HS2
  clear s1
  go_enter Try.func10, Try.ntmps10
  go_wp2_with fail
  have HBd := Lib.hid (((Touch.refl (fun _ => False) (w.alloc (.cells #[.int .u64 n.id, .int .i64 n.contract, .int .i64 n.state, .int .i64 n.level, .int .u64 n.gen, .int .i64 n.from_, .int .i64 n.left, .int .i64 n.due, .int .i64 n.told] 74))).drew).blk HB.out (fun e => e))
  refine wp_region_plan [(0, 0), (1, 2), (2, 1), (2, 3), (0, 4)] (fun _ => False) (by kernel_rfl) (by kernel_rfl) (fun c a d v w h => by cases d <;> exact h) ?_
  iterate 1
    refine plan_s1 rfl (by rfl) (fun Kc hKc => ?_)
    go_simp
    first
      | (refine hKc _ ?_)
    clear hKc Kc
  iterate 1
    apply plan_h
    · rfl
    · rfl
    · intro wh hT
      have hbh := hT.blk HBd.out (fun e => e)
      have hf1 := (hbh.cell 0 : wh.cell? ⟨w.heap.size, 0, none⟩ = some (.int .u64 n.id))
      have hf2 := (hbh.cell 1 : wh.cell? ⟨w.heap.size, 1, none⟩ = some (.int .i64 n.contract))
      have hf3 := (hbh.cell 2 : wh.cell? ⟨w.heap.size, 2, none⟩ = some (.int .i64 n.state))
      have hf4 := (hbh.cell 3 : wh.cell? ⟨w.heap.size, 3, none⟩ = some (.int .i64 n.level))
      have hf5 := (hbh.cell 4 : wh.cell? ⟨w.heap.size, 4, none⟩ = some (.int .u64 n.gen))
      have hf6 := (hbh.cell 5 : wh.cell? ⟨w.heap.size, 5, none⟩ = some (.int .i64 n.from_))
      have hf7 := (hbh.cell 6 : wh.cell? ⟨w.heap.size, 6, none⟩ = some (.int .i64 n.left))
      have hf8 := (hbh.cell 7 : wh.cell? ⟨w.heap.size, 7, none⟩ = some (.int .i64 n.due))
      have hf9 := (hbh.cell 8 : wh.cell? ⟨w.heap.size, 8, none⟩ = some (.int .i64 n.told))
      clear hbh
      go_simp
      try rfl
    go_frame
  refine plan_a1 rfl (by rfl) (fun Kc hKc => ?_)
  go_simp
  refine (HS1.out _).mono ?_
  rintro e w1 ⟨rfl, t1⟩
  refine hKc _ _ ⟨t1, ?_⟩
  clear hKc Kc
  refine plan_a1 rfl (by rfl) (fun Kc hKc => ?_)
  go_simp
  refine (HS2.out _).mono ?_
  rintro e w2 ⟨rfl, t2⟩
  refine hKc _ _ ⟨t2, ?_⟩
  clear hKc Kc
  have HT2 := Lib.hid (((Touch.refl (fun _ => False) (w.alloc (.cells #[.int .u64 n.id, .int .i64 n.contract, .int .i64 n.state, .int .i64 n.level, .int .u64 n.gen, .int .i64 n.from_, .int .i64 n.left, .int .i64 n.due, .int .i64 n.told] 74))).drew.trans t1 (fun _ _ e => e)).trans t2 (fun _ _ e => e))
  clear t1 t2
  have hbx := HT2.out.blk HB.out (fun e => e)
  have x0 := hbx.cell 0; have x1 := hbx.cell 1; have x2 := hbx.cell 2; have x3 := hbx.cell 3; have x4 := hbx.cell 4; have x5 := hbx.cell 5; have x6 := hbx.cell 6; have x7 := hbx.cell 7; have x8 := hbx.cell 8; simp at x0 x1 x2 x3 x4 x5 x6 x7 x8
  clear hbx
  iterate 1
    refine plan_s1 rfl (by rfl) (fun Kc hKc => ?_)
    go_simp
    first
      | (refine hKc _ ?_)
    clear hKc Kc
  refine plan_done ?_
  have hel : (encs n.nums).length ≤ 81 := by have := encs_len n.nums; simpa [TkN.nums] using this
  have hrt : rdTk (false, encs n.nums) = (n, false, []) := by have := rdTk_write n false [] ht hb; rwa [List.append_nil] at this
  have hgd : tkGood (rdTk (false, encs n.nums)) = true := by rw [hrt, tkGood]; simpa using hs
  have hrs : tkRes (rdTk (false, encs n.nums)) = (n, false, []) := by rw [tkRes, if_pos hgd, hrt]
  have HRX := fun g F w1 h h1 h2 => ttread_any g F false (encs n.nums) w1 h h1 h2
  unfold TkPost at HRX
  rw [hgd, hrs] at HRX
  simp only [TkN.cells] at HRX
  have HRX := Lib.hid HRX
  have HPut := Lib.hid (fun g w1 (hw : WAt w1 g none []) => tput_any g none [] n w1 w1 (WGo.start hw) ht hb (by simp))
  simp only [List.nil_append] at HPut
  have HFp := Lib.hid (fun w1 => ftk_any n w1 ht hb)
  generalize encs n.nums = eb at *
  clear hrt hgd hrs
  go_wp2_with (first
    | (go_at_call 39; go_must (refine (HS2.out _).mono ?_); rintro e w6 ⟨rfl, t6⟩
       have HT6 := Lib.hid (HT2.out.trans t6 (fun _ _ e => e))
       have hz6 : w.heap.size + 1 ≤ w6.heap.size := by have := HT6.out.size; simpa using this
       have hne6 : ¬ w.heap.size = w6.heap.size := by omega
       have hb6 := HT6.out.blk HB.out (fun e => e)
       clear x0 x1 x2 x3 x4 x5 x6 x7 x8 t6
       have x0 : (w6.alloc (.cells #[.slice none 0 0] 77)).cell? ⟨w.heap.size, 0, none⟩ = some (.int .u64 n.id) := (hb6.alloc _).cell 0; have x1 : (w6.alloc (.cells #[.slice none 0 0] 77)).cell? ⟨w.heap.size, 1, none⟩ = some (.int .i64 n.contract) := (hb6.alloc _).cell 1; have x2 : (w6.alloc (.cells #[.slice none 0 0] 77)).cell? ⟨w.heap.size, 2, none⟩ = some (.int .i64 n.state) := (hb6.alloc _).cell 2; have x3 : (w6.alloc (.cells #[.slice none 0 0] 77)).cell? ⟨w.heap.size, 3, none⟩ = some (.int .i64 n.level) := (hb6.alloc _).cell 3; have x4 : (w6.alloc (.cells #[.slice none 0 0] 77)).cell? ⟨w.heap.size, 4, none⟩ = some (.int .u64 n.gen) := (hb6.alloc _).cell 4; have x5 : (w6.alloc (.cells #[.slice none 0 0] 77)).cell? ⟨w.heap.size, 5, none⟩ = some (.int .i64 n.from_) := (hb6.alloc _).cell 5; have x6 : (w6.alloc (.cells #[.slice none 0 0] 77)).cell? ⟨w.heap.size, 6, none⟩ = some (.int .i64 n.left) := (hb6.alloc _).cell 6; have x7 : (w6.alloc (.cells #[.slice none 0 0] 77)).cell? ⟨w.heap.size, 7, none⟩ = some (.int .i64 n.due) := (hb6.alloc _).cell 7; have x8 : (w6.alloc (.cells #[.slice none 0 0] 77)).cell? ⟨w.heap.size, 8, none⟩ = some (.int .i64 n.told) := (hb6.alloc _).cell 8
       have HW0 := Lib.hid (show WAt (w6.alloc (.cells #[.slice none 0 0] 77)) w6.heap.size none [] from ⟨by simp, _, Blk.new w6 77 #[.slice none 0 0], Own.nil _ _ _⟩)
       clear hb6)
    | (go_at_call 40
       go_must (refine (HPut.out w6.heap.size _ (by exact HW0.out)).mono ?_)
       rintro e w7 ⟨rfl, r7, hw7, t7, hf7⟩
       have HT7 := Lib.hid ((HT6.out.alloc (.cells #[.slice none 0 0] 77)).trans t7 (fun k hk e => by rcases e with e | e; (simp at hk; omega); cases e))
       have hz7 : w6.heap.size + 1 ≤ w7.heap.size := by have := t7.size; simpa using this
       have HN7 := Lib.hid (show (∀ k, r7 = some k → k < w7.heap.size) from hw7.ltr)
       have HW7 := Lib.hid hw7
       clear t7 hw7 hf7 x0 x1 x2 x3 x4 x5 x6 x7 x8)
    | (go_at_call 43
       go_must (refine (wbytes_any w6.heap.size r7 eb _ (by exact HW7.out) (by omega)).mono ?_)
       rintro e w8 ⟨A8, c8, rfl, u8, m8, hr8, t8⟩
       simp only [List.length_map] at u8 hr8 ⊢
       have HU8 := Lib.hid (And.intro u8 m8)
       have hz8 : w7.heap.size ≤ w8.heap.size := t8.size
       have HR8 := Lib.hid hr8.insideC
       have HT8 := Lib.hid (HT7.out.trans t8 (fun _ _ e => e))
       have HW8 := Lib.hid (HW7.out.touch t8 (fun e => e) (fun _ _ e => e))
       clear u8 m8 hr8 t8)
    | (go_at_call 42; have HM9 := HR8; go_must (refine (open_any _ _ _ _).mono ?_); rintro e w9 ⟨rfl, rfl⟩)
    | (go_at_call 41
       go_must (refine (HRX.out w8.heap.size (fun k => w7.heap.size ≤ k ∧ k < w8.heap.size) _ (by exact ⟨fun h => by omega, A8, c8, HU8.out.1, HU8.out.2, Blk.new _ _ _, HR8.out.touch ((Touch.refl (fun _ => False) w8).alloc _) (fun _ _ e => e)⟩) (by simp) (by intro k hk; simp; omega)).mono ?_)
       rintro e w9 ⟨rfl, -, t9⟩
       have hz9 : w8.heap.size + 1 ≤ w9.heap.size := by have := t9.size; simpa using this
       have HT9 := Lib.hid ((HT8.out.alloc (.cells #[.slice A8 eb.length c8, .bool false] 157)).trans t9 (fun k hk e => by simp at hk; omega))
       have HW9 := Lib.hid ((HW8.out.touch ((Touch.refl (fun _ => False) w8).alloc (.cells #[.slice A8 eb.length c8, .bool false] 157)) (fun e => e) (fun _ _ e => e)).touch t9 (by omega) (fun k hk e => by have := HN7.out k hk; omega))
       clear t9))
  obtain ⟨wA, hwA⟩ : ∃ wA, wA = w9.alloc (.cells #[.int .u64 n.id, .int .i64 n.contract, .int .i64 n.state, .int .i64 n.level, .int .u64 n.gen, .int .i64 n.from_, .int .i64 n.left, .int .i64 n.due, .int .i64 n.told] 74) := ⟨_, rfl⟩
  have hAl : Touch (fun _ => False) w9 wA := hwA ▸ ((Touch.refl (fun _ => False) w9).alloc (.cells #[.int .u64 n.id, .int .i64 n.contract, .int .i64 n.state, .int .i64 n.level, .int .u64 n.gen, .int .i64 n.from_, .int .i64 n.left, .int .i64 n.due, .int .i64 n.told] 74))
  have HB9 := Lib.hid (show Blk wA w9.heap.size 74 #[.int .u64 n.id, .int .i64 n.contract, .int .i64 n.state, .int .i64 n.level, .int .u64 n.gen, .int .i64 n.from_, .int .i64 n.left, .int .i64 n.due, .int .i64 n.told] from hwA ▸ Blk.new w9 74 _)
  have HTA := Lib.hid (HT9.out.trans hAl (fun _ _ e => e))
  have HWA := Lib.hid (HW9.out.touch hAl (fun e => e) (fun _ _ e => e))
  have HWEQ := Lib.hid hwA
  clear hwA hAl
  rw [← HWEQ.out]
  clear HWEQ HT9 HW9 HW8 HT8 HR8 HT7 HW7 HT6 HU8
  have HTd := Lib.hid (HTA.out.trans ((Touch.refl (fun _ => False) wA).drew) (fun _ _ e => e))
  have HDr := Lib.hid ((Touch.refl (fun _ => False) wA).drew)
  have hbx := HTd.out.blk HB.out (fun e => e)
  have x0 := hbx.cell 0; have x1 := hbx.cell 1; have x2 := hbx.cell 2; have x3 := hbx.cell 3; have x4 := hbx.cell 4; have x5 := hbx.cell 5; have x6 := hbx.cell 6; have x7 := hbx.cell 7; have x8 := hbx.cell 8; simp at x0 x1 x2 x3 x4 x5 x6 x7 x8
  have hlx := hbx.lt
  clear hbx
  refine wp_region_plan [(1, 2), (2, 0), (1, 1), (2, 3), (0, 4), (0, 5), (0, 6), (0, 7), (0, 8), (0, 9), (0, 10), (0, 11), (0, 12), (0, 13), (0, 14)] (fun _ => False) (by kernel_rfl) (by kernel_rfl) (fun c a d v w h => by cases d <;> exact h) ?_
  iterate 1
    apply plan_h
    · rfl
    · rfl
    · intro wh hT
      have hf0 := (hT.cell (p := ⟨w.heap.size, 0, none⟩) hlx (fun e => e)).trans x0
      have hf1 := (hT.cell (p := ⟨w.heap.size, 1, none⟩) hlx (fun e => e)).trans x1
      have hf2 := (hT.cell (p := ⟨w.heap.size, 2, none⟩) hlx (fun e => e)).trans x2
      have hf3 := (hT.cell (p := ⟨w.heap.size, 3, none⟩) hlx (fun e => e)).trans x3
      have hf4 := (hT.cell (p := ⟨w.heap.size, 4, none⟩) hlx (fun e => e)).trans x4
      have hf5 := (hT.cell (p := ⟨w.heap.size, 5, none⟩) hlx (fun e => e)).trans x5
      have hf6 := (hT.cell (p := ⟨w.heap.size, 6, none⟩) hlx (fun e => e)).trans x6
      have hf7 := (hT.cell (p := ⟨w.heap.size, 7, none⟩) hlx (fun e => e)).trans x7
      have hf8 := (hT.cell (p := ⟨w.heap.size, 8, none⟩) hlx (fun e => e)).trans x8
      go_simp
      try rfl
    go_frame
  refine plan_a1 rfl (by rfl) (fun Kc hKc => ?_)
  go_simp
  refine (wbytes_any w6.heap.size r7 eb _ (by exact HWA.out.touch HDr.out (fun e => e) (fun _ _ e => e)) (by omega)).mono ?_
  rintro e w10 ⟨A10, c10, rfl, -, -, hr10, t10⟩
  simp only [List.length_map] at hr10 ⊢
  refine hKc _ _ ⟨t10, ?_⟩
  clear hKc Kc
  have HT10 := Lib.hid (HTd.out.trans t10 (fun _ _ e => e))
  have HD10 := Lib.hid (HDr.out.trans t10 (fun _ _ e => e))
  have HR10 := Lib.hid hr10
  clear t10 hr10
  iterate 1
    apply plan_h
    · rfl
    · rfl
    · intro wh hT
      have hf0 := Rd.str (HR10.out.touch hT (fun _ _ e => e)) c10
      go_simp
      try rfl
    go_frame
  refine plan_a1 rfl (by rfl) (fun Kc hKc => ?_)
  go_simp
  refine (HFp.out _).mono ?_
  rintro e w11 ⟨v11, k11, rfl, ho11, -, t11⟩
  obtain ⟨A11, c11, rfl, -, -, -, hr11⟩ := ho11.rd
  refine hKc _ _ ⟨t11, ?_⟩
  clear hKc Kc
  have HT11 := Lib.hid (HT10.out.trans t11 (fun _ _ e => e))
  have HD11 := Lib.hid (HD10.out.trans t11 (fun _ _ e => e))
  have hs11 := Rd.str hr11 c11
  clear t11 hr11 ho11 x0 x1 x2 x3 x4 x5 x6 x7 x8 hlx
  have hbx := HT11.out.blk HB.out (fun e => e)
  have x0 := hbx.cell 0; have x1 := hbx.cell 1; have x2 := hbx.cell 2; have x3 := hbx.cell 3; have x4 := hbx.cell 4; have x5 := hbx.cell 5; have x6 := hbx.cell 6; have x7 := hbx.cell 7; have x8 := hbx.cell 8; simp at x0 x1 x2 x3 x4 x5 x6 x7 x8
  have hb9 := HD11.out.blk HB9.out (fun e => e)
  have r0 := hb9.cell 0; have r1 := hb9.cell 1; have r2 := hb9.cell 2; have r3 := hb9.cell 3; have r4 := hb9.cell 4; have r5 := hb9.cell 5; have r6 := hb9.cell 6; have r7 := hb9.cell 7; have r8 := hb9.cell 8; simp at r0 r1 r2 r3 r4 r5 r6 r7 r8
  clear hbx hb9
  iterate 11
    refine plan_s1 rfl (by rfl) (fun Kc hKc => ?_)
    go_simp
    first
      | (refine hKc _ ?_)
    clear hKc Kc
  refine plan_done ?_
  clear x0 x1 x2 x3 x4 x5 x6 x7 x8 r0 r1 r2 r3 r4 r5 r6 r7 r8 hs11 HD11 HD10 HT10 HTd HDr HTA HWA HB9
  go_wp2_with (go_at_call 42; go_must (refine (open_any _ _ _ _).mono ?_); rintro e w13 ⟨rfl, rfl⟩)
  obtain ⟨wa, hwa⟩ : ∃ wa, wa = (w11.alloc (.cells #[.slice D lb.length cd, .bool false] 157)).alloc (.cells #[.slice D lb.length cd, .bool false] 88) := ⟨_, rfl⟩
  have hTa : Touch (fun _ => False) w11 wa := hwa ▸ ((Touch.refl _ w11).alloc _).alloc _
  have hza : w11.heap.size + 2 ≤ wa.heap.size := by rw [hwa]; simp
  have HTw := Lib.hid (HT11.out.trans hTa (fun _ _ e => e))
  have hzw : w.heap.size + 1 ≤ w11.heap.size := by have := HT11.out.size; simpa using this
  have hBa : Rd wa (fun q => q < w.heap.size) D lb.length (lb.map B8) := ((HBb.out.touch HT11.out (fun _ _ e => e)).touch hTa (fun _ _ e => e))
  have HD := Lib.hid (show RdAt wa w11.heap.size (fun q => q < w.heap.size) lb false from ⟨by omega, D, cd, u1, m1, hwa ▸ (Blk.new w11 157 #[.slice D lb.length cd, .bool false]).alloc _, hBa⟩)
  have HE := Lib.hid (show RfAt wa (w11.heap.size + 1) (fun q => q < w.heap.size) lb false from ⟨by omega, D, cd, u1, m1, hwa ▸ (by simpa using Blk.new (w11.alloc (.cells #[.slice D lb.length cd, .bool false] 157)) 88 #[.slice D lb.length cd, .bool false]), hBa⟩)
  have HWA := Lib.hid hwa
  have HWz := Lib.hid hzw
  generalize w11.heap.size = g at *
  clear hwa hTa hzw hBa
  go_wp2_with fail
  rw [← HWA.out]
  clear HWA
  refine (HRD.out g (fun q => q < w.heap.size) wa (by exact HD.out) (by omega) (by intro k hk; have := HWz.out; omega)).mono ?_
  rintro e wb ⟨rfl, hdb, tb⟩
  simp only [TkN.cells]
  have hzab := tb.size
  have HEb := Lib.hid (rfAt_touch HE.out tb (by omega) (by intro k hk e; have := HWz.out; omega))
  have HDb := Lib.hid hdb
  have HTb := Lib.hid (HTw.out.trans tb (fun k hk e => by have := HWz.out; simp at hk; omega))
  clear hdb tb HTw HD HE
  go_wp2_with fail
  have HAl := Lib.hid ((Touch.refl (fun _ => False) wb).alloc (.cells #[.int .u64 tq.id, .int .i64 tq.contract, .int .i64 tq.state, .int .i64 tq.level, .int .u64 tq.gen, .int .i64 tq.from_, .int .i64 tq.left, .int .i64 tq.due, .int .i64 tq.told] 74))
  refine (HRF.out (g + 1) (fun q => q < w.heap.size) _ (by exact rfAt_touch HEb.out HAl.out (fun e => e) (fun _ _ e => e)) (by simp; omega) (by intro k hk; have := HWz.out; simp; omega)).mono ?_
  rintro e wc ⟨rfl, hec, tc⟩
  simp only [TkN.cells]
  have hzc : wb.heap.size + 1 ≤ wc.heap.size := by have := tc.size; simpa using this
  have HBb2 := Lib.hid (tc.blk (Blk.new wb 74 #[.int .u64 tq.id, .int .i64 tq.contract, .int .i64 tq.state, .int .i64 tq.level, .int .u64 tq.gen, .int .i64 tq.from_, .int .i64 tq.left, .int .i64 tq.due, .int .i64 tq.told]) (by omega))
  have HDc := Lib.hid (rdAt_touch (rdAt_touch HDb.out HAl.out (fun e => e) (fun _ _ e => e)) tc (by omega) (by intro k hk e; have := HWz.out; omega))
  have HTc := Lib.hid ((HTb.out.trans HAl.out (fun _ _ e => e)).trans tc (fun k hk e => by have := HWz.out; simp at hk; omega))
  have HEc := Lib.hid hec
  clear hec tc HAl HDb HEb HTb
  obtain ⟨wd, hwd⟩ : ∃ wd, wd = wc.alloc (.cells #[.int .u64 tq.id, .int .i64 tq.contract, .int .i64 tq.state, .int .i64 tq.level, .int .u64 tq.gen, .int .i64 tq.from_, .int .i64 tq.left, .int .i64 tq.due, .int .i64 tq.told] 74) := ⟨_, rfl⟩
  have HAl := Lib.hid (show Touch (fun _ => False) wc wd from hwd ▸ ((Touch.refl (fun _ => False) wc).alloc (.cells #[.int .u64 tq.id, .int .i64 tq.contract, .int .i64 tq.state, .int .i64 tq.level, .int .u64 tq.gen, .int .i64 tq.from_, .int .i64 tq.left, .int .i64 tq.due, .int .i64 tq.told] 74)))
  have HBc := Lib.hid (show Blk wd wc.heap.size 74 #[.int .u64 tq.id, .int .i64 tq.contract, .int .i64 tq.state, .int .i64 tq.level, .int .u64 tq.gen, .int .i64 tq.from_, .int .i64 tq.left, .int .i64 tq.due, .int .i64 tq.told] from hwd ▸ Blk.new wc 74 _)
  have HWD := Lib.hid hwd
  clear hwd
  go_wp2_with fail
  rw [← HWD.out]
  clear HWD
  have hbb := HAl.out.blk HBb2.out (fun e => e)
  have HDd := Lib.hid (rdAt_touch HDc.out HAl.out (fun e => e) (fun _ _ e => e))
  have HTd := Lib.hid (HTc.out.trans HAl.out (fun _ _ e => e))
  obtain ⟨_, Ae, ce, hle, hme, hbe, _⟩ := rfAt_touch HEc.out HAl.out (fun e => e) (fun _ _ e => e)
  have y0 := hbe.cell 0; have y1 := hbe.cell 1
  simp at y0 y1
  have q0 := hbb.cell 0; have q1 := hbb.cell 1; have q2 := hbb.cell 2; have q3 := hbb.cell 3; have q4 := hbb.cell 4; have q5 := hbb.cell 5; have q6 := hbb.cell 6; have q7 := hbb.cell 7; have q8 := hbb.cell 8; simp at q0 q1 q2 q3 q4 q5 q6 q7 q8
  have p0 := HBc.out.cell 0; have p1 := HBc.out.cell 1; have p2 := HBc.out.cell 2; have p3 := HBc.out.cell 3; have p4 := HBc.out.cell 4; have p5 := HBc.out.cell 5; have p6 := HBc.out.cell 6; have p7 := HBc.out.cell 7; have p8 := HBc.out.cell 8; simp at p0 p1 p2 p3 p4 p5 p6 p7 p8
  clear hbe hle hme hbb
  have HDf := Lib.hid (rdAt_touch HDd.out ((Touch.refl (fun _ => False) wd).drew) (fun e => e) (fun _ _ e => e))
  refine wp_region_plan [(0, 0), (0, 1), (0, 2), (0, 3), (0, 4), (0, 5), (0, 6), (0, 7), (0, 8), (0, 9), (0, 10), (0, 11), (0, 12), (0, 13), (0, 14), (0, 15), (0, 16), (0, 17), (0, 18), (0, 19), (0, 20), (0, 21), (0, 22), (0, 23), (0, 24), (0, 25), (0, 26), (0, 27), (2, 28), (0, 29), (0, 30)] (fun _ => False) (by kernel_rfl) (by kernel_rfl) (fun c a d v w h => by cases d <;> exact h) ?_
  iterate 28
    refine plan_s1 rfl (by rfl) (fun Kc hKc => ?_)
    go_simp
    first
      | (refine hKc _ ?_)
      | (refine ⟨_, calls_flip (left_st g (fun q => q < w.heap.size) lq bq _ (by exact HDf.out)), hKc _ ?_⟩)
      | (refine ⟨_, calls_flip (bad_st g (fun q => q < w.heap.size) lq bq _ (by exact HDf.out)), hKc _ ?_⟩)
    clear hKc Kc
  refine plan_a1 rfl (by rfl) (fun Kc hKc => ?_)
  go_simp
  refine (lives16_any _).mono ?_
  rintro e we ⟨rfl, te⟩
  refine hKc _ _ ⟨te, ?_⟩
  clear hKc Kc
  have HTe := Lib.hid (HTd.out.drew.trans te (fun _ _ e => e))
  clear te
  iterate 2
    refine plan_s1 rfl (by rfl) (fun Kc hKc => ?_)
    go_simp
    first
      | (refine hKc _ ?_)
    clear hKc Kc
  refine plan_done ?_
  go_wp2_with fail
  go_ret
  exact ⟨ret_bool (by simp), (HA.out.trans HTe.out (fun _ _ e => e)).below⟩
def TkV.in64 (t : TkV) : Prop := t.id < 18446744073709551616 ∧ t.ok
theorem walk_TicketBytes {w : World} (t : TkV) (ht : t.in64) (D : Option Addr) (nd cd : Nat) (lb : List UInt8) (e1 : lb.length = nd) (g1 : D = none → cd = 0) (u1 : nd ≤ cd) (m1 : cd ≤ maxLen) (s1 : Rd w (fun q => q < w.heap.size) D nd (lb.map B8)) :
    Calls Try.prog 10 #[.agg t.cells.toArray, .slice D nd cd] w fun e w' => e = .returned (.bool true) ∧ Below w.heap.size w w' := by
  by_cases hbig : (3000 : Int) < nd
  · have HA := Lib.hid ((Touch.refl (fun _ => False) w).alloc (.cells #[.int .u64 t.id, .int .i64 t.contract, .int .i64 t.state, .int .i64 t.level, .int .u64 t.gen, .int .i64 t.from_, .int .i64 t.left, .int .i64 t.due, .int .i64 t.told] 74))
    show Calls Try.prog 10 #[.agg #[.int .u64 t.id, .int .i64 t.contract, .int .i64 t.state, .int .i64 t.level, .int .u64 t.gen, .int .i64 t.from_, .int .i64 t.left, .int .i64 t.due, .int .i64 t.told], .slice D nd cd] w _
    go_enter Try.func10, Try.ntmps10
    go_wp2_with (go_at_call 37; go_must (refine (lives16_any _).mono ?_); rintro e w1 ⟨rfl, t1⟩; have HT := Lib.hid (HA.out.trans t1 (fun _ _ e => e)); clear t1)
    go_ret
    exact ⟨rfl, HT.out.below⟩
  cases hs : tkSound t
  · exact tb_no t ht.2 hs D nd cd lb e1 u1 m1 s1 hbig
  · obtain ⟨n, rfl, -⟩ := tkSound_N hs
    obtain ⟨h1, h2⟩ := TkN.ok_of hs ht.1
    exact tb_yes n h1 h2 hs D nd cd lb e1 u1 m1 s1 hbig
end Go.Proofs.Ytcblbjhhlnmkjaa
end

section
namespace Go.Proofs.Ytcblbjhhlnmkjaa
open Go.RowKit Go.ChangeShapes Go.WideShapes Go.ChangeAt Go.Deep Cal
set_option maxHeartbeats 4000000
set_option maxRecDepth 100000
set_option linter.unusedVariables false
section
variable {H : Type} {enc : TypeId × Value → H} {w : World} {spare : Nat → Bool} {held : Bool}
theorem elem_u64k {P : Program} {e : TypeId} (he : P.underlying e = some (.int .u64)) {fuel : Nat} {cs : List Value} {x : DataW H × List MemPlace} (h : DataW.trod enc P w 0 spare held fuel e cs = some x) : ∃ n : Nat, cs = [.int .u64 n] ∧ n < 18446744073709551616 := by
  obtain ⟨n, rfl, _, hw⟩ := DataW.trod_int he h
  simp [Lit.wf, IntKind.min, IntKind.max, IntKind.signed, IntKind.bits] at hw
  exact ⟨n.toNat, by rw [Int.toNat_of_nonneg (by omega)], by omega⟩
theorem open_ticket {fuel : Nat} {cs : List Value} {x : DataW H × List MemPlace} (h : DataW.trod enc Try.prog w 0 spare held fuel 74 cs = some x) :
    ∃ t : TkV, cs = t.cells ∧ t.in64 := by
  obtain ⟨ys, n, _, _, hlen, hyl, hf⟩ := DataW.trod_struct Try.underlying74 h
  rw [show Try.prog.cellsOf 74 = 9 from by kernel_rfl] at hlen
  match cs, hlen, ys, hyl with
  | [c0, c1, c2, c3, c4, c5, c6, c7, c8], _, [y0, y1, y2, y3, y4, y5, y6, y7, y8], _ =>
    have k0 := hf 0 _ rfl; have k1 := hf 1 _ rfl; have k2 := hf 2 _ rfl; have k3 := hf 3 _ rfl; have k4 := hf 4 _ rfl; have k5 := hf 5 _ rfl; have k6 := hf 6 _ rfl; have k7 := hf 7 _ rfl; have k8 := hf 8 _ rfl
    have z0 : Try.prog.cellsOf 2 = 1 := by kernel_rfl
    have z1 : Try.prog.cellsOf 3 = 1 := by kernel_rfl
    have z2 : Try.prog.cellsOf 22 = 1 := by kernel_rfl
    simp [z0, z1, z2] at k0 k1 k2 k3 k4 k5 k6 k7 k8
    obtain ⟨n0, e0, o0⟩ := elem_u64k Try.underlying22 k0
    obtain ⟨n1, e1, o1⟩ := elem_i64c Try.underlying3 k1
    obtain ⟨n2, e2, o2⟩ := elem_i64c Try.underlying3 k2
    obtain ⟨n3, e3, o3⟩ := elem_i64c Try.underlying3 k3
    obtain ⟨n4, e4, o4⟩ := elem_u64k Try.underlying22 k4
    obtain ⟨n5, e5, o5⟩ := elem_i64c Try.underlying2 k5
    obtain ⟨n6, e6, o6⟩ := elem_i64c Try.underlying2 k6
    obtain ⟨n7, e7, o7⟩ := elem_i64c Try.underlying2 k7
    obtain ⟨n8, e8, o8⟩ := elem_i64c Try.underlying3 k8
    injection e0 with e0 _; injection e1 with e1 _; injection e2 with e2 _; injection e3 with e3 _; injection e4 with e4 _; injection e5 with e5 _; injection e6 with e6 _; injection e7 with e7 _; injection e8 with e8 _
    subst e0 e1 e2 e3 e4 e5 e6 e7 e8
    exact ⟨⟨n0, n1, n2, n3, n4, n5, n6, n7, n8⟩, rfl, o0, o5.1, o5.2, o6.1, o6.2, o7.1, o7.2⟩
end
end Go.Proofs.Ytcblbjhhlnmkjaa
end
