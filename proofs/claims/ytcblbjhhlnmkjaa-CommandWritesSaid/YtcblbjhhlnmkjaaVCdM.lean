/- CommandWrites, CommandReads, walked. (written by gencdm.py) -/
import Derived.Test.YtcblbjhhlnmkjaaVCdL
import Derived.Test.YtcblbjhhlnmkjaaCalI
namespace Go.Proofs.Ytcblbjhhlnmkjaa
open Go.RowKit Cal
set_option maxHeartbeats 400000000
set_option maxRecDepth 100000
set_option linter.unusedVariables false
attribute [local irreducible] wpPlan

theorem CmR.nearM {w : World} {F : Nat → Prop} {c : Cm} {A B D : Option Addr} (h : CmR w F c A B D) : CmR w (fun q => F q ∧ q < w.heap.size) c A B D := ⟨⟨h.cal.wk.near, h.cal.cl.near⟩, h.tm.near⟩
theorem rdAns_in (l : List UInt8) : (rdAns l).1.in64 ∧ (rdAns l).1.cal.wk.length ≤ 32 ∧ (rdAns l).1.cal.cl.length ≤ 32 ∧ (rdAns l).1.tm.lv.length ≤ 6 := by
  have hz : cmZ.in64 ∧ cmZ.cal.wk.length ≤ 32 ∧ cmZ.cal.cl.length ≤ 32 ∧ cmZ.tm.lv.length ≤ 6 := ⟨⟨⟨by decide, by decide⟩, ⟨by decide, by decide⟩, ⟨by decide, by decide⟩⟩, by decide, by decide, by decide⟩
  have hb : ∀ (kd cl rq : Nat) (s : Bool × List UInt8), rq < 256 ^ 8 → (rdBody kd cl rq s).1.in64 ∧ (rdBody kd cl rq s).1.cal.wk.length ≤ 32 ∧ (rdBody kd cl rq s).1.cal.cl.length ≤ 32 ∧ (rdBody kd cl rq s).1.tm.lv.length ≤ 6 := by
    intro kd cl rq s hrq
    have hi : (bif fid kd then rd3 18446744073709551615 s else (0, s)).1 < 256 ^ 8 := by
      cases fid (kd : Int)
      · show (0 : Nat) < 256 ^ 8; decide
      · have := rd3_le 18446744073709551615 s
        show (rd3 18446744073709551615 s).1 < 256 ^ 8; omega
    simp only [rdBody]
    generalize (bif fid kd then rd3 18446744073709551615 s else (0, s)) = i at *
    have z0 : -9223372036854775808 ≤ (0 : Int) ∧ (0 : Int) ≤ 9223372036854775807 := ⟨by decide, by decide⟩
    cases fcal (kd : Int)
    · cases ftm (kd : Int)
      · cases fcon (kd : Int)
        · cases fat (kd : Int)
          · exact ⟨⟨z0, z0, hrq, hi⟩, Nat.zero_le _, Nat.zero_le _, Nat.zero_le _⟩
          · exact ⟨⟨rdInt_in _ _, z0, hrq, hi⟩, Nat.zero_le _, Nat.zero_le _, Nat.zero_le _⟩
        · exact ⟨⟨z0, z0, hrq, hi⟩, Nat.zero_le _, Nat.zero_le _, Nat.zero_le _⟩
      · exact ⟨⟨z0, z0, hrq, hi⟩, Nat.zero_le _, Nat.zero_le _, conRes_in _⟩
    · have h := rdRes_in i.2.1 i.2.2
      refine ⟨⟨z0, ?_, hrq, hi⟩, h.1, h.2, Nat.zero_le _⟩
      show -9223372036854775808 ≤ (rdRes i.2.1 i.2.2).c.off ∧ (rdRes i.2.1 i.2.2).c.off ≤ 9223372036854775807
      rw [rdRes]
      cases rdOkC i.2.1 i.2.2
      · exact z0
      · exact rdInt_in _ _
  unfold rdAns
  split
  · exact hz
  · cases cmGood (rdCmd (false, l))
    · exact hz
    · refine hb _ _ _ _ ?_
      have := rd3_le 18446744073709551615 (rd3 8 (rd3 12 (false, l)).2).2
      omega
theorem walk_CommandWrites {w : World} (c : Cm) (A B D : Option Addr) (k m n : Nat) (hr : CmR w (fun q => q < w.heap.size) c A B D) (h64 : c.in64) :
    Calls Try.prog 3 #[.agg #[.int .i64 c.kind, .int .u64 c.client, .int .u64 c.req, .int .u64 c.id, .int .i64 c.con, .int .i64 c.at_, .int .i64 c.cal.off, .slice A c.cal.wk.length k, .slice B c.cal.cl.length m, .int .i64 c.tm.cal, .slice D c.tm.lv.length n, .int .i64 c.tm.rt, .int .i64 c.tm.bk]] w fun e w' => e = .returned (.bool true) ∧ Below w.heap.size w w' := by
  have HT0 := Lib.hid ((Touch.refl (fun _ => False) w).alloc (.cells #[.int .i64 c.kind, .int .u64 c.client, .int .u64 c.req, .int .u64 c.id, .int .i64 c.con, .int .i64 c.at_, .int .i64 c.cal.off, .slice A c.cal.wk.length k, .slice B c.cal.cl.length m, .int .i64 c.tm.cal, .slice D c.tm.lv.length n, .int .i64 c.tm.rt, .int .i64 c.tm.bk] 30))
  have HB0 := Lib.hid (Blk.new w 30 #[.int .i64 c.kind, .int .u64 c.client, .int .u64 c.req, .int .u64 c.id, .int .i64 c.con, .int .i64 c.at_, .int .i64 c.cal.off, .slice A c.cal.wk.length k, .slice B c.cal.cl.length m, .int .i64 c.tm.cal, .slice D c.tm.lv.length n, .int .i64 c.tm.rt, .int .i64 c.tm.bk])
  have HR := Lib.hid hr
  have HL := Lib.hid (fun w1 => light18_any A B D k m n c w1)
  obtain ⟨ha, ho, h64⟩ := h64
  cases hl : lightC c
  · rw [hl] at HL
    clear hl
    go_enter Try.func3, Try.ntmps3
    go_wp2_with (first
      | (go_at_call 13; go_must (refine (lives18_any _).mono ?_); rintro e w2 ⟨rfl, t2⟩; have HT2 := Lib.hid (HT1.out.trans t2 (fun _ _ e => e)); clear t2)
      | (go_at_call 12; go_must (refine (HL.out _).mono ?_); rintro e w1 ⟨rfl, t1⟩; have HT1 := Lib.hid (HT0.out.trans t1 (fun _ _ e => e)); clear t1))
    go_ret
    exact ⟨rfl, HT2.out.below⟩
  obtain ⟨h1, h2, h3⟩ := lightC_in hl
  rw [hl] at HL
  have HBy := Lib.hid (fun w1 hr (hz : w.heap.size ≤ w1.heap.size) => cmbytes_any (fun q => q < w.heap.size) A B D k m n c w1 hr (fun q hq => by omega) (by omega) (by omega) (by omega) ha ho h64)
  have HFy := Lib.hid (fun w1 hr (hz : w.heap.size ≤ w1.heap.size) => fcmbytes_any (fun q => q < w.heap.size) A B D k m n c w1 hr (fun q hq => by omega) (by omega) (by omega) (by omega) ha ho h64)
  have HSm := Lib.hid (fun F' A' B' D' k' m' n' w1 hr hr' => fcmsame_any (fun q => q < w.heap.size) F' A B D A' B' D' k m n k' m' n' c c w1 hr hr' (by omega) (by omega) (by omega) ha ha)
  rw [sameCm_self] at HSm
  have HBk := Lib.hid (fun h => rdAns_back (c := c) h h64 ha)
  have HLn := Lib.hid (fun h => encC_len (c := c) h)
  unfold CbPost at HBy HFy
  have hL : (bytesC c).length ≤ 140737488355328 := by
    cases hs : cmSound c
    · rw [bytesC, hs]; exact Nat.zero_le _
    · rw [bytesC, hs]; have := encC_len hs; simp only [cond_true]; omega
  clear hl
  cases hs : cmSound c
  · rw [bytesC, bytesCE, hs] at HBy HFy
    simp only [cond_false, List.length_nil] at HBy HFy
    clear hs HBk HLn hL
    go_enter Try.func3, Try.ntmps3
    go_wp2_with (go_at_call 12; go_must (refine (HL.out _).mono ?_); rintro e w1 ⟨rfl, t1⟩; have HT1 := Lib.hid (HT0.out.trans t1 (fun _ _ e => e)); have hb := t1.blk HB0.out (fun e => e); have x0 := hb.cell 0; have x1 := hb.cell 1; have x2 := hb.cell 2; have x3 := hb.cell 3; have x4 := hb.cell 4; have x5 := hb.cell 5; have x6 := hb.cell 6; have x7 := hb.cell 7; have x8 := hb.cell 8; have x9 := hb.cell 9; have x10 := hb.cell 10; have x11 := hb.cell 11; have x12 := hb.cell 12; simp at x0 x1 x2 x3 x4 x5 x6 x7 x8 x9 x10 x11 x12; have HB1 := Lib.hid hb; clear t1 hb)
    refine (HBy.out _ (by exact HR.out.touch HT1.out (fun _ _ e => e)) (by have := HT1.out.size; omega)).mono ?_
    rintro e w2 ⟨A2, c2, rfl, r2, -, -, t2⟩
    have HT2 := Lib.hid (HT1.out.trans t2 (fun _ _ e => e))
    have HR2 := Lib.hid r2
    have hb := t2.blk HB1.out (fun e => e)
    clear x0 x1 x2 x3 x4 x5 x6 x7 x8 x9 x10 x11 x12 r2
    have x0 := hb.cell 0; have x1 := hb.cell 1; have x2 := hb.cell 2; have x3 := hb.cell 3; have x4 := hb.cell 4; have x5 := hb.cell 5; have x6 := hb.cell 6; have x7 := hb.cell 7; have x8 := hb.cell 8; have x9 := hb.cell 9; have x10 := hb.cell 10; have x11 := hb.cell 11; have x12 := hb.cell 12; simp at x0 x1 x2 x3 x4 x5 x6 x7 x8 x9 x10 x11 x12
    clear t2 hb
    go_wp2_with fail
    refine (HFy.out _ (by exact HR.out.touch HT2.out (fun _ _ e => e)) (by have := HT2.out.size; omega)).mono ?_
    rintro e w3 ⟨A3, c3, rfl, r3, -, -, t3⟩
    have HT3 := Lib.hid (HT2.out.trans t3 (fun _ _ e => e))
    have hs2 := Rd.str (n := 0) (l := []) (HR2.out.touch t3 (fun _ _ e => e)) c2
    have hs3 := Rd.str (n := 0) (l := []) r3 c3
    clear x0 x1 x2 x3 x4 x5 x6 x7 x8 x9 x10 x11 x12 r3 t3
    go_wp2_with (go_at_call 13; go_must (refine (lives18_any _).mono ?_); rintro e w4 ⟨rfl, t4⟩; have HT4 := Lib.hid (HT3.out.trans t4 (fun _ _ e => e)); clear t4)
    go_ret
    exact ⟨rfl, HT4.out.below⟩
  rw [bytesC, bytesCE, hs] at HBy HFy
  simp only [cond_true] at HBy HFy
  have HA := Lib.hid (HBk.out hs)
  have hln := HLn.out hs
  clear hs HBk HLn hL
  generalize encC c = L at *
  go_enter Try.func3, Try.ntmps3
  go_wp2_with (go_at_call 12; go_must (refine (HL.out _).mono ?_); rintro e w1 ⟨rfl, t1⟩; have HT1 := Lib.hid (HT0.out.trans t1 (fun _ _ e => e)); have hb := t1.blk HB0.out (fun e => e); have x0 := hb.cell 0; have x1 := hb.cell 1; have x2 := hb.cell 2; have x3 := hb.cell 3; have x4 := hb.cell 4; have x5 := hb.cell 5; have x6 := hb.cell 6; have x7 := hb.cell 7; have x8 := hb.cell 8; have x9 := hb.cell 9; have x10 := hb.cell 10; have x11 := hb.cell 11; have x12 := hb.cell 12; simp at x0 x1 x2 x3 x4 x5 x6 x7 x8 x9 x10 x11 x12; have HB1 := Lib.hid hb; clear t1 hb)
  refine (HBy.out _ (by exact HR.out.touch HT1.out (fun _ _ e => e)) (by have := HT1.out.size; omega)).mono ?_
  rintro e w2 ⟨A2, c2, rfl, r2, u2, m2, t2⟩
  have HT2 := Lib.hid (HT1.out.trans t2 (fun _ _ e => e))
  have HR2 := Lib.hid r2.nearM
  have HU2 := Lib.hid (And.intro u2 m2)
  have hb := t2.blk HB1.out (fun e => e)
  have HB2 := Lib.hid hb
  clear x0 x1 x2 x3 x4 x5 x6 x7 x8 x9 x10 x11 x12 r2 u2 m2
  have x0 := hb.cell 0; have x1 := hb.cell 1; have x2 := hb.cell 2; have x3 := hb.cell 3; have x4 := hb.cell 4; have x5 := hb.cell 5; have x6 := hb.cell 6; have x7 := hb.cell 7; have x8 := hb.cell 8; have x9 := hb.cell 9; have x10 := hb.cell 10; have x11 := hb.cell 11; have x12 := hb.cell 12; simp at x0 x1 x2 x3 x4 x5 x6 x7 x8 x9 x10 x11 x12
  clear t2 hb
  go_wp2_with fail
  refine (HFy.out _ (by exact HR.out.touch HT2.out (fun _ _ e => e)) (by have := HT2.out.size; omega)).mono ?_
  rintro e w3 ⟨A3, c3, rfl, r3, -, -, t3⟩
  have HT3 := Lib.hid (HT2.out.trans t3 (fun _ _ e => e))
  have HR3 := Lib.hid (HR2.out.touch t3 (fun _ _ e => e))
  have HB3 := Lib.hid (t3.blk HB2.out (fun e => e))
  have hs2 := Rd.str (l := L) HR3.out c2
  have hs3 := Rd.str (l := L) r3 c3
  have HRd := Lib.hid (cmread_any _ A2 c2 L w3 HR3.out (fun q hq => by have := t3.size; omega) HU2.out.1 HU2.out.2)
  unfold CmPost at HRd
  rw [HA.out] at HRd
  clear x0 x1 x2 x3 x4 x5 x6 x7 x8 x9 x10 x11 x12 r3 t3
  go_wp2_with fail
  refine HRd.out.mono ?_
  rintro e w4 ⟨A4, B4, D4, k4, m4, n4, rfl, r4, t4⟩
  have HT4 := Lib.hid (HT3.out.trans t4 (fun _ _ e => e))
  have HR4 := Lib.hid r4
  have hb4 := t4.blk HB3.out (fun e => e)
  have HB4 := Lib.hid hb4
  have hlt4 := hb4.lt
  have x0 := hb4.cell 0; have x1 := hb4.cell 1; have x2 := hb4.cell 2; have x3 := hb4.cell 3; have x4 := hb4.cell 4; have x5 := hb4.cell 5; have x6 := hb4.cell 6; have x7 := hb4.cell 7; have x8 := hb4.cell 8; have x9 := hb4.cell 9; have x10 := hb4.cell 10; have x11 := hb4.cell 11; have x12 := hb4.cell 12; simp at x0 x1 x2 x3 x4 x5 x6 x7 x8 x9 x10 x11 x12
  have hle : (L.length : Int) ≤ 2048 := by omega
  clear hs2 hs3 t4 r4 hb4
  have ta := (Touch.refl (fun _ => False) w4).alloc (.cells #[.int .i64 c.kind, .int .u64 c.client, .int .u64 c.req, .int .u64 c.id, .int .i64 c.con, .int .i64 c.at_, .int .i64 c.cal.off, .slice A4 c.cal.wk.length k4, .slice B4 c.cal.cl.length m4, .int .i64 c.tm.cal, .slice D4 c.tm.lv.length n4, .int .i64 c.tm.rt, .int .i64 c.tm.bk] 30)
  have HTa := Lib.hid (HT4.out.trans ta (fun _ _ e => e))
  have HRa := Lib.hid (HR4.out.touch ta (fun _ _ e => e))
  clear ta
  go_wp2_with (first
    | (go_at_call 13; have HMQ := HT5; go_must (refine (lives18_any _).mono ?_); rintro e w6 ⟨rfl, t6⟩; have HT6 := Lib.hid (HT5.out.trans t6 (fun _ _ e => e)); clear t6)
    | (go_at_call 17; go_must (refine (HSm.out _ _ _ _ _ _ _ _ (by exact HR.out.touch HTa.out (fun _ _ e => e)) (by exact HRa.out)).mono ?_); rintro e w5 ⟨rfl, t5⟩; have HT5 := Lib.hid (HTa.out.trans t5 (fun _ _ e => e)); clear t5))
  go_ret
  exact ⟨rfl, HT6.out.below⟩
theorem walk_CommandReads {w : World} (D : Option Addr) (nd cap : Nat) (l : List UInt8) (e1 : l.length = nd) (g1 : D = none → cap = 0) (u1 : nd ≤ cap) (m1 : cap ≤ maxLen) (s1 : Rd w (fun q => q < w.heap.size) D nd (l.map B8)) :
    Calls Try.prog 4 #[.slice D nd cap] w fun e w' => e = .returned (.bool true) ∧ Below w.heap.size w w' := by
  subst e1
  by_cases hlong : 5000 < l.length
  · have hd : decide (5000 < l.length) = true := by simpa using hlong
    have hd2 : decide ((5000 : Int) < (l.length : Int)) = true := by simp; omega
    clear hlong
    have HT0 := Lib.hid (Touch.refl (fun _ => False) w)
    go_enter Try.func4, Try.ntmps4
    go_wp2_with (go_at_call 13; go_must (refine (lives18_any _).mono ?_); rintro e w1 ⟨rfl, t1⟩; have HT1 := Lib.hid (HT0.out.trans t1 (fun _ _ e => e)); clear t1)
    go_ret
    exact ⟨rfl, HT1.out.below⟩
  have hd : decide (5000 < l.length) = false := by simpa using hlong
  have hd2 : decide ((5000 : Int) < (l.length : Int)) = false := by simp; omega
  clear hlong
  have HS1 := Lib.hid s1
  have HP := Lib.hid (cmread_any (fun q => q < w.heap.size) D cap l w s1 (fun k h => h) u1 m1)
  have HF := Lib.hid (fun w1 (h : Rd w1 (fun q => q < w.heap.size) D l.length (l.map B8)) (hz : w.heap.size ≤ w1.heap.size) => fcmread_any (fun q => q < w.heap.size) D cap l w1 h (fun k h => by omega) u1 m1)
  unfold CmPost at HP HF
  obtain ⟨hi, hl1, hl2, hl3⟩ := rdAns_in l
  have HSp := Lib.hid (fun (h : (rdAns l).2 = 0) => rdAns_split (l := l) (c := (rdAns l).1) (by rw [← h]))
  generalize rdAns l = q at *
  obtain ⟨c, er⟩ := q
  simp only at *
  obtain ⟨ha, ho, h64⟩ := hi
  have HSm := Lib.hid (fun F F' A B D k m n A' B' D' k' m' n' w1 hr hr' => fcmsame_any F F' A B D A' B' D' k m n k' m' n' c c w1 hr hr' (by omega) (by omega) (by omega) ha ha)
  rw [sameCm_self] at HSm
  have HBy := Lib.hid (fun F A B D k m n w1 hr hF => cmbytes_any F A B D k m n c w1 hr hF (by omega) (by omega) (by omega) ha ho h64)
  unfold CbPost at HBy
  clear s1 hl1 hl2 hl3 ha ho h64
  by_cases he : er = 0
  rotate_left
  · have hne : (er != 0) = true := by simpa using he
    clear HSp HBy he
    go_enter Try.func4, Try.ntmps4
    go_wp2_with fail
    refine HP.out.mono ?_
    rintro e w1 ⟨A1, B1, D1, k1, m1, n1, rfl, r1, t1⟩
    have ta := t1.alloc (.cells #[.int .i64 c.kind, .int .u64 c.client, .int .u64 c.req, .int .u64 c.id, .int .i64 c.con, .int .i64 c.at_, .int .i64 c.cal.off, .slice A1 c.cal.wk.length k1, .slice B1 c.cal.cl.length m1, .int .i64 c.tm.cal, .slice D1 c.tm.lv.length n1, .int .i64 c.tm.rt, .int .i64 c.tm.bk] 30)
    have HTa := Lib.hid ta
    have HRa := Lib.hid (show CmR _ (fun q => w.heap.size ≤ q ∧ q < w1.heap.size) c A1 B1 D1 from r1.nearM.touch ((Touch.refl (fun _ => False) w1).alloc (.cells #[.int .i64 c.kind, .int .u64 c.client, .int .u64 c.req, .int .u64 c.id, .int .i64 c.con, .int .i64 c.at_, .int .i64 c.cal.off, .slice A1 c.cal.wk.length k1, .slice B1 c.cal.cl.length m1, .int .i64 c.tm.cal, .slice D1 c.tm.lv.length n1, .int .i64 c.tm.rt, .int .i64 c.tm.bk] 30)) (fun _ _ e => e))
    have HBa := Lib.hid (Blk.new w1 30 #[.int .i64 c.kind, .int .u64 c.client, .int .u64 c.req, .int .u64 c.id, .int .i64 c.con, .int .i64 c.at_, .int .i64 c.cal.off, .slice A1 c.cal.wk.length k1, .slice B1 c.cal.cl.length m1, .int .i64 c.tm.cal, .slice D1 c.tm.lv.length n1, .int .i64 c.tm.rt, .int .i64 c.tm.bk])
    clear r1 t1 ta
    go_wp2_with fail
    refine (HF.out _ (by exact HS1.out.touch HTa.out (fun _ _ e => e)) (by exact HTa.out.size)).mono ?_
    rintro e w2 ⟨A2, B2, D2, k2, m2, n2, rfl, r2, t2⟩
    have ta := t2.alloc (.cells #[.int .i64 c.kind, .int .u64 c.client, .int .u64 c.req, .int .u64 c.id, .int .i64 c.con, .int .i64 c.at_, .int .i64 c.cal.off, .slice A2 c.cal.wk.length k2, .slice B2 c.cal.cl.length m2, .int .i64 c.tm.cal, .slice D2 c.tm.lv.length n2, .int .i64 c.tm.rt, .int .i64 c.tm.bk] 30)
    have HTb := Lib.hid (HTa.out.trans ta (fun _ _ e => e))
    have HRb := Lib.hid (HRa.out.touch ta (fun _ _ e => e))
    have HRc := Lib.hid (r2.touch ((Touch.refl (fun _ => False) w2).alloc (.cells #[.int .i64 c.kind, .int .u64 c.client, .int .u64 c.req, .int .u64 c.id, .int .i64 c.con, .int .i64 c.at_, .int .i64 c.cal.off, .slice A2 c.cal.wk.length k2, .slice B2 c.cal.cl.length m2, .int .i64 c.tm.cal, .slice D2 c.tm.lv.length n2, .int .i64 c.tm.rt, .int .i64 c.tm.bk] 30)) (fun _ _ e => e))
    have hb := t2.blk HBa.out (fun e => e)
    have HBb := Lib.hid (ta.blk HBa.out (fun e => e))
    have x0 := hb.cell 0; have x1 := hb.cell 1; have x2 := hb.cell 2; have x3 := hb.cell 3; have x4 := hb.cell 4; have x5 := hb.cell 5; have x6 := hb.cell 6; have x7 := hb.cell 7; have x8 := hb.cell 8; have x9 := hb.cell 9; have x10 := hb.cell 10; have x11 := hb.cell 11; have x12 := hb.cell 12; simp at x0 x1 x2 x3 x4 x5 x6 x7 x8 x9 x10 x11 x12
    have hlt := hb.lt
    clear r2 t2 ta hb
    go_wp2_with fail
    refine (HSm.out _ _ _ _ _ _ _ _ _ _ _ _ _ _ _ (by exact HRb.out) (by exact HRc.out)).mono ?_
    rintro e w3 ⟨rfl, t3⟩
    have HTc := Lib.hid (HTb.out.trans t3 (fun _ _ e => e))
    clear x0 x1 x2 x3 x4 x5 x6 x7 x8 x9 x10 x11 x12 t3
    go_wp2_with (go_at_call 13; go_must (refine (lives18_any _).mono ?_); rintro e w4 ⟨rfl, t4⟩; have HT4 := Lib.hid (HTc.out.trans t4 (fun _ _ e => e)); clear t4)
    go_ret
    exact ⟨rfl, HT4.out.below⟩
  subst he
  obtain ⟨hle, hsd, -⟩ := HSp.out rfl
  have e1 : bytesC c = l := by rw [bytesC, hsd, hle]; rfl
  have e2 : bytesCE c = 0 := by rw [bytesCE, hsd]; rfl
  rw [e1, e2] at HBy
  clear HSp hle hsd e1 e2
  go_enter Try.func4, Try.ntmps4
  go_wp2_with fail
  refine HP.out.mono ?_
  rintro e w1 ⟨A1, B1, D1, k1, m1, n1, rfl, r1, t1⟩
  have ta := t1.alloc (.cells #[.int .i64 c.kind, .int .u64 c.client, .int .u64 c.req, .int .u64 c.id, .int .i64 c.con, .int .i64 c.at_, .int .i64 c.cal.off, .slice A1 c.cal.wk.length k1, .slice B1 c.cal.cl.length m1, .int .i64 c.tm.cal, .slice D1 c.tm.lv.length n1, .int .i64 c.tm.rt, .int .i64 c.tm.bk] 30)
  have HTa := Lib.hid ta
  have HRa := Lib.hid (show CmR _ (fun q => w.heap.size ≤ q ∧ q < w1.heap.size) c A1 B1 D1 from r1.nearM.touch ((Touch.refl (fun _ => False) w1).alloc (.cells #[.int .i64 c.kind, .int .u64 c.client, .int .u64 c.req, .int .u64 c.id, .int .i64 c.con, .int .i64 c.at_, .int .i64 c.cal.off, .slice A1 c.cal.wk.length k1, .slice B1 c.cal.cl.length m1, .int .i64 c.tm.cal, .slice D1 c.tm.lv.length n1, .int .i64 c.tm.rt, .int .i64 c.tm.bk] 30)) (fun _ _ e => e))
  have HBa := Lib.hid (Blk.new w1 30 #[.int .i64 c.kind, .int .u64 c.client, .int .u64 c.req, .int .u64 c.id, .int .i64 c.con, .int .i64 c.at_, .int .i64 c.cal.off, .slice A1 c.cal.wk.length k1, .slice B1 c.cal.cl.length m1, .int .i64 c.tm.cal, .slice D1 c.tm.lv.length n1, .int .i64 c.tm.rt, .int .i64 c.tm.bk])
  clear r1 t1 ta
  go_wp2_with fail
  refine (HF.out _ (by exact HS1.out.touch HTa.out (fun _ _ e => e)) (by exact HTa.out.size)).mono ?_
  rintro e w2 ⟨A2, B2, D2, k2, m2, n2, rfl, r2, t2⟩
  have ta := t2.alloc (.cells #[.int .i64 c.kind, .int .u64 c.client, .int .u64 c.req, .int .u64 c.id, .int .i64 c.con, .int .i64 c.at_, .int .i64 c.cal.off, .slice A2 c.cal.wk.length k2, .slice B2 c.cal.cl.length m2, .int .i64 c.tm.cal, .slice D2 c.tm.lv.length n2, .int .i64 c.tm.rt, .int .i64 c.tm.bk] 30)
  have HTb := Lib.hid (HTa.out.trans ta (fun _ _ e => e))
  have HRb := Lib.hid (HRa.out.touch ta (fun _ _ e => e))
  have HRc := Lib.hid (r2.touch ((Touch.refl (fun _ => False) w2).alloc (.cells #[.int .i64 c.kind, .int .u64 c.client, .int .u64 c.req, .int .u64 c.id, .int .i64 c.con, .int .i64 c.at_, .int .i64 c.cal.off, .slice A2 c.cal.wk.length k2, .slice B2 c.cal.cl.length m2, .int .i64 c.tm.cal, .slice D2 c.tm.lv.length n2, .int .i64 c.tm.rt, .int .i64 c.tm.bk] 30)) (fun _ _ e => e))
  have hb := t2.blk HBa.out (fun e => e)
  have HBb := Lib.hid (ta.blk HBa.out (fun e => e))
  have x0 := hb.cell 0; have x1 := hb.cell 1; have x2 := hb.cell 2; have x3 := hb.cell 3; have x4 := hb.cell 4; have x5 := hb.cell 5; have x6 := hb.cell 6; have x7 := hb.cell 7; have x8 := hb.cell 8; have x9 := hb.cell 9; have x10 := hb.cell 10; have x11 := hb.cell 11; have x12 := hb.cell 12; simp at x0 x1 x2 x3 x4 x5 x6 x7 x8 x9 x10 x11 x12
  have hlt := hb.lt
  clear r2 t2 ta hb
  go_wp2_with fail
  refine (HSm.out _ _ _ _ _ _ _ _ _ _ _ _ _ _ _ (by exact HRb.out) (by exact HRc.out)).mono ?_
  rintro e w3 ⟨rfl, t3⟩
  have HTc := Lib.hid (HTb.out.trans t3 (fun _ _ e => e))
  have hb := t3.blk HBb.out (fun e => e)
  have hz3 : w2.heap.size + 1 ≤ w3.heap.size := by have := t3.size; simpa using this
  clear x0 x1 x2 x3 x4 x5 x6 x7 x8 x9 x10 x11 x12
  have x0 := hb.cell 0; have x1 := hb.cell 1; have x2 := hb.cell 2; have x3 := hb.cell 3; have x4 := hb.cell 4; have x5 := hb.cell 5; have x6 := hb.cell 6; have x7 := hb.cell 7; have x8 := hb.cell 8; have x9 := hb.cell 9; have x10 := hb.cell 10; have x11 := hb.cell 11; have x12 := hb.cell 12; simp at x0 x1 x2 x3 x4 x5 x6 x7 x8 x9 x10 x11 x12
  have HRd := Lib.hid (HRb.out.touch t3 (fun _ _ e => e))
  clear t3 hb
  go_wp2_with fail
  refine (HBy.out _ _ _ _ _ _ _ _ (by exact HRd.out) (fun q hq => by omega)).mono ?_
  rintro e w4 ⟨A4, c4, rfl, r4, -, -, t4⟩
  have HTd := Lib.hid (HTc.out.trans t4 (fun _ _ e => e))
  have hs4 := Rd.str (l := l) r4 c4
  have hs5 := Rd.str (HS1.out.touch HTd.out (fun _ _ e => e)) cap
  clear r4 t4 x0 x1 x2 x3 x4 x5 x6 x7 x8 x9 x10 x11 x12
  go_wp2_with (go_at_call 13; go_must (refine (lives18_any _).mono ?_); rintro e w5 ⟨rfl, t5⟩; have HT5 := Lib.hid (HTd.out.trans t5 (fun _ _ e => e)); clear t5)
  go_ret
  exact ⟨rfl, HT5.out.below⟩
end Go.Proofs.Ytcblbjhhlnmkjaa
