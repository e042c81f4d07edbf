/- ref18.Read. (written by gencdj.py) -/
import Derived.Test.YtlcefchbfjfifaaVCdP
namespace Go.Proofs.Ytlcefchbfjfifaa
open Go.RowKit Cal
set_option maxHeartbeats 400000000
set_option maxRecDepth 100000
set_option linter.unusedVariables false
attribute [local irreducible] wpPlan

theorem fcmread_any (F : Nat → Prop) (D : Option Addr) (cap : Nat) (l : List UInt8) (w : World) (hb : Rd w F D l.length (l.map B8)) (hF0 : ∀ k, F k → k < w.heap.size) (hcap : l.length ≤ cap) (hm : cap ≤ maxLen) :
    Calls Try.prog 14 #[.slice D l.length cap] w (CmPost l w) := by
  have HF0 := Lib.hid hF0
  have HBY := Lib.hid hb
  have HB2 := Lib.hid (Blk.new w 35 #[.int .i64 0, .int .u64 0, .int .u64 0, .int .u64 0, .int .i64 0, .int .i64 0, .int .i64 0, .slice none 0 0, .slice none 0 0, .int .i64 0, .slice none 0 0, .int .i64 0, .int .i64 0])
  by_cases hlong : 2048 < l.length
  · have hd : decide (2048 < l.length) = true := by simpa using hlong
    have hd2 : decide ((2048 : Int) < (l.length : Int)) = true := by simp; omega
    have HP := Lib.hid (fun w1 t => CmPost.long (w := w) (w' := w1) hlong t)
    clear hlong
    go_enter Try.func14, Try.ntmps14
    go_wp2
    refine bodyPost_ret (v := .tuple #[.agg #[.int .i64 0, .int .u64 0, .int .u64 0, .int .u64 0, .int .i64 0, .int .i64 0, .int .i64 0, .slice none 0 0, .slice none 0 0, .int .i64 0, .slice none 0 0, .int .i64 0, .int .i64 0], .int .i64 21]) (by simp [results, Try.results14, go_sem]) rfl ?_
    exact HP.out _ ((Touch.refl (fun _ => False) w).alloc _)
  have hlen : l.length ≤ 2048 := by omega
  have hd : decide (2048 < l.length) = false := by simpa using hlong
  have hd2 : decide ((2048 : Int) < (l.length : Int)) = false := by simp; omega
  clear hlong
  have HH0 := Lib.hid (show RfAt ((w.alloc (.cells #[.int .i64 0, .int .u64 0, .int .u64 0, .int .u64 0, .int .i64 0, .int .i64 0, .int .i64 0, .slice none 0 0, .slice none 0 0, .int .i64 0, .slice none 0 0, .int .i64 0, .int .i64 0] 35)).alloc (.cells #[.slice D l.length cap, .bool false] 90)) (w.heap.size + 1) F l false from ⟨fun e => by have := hF0 _ e; omega, D, cap, hcap, hm, by simpa using Blk.new (w.alloc (.cells #[.int .i64 0, .int .u64 0, .int .u64 0, .int .u64 0, .int .i64 0, .int .i64 0, .int .i64 0, .slice none 0 0, .slice none 0 0, .int .i64 0, .slice none 0 0, .int .i64 0, .int .i64 0] 35)) 90 #[.slice D l.length cap, .bool false], hb.touch (((Touch.refl (fun _ => False) w).alloc (.cells #[.int .i64 0, .int .u64 0, .int .u64 0, .int .u64 0, .int .i64 0, .int .i64 0, .int .i64 0, .slice none 0 0, .slice none 0 0, .int .i64 0, .slice none 0 0, .int .i64 0, .int .i64 0] 35)).alloc (.cells #[.slice D l.length cap, .bool false] 90)) (fun _ _ e => e)⟩)
  have HB2 := Lib.hid (HB2.out.alloc (.cells #[.slice D l.length cap, .bool false] 90))
  have HT0 := Lib.hid (((Touch.refl (fun _ => False) w).alloc (.cells #[.int .i64 0, .int .u64 0, .int .u64 0, .int .u64 0, .int .i64 0, .int .i64 0, .int .i64 0, .slice none 0 0, .slice none 0 0, .int .i64 0, .slice none 0 0, .int .i64 0, .int .i64 0] 35)).alloc (.cells #[.slice D l.length cap, .bool false] 90))
  have hsz0 : w.heap.size + 2 ≤ ((w.alloc (.cells #[.int .i64 0, .int .u64 0, .int .u64 0, .int .u64 0, .int .i64 0, .int .i64 0, .int .i64 0, .slice none 0 0, .slice none 0 0, .int .i64 0, .slice none 0 0, .int .i64 0, .int .i64 0] 35)).alloc (.cells #[.slice D l.length cap, .bool false] 90)).heap.size := by simp
  obtain ⟨g, hg⟩ : ∃ g, g = w.heap.size + 1 := ⟨_, rfl⟩
  rw [← hg] at HH0
  have HGq := Lib.hid hg
  have hgw : w.heap.size < g := by omega
  have hg2 : g < w.heap.size + 2 := by omega
  clear hb hF0 hg
  go_enter Try.func14, Try.ntmps14
  go_wp2_with fail
  rw [← HGq.out]
  refine (fnum_st g F false 12 l _ (by exact HH0.out)).mono ?_
  rintro e w1 ⟨v1, b1, l1, hv1, hm1, rfl, h1, t1⟩
  have HV1 := Lib.hid hv1
  have hs1 : w.heap.size + 2 ≤ w1.heap.size := by have := t1.size; omega
  have HB2 := Lib.hid (t1.blk HB2.out (by omega))
  have HTx := Lib.hid (HT0.out.trans t1 (fun q hq e => by omega))
  have HHx := Lib.hid h1
  clear hv1 h1 t1 hsz0
  have hsg : w1.heap.size ≠ g := by omega
  have hI := (⟨rfAt_touch HHx.out ((Touch.refl (fun _ => False) w1).alloc (.cells #[.int .i64 (v1 : Int), .int .u64 0, .int .u64 0, .int .u64 0, .int .i64 0, .int .i64 0, .int .i64 0, .slice none 0 0, .slice none 0 0, .int .i64 0, .slice none 0 0, .int .i64 0, .int .i64 0] 35)) (fun e => e) (fun _ _ e => e), Blk.new w1 35 #[.int .i64 (v1 : Int), .int .u64 0, .int .u64 0, .int .u64 0, .int .i64 0, .int .i64 0, .int .i64 0, .slice none 0 0, .slice none 0 0, .int .i64 0, .slice none 0 0, .int .i64 0, .int .i64 0], Touch.refl _ _, hsg, fun e => by have := HF0.out _ e; omega⟩ :
    Inf (w1.alloc (.cells #[.int .i64 (v1 : Int), .int .u64 0, .int .u64 0, .int .u64 0, .int .i64 0, .int .i64 0, .int .i64 0, .slice none 0 0, .slice none 0 0, .int .i64 0, .slice none 0 0, .int .i64 0, .int .i64 0] 35)) (w1.alloc (.cells #[.int .i64 (v1 : Int), .int .u64 0, .int .u64 0, .int .u64 0, .int .i64 0, .int .i64 0, .int .i64 0, .slice none 0 0, .slice none 0 0, .int .i64 0, .slice none 0 0, .int .i64 0, .int .i64 0] 35)) g w1.heap.size 35 F l1 b1 #[.int .i64 (v1 : Int), .int .u64 0, .int .u64 0, .int .u64 0, .int .i64 0, .int .i64 0, .int .i64 0, .slice none 0 0, .slice none 0 0, .int .i64 0, .slice none 0 0, .int .i64 0, .int .i64 0])
  have HTS := Lib.hid (HTx.out.alloc (.cells #[.int .i64 (v1 : Int), .int .u64 0, .int .u64 0, .int .u64 0, .int .i64 0, .int .i64 0, .int .i64 0, .slice none 0 0, .slice none 0 0, .int .i64 0, .slice none 0 0, .int .i64 0, .int .i64 0] 35))
  have HB2 := Lib.hid (HB2.out.alloc (.cells #[.int .i64 (v1 : Int), .int .u64 0, .int .u64 0, .int .u64 0, .int .i64 0, .int .i64 0, .int .i64 0, .slice none 0 0, .slice none 0 0, .int .i64 0, .slice none 0 0, .int .i64 0, .int .i64 0] 35))
  obtain ⟨p, hp⟩ : ∃ p, p = w1.heap.size := ⟨_, rfl⟩
  have hpw : w.heap.size + 2 ≤ p := by omega
  have hpg : p ≠ g := by omega
  have hn1 : ¬ w.heap.size = p := by omega
  have hn2 : ¬ p = w.heap.size := by omega
  obtain ⟨wS, hwS⟩ : ∃ wS, wS = (w1.alloc (.cells #[.int .i64 (v1 : Int), .int .u64 0, .int .u64 0, .int .u64 0, .int .i64 0, .int .i64 0, .int .i64 0, .slice none 0 0, .slice none 0 0, .int .i64 0, .slice none 0 0, .int .i64 0, .int .i64 0] 35)) := ⟨_, rfl⟩
  have hwp : p < wS.heap.size := by rw [hwS, hp]; simp
  have hgS : g < wS.heap.size := by omega
  have HFS := Lib.hid (show ∀ k, F k → k < wS.heap.size from fun k hk => by have := HF0.out k hk; omega)
  rw [← hwS] at hI HTS HB2
  rw [← hp] at hI
  have HI := Lib.hid hI
  have HWS := Lib.hid hwS
  have HP0 := Lib.hid hp
  clear hI hwS hs1 hsg hp HHx HTx
  go_wp2_with fail
  rw [← HWS.out, ← HP0.out]
  clear HWS HP0
  refine (fnum_st g F b1 8 l1 _ (by exact HI.out.rd)).mono ?_
  rintro e w2 ⟨v2, b2, l2, hv2, hm2, rfl, h2, t2⟩
  have HV2 := Lib.hid hv2
  have HI := Lib.hid (HI.out.to h2 t2)
  clear hv2 h2 t2
  have q1 := HI.out.blk.cell 1; have f1 := HI.out.blk.frozen 1; simp at q1
  have HI := Lib.hid (show Inf wS (w2.setCell ⟨p, 1, none⟩ (.int .u64 (v2 : Int))) g p 35 F l2 b2 #[.int .i64 (v1 : Int), .int .u64 (v2 : Int), .int .u64 0, .int .u64 0, .int .i64 0, .int .i64 0, .int .i64 0, .slice none 0 0, .slice none 0 0, .int .i64 0, .slice none 0 0, .int .i64 0, .int .i64 0] from HI.out.set 1 (.int .u64 (v2 : Int)))
  go_wp2_with fail
  clear q1 f1
  refine (fnum_st g F b2 18446744073709551615 l2 _ (by exact HI.out.rd)).mono ?_
  rintro e w3 ⟨v3, b3, l3, hv3, hm3, rfl, h3, t3⟩
  have HV3 := Lib.hid hv3
  have HI0 := Lib.hid (HI.out.to h3 t3)
  clear hv3 h3 t3
  obtain ⟨w3', hw3⟩ : ∃ w3', w3' = w3.setCell ⟨p, 2, none⟩ (.int .u64 (v3 : Int)) := ⟨_, rfl⟩
  have HI := Lib.hid (show Inf wS w3' g p 35 F l3 b3 #[.int .i64 (v1 : Int), .int .u64 (v2 : Int), .int .u64 (v3 : Int), .int .u64 0, .int .i64 0, .int .i64 0, .int .i64 0, .slice none 0 0, .slice none 0 0, .int .i64 0, .slice none 0 0, .int .i64 0, .int .i64 0] from hw3 ▸ HI0.out.set 2 (.int .u64 (v3 : Int)))
  have HW3 := Lib.hid hw3
  clear hw3
  by_cases h0 : v1 = 0
  · subst h0
    have hq := HI0.out.blk
    have q0 := hq.cell 0; have q2 := hq.cell 2; simp at q0 q2
    have f2 := hq.frozen 2
    clear hq
    go_wp2_with fail
    rw [← HW3.out]
    clear q0 q2 f2
    refine (fnum_st g F b3 18446744073709551615 l3 _ (by exact HI.out.rd)).mono ?_
    rintro e w4 ⟨v4, b4, l4, hv, hm4, rfl, h, t⟩
    have HV4 := Lib.hid hv
    have HI := Lib.hid (HI.out.to h t)
    clear hv h t
    have q0 := HI.out.blk.cell 0; have q3 := HI.out.blk.cell 3; simp at q0 q3
    have f3 := HI.out.blk.frozen 3
    have HI := Lib.hid (show Inf wS (w4.setCell ⟨p, 3, none⟩ (.int .u64 (v4 : Int))) g p 35 F l4 b4 #[.int .i64 0, .int .u64 (v2 : Int), .int .u64 (v3 : Int), .int .u64 (v4 : Int), .int .i64 0, .int .i64 0, .int .i64 0, .slice none 0 0, .slice none 0 0, .int .i64 0, .slice none 0 0, .int .i64 0, .int .i64 0] from HI.out.set 3 (.int .u64 (v4 : Int)))
    go_wp2_with fail
    clear q0 q3 f3
    have HCM := Lib.hid (rfl : (Cm.mk 0 0 0 0 0 0 caZ coZ) = cmZ)
    have HSd := Lib.hid (fun w1 hr => fcmsound_any (fun q => wS.heap.size ≤ q) none none none 0 0 0 (Cm.mk 0 v2 v3 v4 0 0 caZ coZ) w1 hr (Nat.zero_le _) (Nat.zero_le _) (Nat.zero_le _) ⟨by simp, by simp⟩)
    simp only [caZ, coZ] at HSd
    have hsz : cmSound (Cm.mk 0 v2 v3 v4 0 0 caZ coZ) = false := rfl
    simp only [caZ, coZ] at hsz
    obtain ⟨sd, hsd⟩ : ∃ sd, sd = cmSound (Cm.mk 0 v2 v3 v4 0 0 caZ coZ) := ⟨_, rfl⟩
    simp only [caZ, coZ] at hsd
    rw [← hsd] at HSd
    rw [hsz] at hsd
    subst hsd
    clear hsz
    have HTE := Lib.hid (show Touch (fun k => k = g ∨ k = p) wS (w4.setCell ⟨p, 3, none⟩ (.int .u64 (v4 : Int))) from HI.out.t)
    have HBE := Lib.hid (HTE.out.blk HB2.out (by rintro (e | e) <;> omega))
    have HTa := Lib.hid (HTS.out.trans HTE.out (fun q hq e => by rcases e with e | e <;> omega))
    by_cases hE : b4 = false ∧ l4 = []
    rotate_left
    · have hEn : (if (b4 || !l4.isEmpty) = true then (20 : Int) else 0) = 20 := by cases hb : b4 <;> cases hl : l4 <;> simp_all
      have HEn := Lib.hid (rf_end g F b4 l4 _ HI.out.rd)
      rw [hEn] at HEn
      clear hE hEn
      refine HEn.out.mono ?_
      rintro e wz ⟨rfl, rfl⟩
      go_wp2_with (first
        | (refine storeM rowCm _ _ rfl rfl w.heap.size rfl #[.int .i64 0, .int .u64 0, .int .u64 0, .int .u64 0, .int .i64 0, .int .i64 0, .int .i64 0, .slice none 0 0, .slice none 0 0, .int .i64 0, .slice none 0 0, .int .i64 0, .int .i64 0] rfl _ _ HBE.out rfl rfl (cm_one ..) ?_; intro wr hbr tr; have HTr := Lib.hid tr; have d0 := hbr.cell 0; have d1 := hbr.cell 1; have d2 := hbr.cell 2; have d3 := hbr.cell 3; have d4 := hbr.cell 4; have d5 := hbr.cell 5; have d6 := hbr.cell 6; have d7 := hbr.cell 7; have d8 := hbr.cell 8; have d9 := hbr.cell 9; have d10 := hbr.cell 10; have d11 := hbr.cell 11; have d12 := hbr.cell 12; simp at d0 d1 d2 d3 d4 d5 d6 d7 d8 d9 d10 d11 d12; clear hbr tr))
      refine bodyPost_ret (v := .tuple #[.agg #[.int .i64 0, .int .u64 0, .int .u64 0, .int .u64 0, .int .i64 0, .int .i64 0, .int .i64 0, .slice none 0 0, .slice none 0 0, .int .i64 0, .slice none 0 0, .int .i64 0, .int .i64 0], .int .i64 20]) (by simp [results, Try.results14, go_sem, d0, d1, d2, d3, d4, d5, d6, d7, d8, d9, d10, d11, d12]) rfl ?_
      exact CmPost.no hlen (cmGood_0 HV1.out) (HTa.out.trans HTr.out (fun q hq e => by omega))
    obtain ⟨rfl, rfl⟩ := hE
    have HEn := Lib.hid (rf_end g F false [] _ HI.out.rd)
    simp only [List.isEmpty_nil, Bool.not_true, Bool.or_false, Bool.false_eq_true, if_false] at HEn
    refine HEn.out.mono ?_
    rintro e wz ⟨rfl, rfl⟩
    go_wp2_with (first
      | (refine storeM rowCm _ _ rfl rfl w.heap.size rfl #[.int .i64 0, .int .u64 0, .int .u64 0, .int .u64 0, .int .i64 0, .int .i64 0, .int .i64 0, .slice none 0 0, .slice none 0 0, .int .i64 0, .slice none 0 0, .int .i64 0, .int .i64 0] rfl _ _ HBa.out rfl rfl (cm_one ..) ?_; intro wr hbr tr; have HTr := Lib.hid tr; have d0 := hbr.cell 0; have d1 := hbr.cell 1; have d2 := hbr.cell 2; have d3 := hbr.cell 3; have d4 := hbr.cell 4; have d5 := hbr.cell 5; have d6 := hbr.cell 6; have d7 := hbr.cell 7; have d8 := hbr.cell 8; have d9 := hbr.cell 9; have d10 := hbr.cell 10; have d11 := hbr.cell 11; have d12 := hbr.cell 12; simp at d0 d1 d2 d3 d4 d5 d6 d7 d8 d9 d10 d11 d12; clear hbr tr)
      | (go_at_call 36; go_must (refine (HSd.out _ (by exact ⟨CaR.zero _ _, SpR.zero _ _⟩)).mono ?_); rintro e wa ⟨rfl, ta⟩; have HIa := Lib.hid (HI.out.far ta); have HBa := Lib.hid (ta.blk HBE.out (fun e => e)); have HTb := Lib.hid (HTa.out.trans ta (fun _ _ e => e)); clear ta)
      | (refine loadC rowCm _ rfl rfl p 0 rfl #[.int .i64 0, .int .u64 (v2 : Int), .int .u64 (v3 : Int), .int .u64 (v4 : Int), .int .i64 0, .int .i64 0, .int .i64 0, .slice none 0 0, .slice none 0 0, .int .i64 0, .slice none 0 0, .int .i64 0, .int .i64 0] rfl HI.out.blk.whole ?_))
    refine bodyPost_ret (v := .tuple #[.agg #[.int .i64 0, .int .u64 0, .int .u64 0, .int .u64 0, .int .i64 0, .int .i64 0, .int .i64 0, .slice none 0 0, .slice none 0 0, .int .i64 0, .slice none 0 0, .int .i64 0, .int .i64 0], .int .i64 20]) (by simp [results, Try.results14, go_sem, d0, d1, d2, d3, d4, d5, d6, d7, d8, d9, d10, d11, d12]) rfl ?_
    exact CmPost.no hlen (cmGood_0 HV1.out) (HTb.out.trans HTr.out (fun q hq e => by omega))
  by_cases h1 : v1 = 1
  · subst h1
    have hq := HI0.out.blk
    have q0 := hq.cell 0; have q2 := hq.cell 2; simp at q0 q2
    have f2 := hq.frozen 2
    clear hq
    go_wp2_with fail
    rw [← HW3.out]
    clear q0 q2 f2
    have HCM := Lib.hid (rfl : (Cm.mk 0 0 0 0 0 0 caZ coZ) = cmZ)
    have HR := Lib.hid (show rdCmd (false, l) = (⟨1, v2, v3, 0, 0, 0, caZ, coZ⟩, b3, l3) by rw [rdCmd]; simp only [HV1.out, HV2.out, HV3.out]; rw [rdBody_1])
    have HSd := Lib.hid (fun w1 hr => fcmsound_any (fun q => wS.heap.size ≤ q) none none none 0 0 0 (Cm.mk 1 v2 v3 0 0 0 caZ coZ) w1 hr (Nat.zero_le _) (Nat.zero_le _) (Nat.zero_le _) ⟨by simp, by simp⟩)
    simp only [caZ, coZ] at HSd
    obtain ⟨sd, hsd⟩ : ∃ sd, sd = cmSound (Cm.mk 1 v2 v3 0 0 0 caZ coZ) := ⟨_, rfl⟩
    simp only [caZ, coZ] at hsd
    rw [← hsd] at HSd
    have HSv := Lib.hid hsd
    clear hsd
    have HTE := Lib.hid (show Touch (fun k => k = g ∨ k = p) wS (w3') from HI.out.t)
    have HBE := Lib.hid (HTE.out.blk HB2.out (by rintro (e | e) <;> omega))
    have HTa := Lib.hid (HTS.out.trans HTE.out (fun q hq e => by rcases e with e | e <;> omega))
    by_cases hE : b3 = false ∧ l3 = []
    rotate_left
    · have HG := Lib.hid (show cmGood (rdCmd (false, l)) = false by rw [HR.out]; cases hb : b3 <;> cases hl : l3 <;> simp_all [cmGood])
      have hEn : (if (b3 || !l3.isEmpty) = true then (20 : Int) else 0) = 20 := by cases hb : b3 <;> cases hl : l3 <;> simp_all
      have HEn := Lib.hid (rf_end g F b3 l3 _ HI.out.rd)
      rw [hEn] at HEn
      clear hE hEn
      refine HEn.out.mono ?_
      rintro e wz ⟨rfl, rfl⟩
      go_wp2_with (first
        | (refine storeM rowCm _ _ rfl rfl w.heap.size rfl #[.int .i64 0, .int .u64 0, .int .u64 0, .int .u64 0, .int .i64 0, .int .i64 0, .int .i64 0, .slice none 0 0, .slice none 0 0, .int .i64 0, .slice none 0 0, .int .i64 0, .int .i64 0] rfl _ _ HBE.out rfl rfl (cm_one ..) ?_; intro wr hbr tr; have HTr := Lib.hid tr; have d0 := hbr.cell 0; have d1 := hbr.cell 1; have d2 := hbr.cell 2; have d3 := hbr.cell 3; have d4 := hbr.cell 4; have d5 := hbr.cell 5; have d6 := hbr.cell 6; have d7 := hbr.cell 7; have d8 := hbr.cell 8; have d9 := hbr.cell 9; have d10 := hbr.cell 10; have d11 := hbr.cell 11; have d12 := hbr.cell 12; simp at d0 d1 d2 d3 d4 d5 d6 d7 d8 d9 d10 d11 d12; clear hbr tr))
      refine bodyPost_ret (v := .tuple #[.agg #[.int .i64 0, .int .u64 0, .int .u64 0, .int .u64 0, .int .i64 0, .int .i64 0, .int .i64 0, .slice none 0 0, .slice none 0 0, .int .i64 0, .slice none 0 0, .int .i64 0, .int .i64 0], .int .i64 20]) (by simp [results, Try.results14, go_sem, d0, d1, d2, d3, d4, d5, d6, d7, d8, d9, d10, d11, d12]) rfl ?_
      exact CmPost.no hlen (HG.out) (HTa.out.trans HTr.out (fun q hq e => by omega))
    obtain ⟨rfl, rfl⟩ := hE
    have HEn := Lib.hid (rf_end g F false [] _ HI.out.rd)
    simp only [List.isEmpty_nil, Bool.not_true, Bool.or_false, Bool.false_eq_true, if_false] at HEn
    refine HEn.out.mono ?_
    rintro e wz ⟨rfl, rfl⟩
    cases sd
    · have HG := Lib.hid (show cmGood (rdCmd (false, l)) = false by rw [HR.out, cmGood]; show (true && cmSound _) = false; rw [Bool.true_and]; exact HSv.out.symm)
      go_wp2_with (first
        | (refine storeM rowCm _ _ rfl rfl w.heap.size rfl #[.int .i64 0, .int .u64 0, .int .u64 0, .int .u64 0, .int .i64 0, .int .i64 0, .int .i64 0, .slice none 0 0, .slice none 0 0, .int .i64 0, .slice none 0 0, .int .i64 0, .int .i64 0] rfl _ _ HBa.out rfl rfl (cm_one ..) ?_; intro wr hbr tr; have HTr := Lib.hid tr; have d0 := hbr.cell 0; have d1 := hbr.cell 1; have d2 := hbr.cell 2; have d3 := hbr.cell 3; have d4 := hbr.cell 4; have d5 := hbr.cell 5; have d6 := hbr.cell 6; have d7 := hbr.cell 7; have d8 := hbr.cell 8; have d9 := hbr.cell 9; have d10 := hbr.cell 10; have d11 := hbr.cell 11; have d12 := hbr.cell 12; simp at d0 d1 d2 d3 d4 d5 d6 d7 d8 d9 d10 d11 d12; clear hbr tr)
        | (go_at_call 36; go_must (refine (HSd.out _ (by exact ⟨CaR.zero _ _, SpR.zero _ _⟩)).mono ?_); rintro e wa ⟨rfl, ta⟩; have HIa := Lib.hid (HI.out.far ta); have HBa := Lib.hid (ta.blk HBE.out (fun e => e)); have HTb := Lib.hid (HTa.out.trans ta (fun _ _ e => e)); clear ta)
        | (refine loadC rowCm _ rfl rfl p 0 rfl #[.int .i64 1, .int .u64 (v2 : Int), .int .u64 (v3 : Int), .int .u64 0, .int .i64 0, .int .i64 0, .int .i64 0, .slice none 0 0, .slice none 0 0, .int .i64 0, .slice none 0 0, .int .i64 0, .int .i64 0] rfl HI.out.blk.whole ?_))
      refine bodyPost_ret (v := .tuple #[.agg #[.int .i64 0, .int .u64 0, .int .u64 0, .int .u64 0, .int .i64 0, .int .i64 0, .int .i64 0, .slice none 0 0, .slice none 0 0, .int .i64 0, .slice none 0 0, .int .i64 0, .int .i64 0], .int .i64 20]) (by simp [results, Try.results14, go_sem, d0, d1, d2, d3, d4, d5, d6, d7, d8, d9, d10, d11, d12]) rfl ?_
      exact CmPost.no hlen (HG.out) (HTb.out.trans HTr.out (fun q hq e => by omega))
    · go_wp2_with (first
        | (refine storeM rowCm _ _ rfl rfl w.heap.size rfl #[.int .i64 1, .int .u64 (v2 : Int), .int .u64 (v3 : Int), .int .u64 0, .int .i64 0, .int .i64 0, .int .i64 0, .slice none 0 0, .slice none 0 0, .int .i64 0, .slice none 0 0, .int .i64 0, .int .i64 0] rfl _ _ HBa.out rfl rfl (cm_one ..) ?_; intro wr hbr tr; have HTr := Lib.hid tr; have d0 := hbr.cell 0; have d1 := hbr.cell 1; have d2 := hbr.cell 2; have d3 := hbr.cell 3; have d4 := hbr.cell 4; have d5 := hbr.cell 5; have d6 := hbr.cell 6; have d7 := hbr.cell 7; have d8 := hbr.cell 8; have d9 := hbr.cell 9; have d10 := hbr.cell 10; have d11 := hbr.cell 11; have d12 := hbr.cell 12; simp at d0 d1 d2 d3 d4 d5 d6 d7 d8 d9 d10 d11 d12; clear hbr tr)
        | (refine loadC rowCm _ rfl rfl p 0 rfl #[.int .i64 1, .int .u64 (v2 : Int), .int .u64 (v3 : Int), .int .u64 0, .int .i64 0, .int .i64 0, .int .i64 0, .slice none 0 0, .slice none 0 0, .int .i64 0, .slice none 0 0, .int .i64 0, .int .i64 0] rfl HIa.out.blk.whole ?_)
        | (go_at_call 36; go_must (refine (HSd.out _ (by exact ⟨CaR.zero _ _, SpR.zero _ _⟩)).mono ?_); rintro e wa ⟨rfl, ta⟩; have HIa := Lib.hid (HI.out.far ta); have HBa := Lib.hid (ta.blk HBE.out (fun e => e)); have HTb := Lib.hid (HTa.out.trans ta (fun _ _ e => e)); clear ta)
        | (refine loadC rowCm _ rfl rfl p 0 rfl #[.int .i64 1, .int .u64 (v2 : Int), .int .u64 (v3 : Int), .int .u64 0, .int .i64 0, .int .i64 0, .int .i64 0, .slice none 0 0, .slice none 0 0, .int .i64 0, .slice none 0 0, .int .i64 0, .int .i64 0] rfl HI.out.blk.whole ?_))
      refine bodyPost_ret (v := .tuple #[.agg #[.int .i64 1, .int .u64 (v2 : Int), .int .u64 (v3 : Int), .int .u64 0, .int .i64 0, .int .i64 0, .int .i64 0, .slice none 0 0, .slice none 0 0, .int .i64 0, .slice none 0 0, .int .i64 0, .int .i64 0], .int .i64 0]) (by simp [results, Try.results14, go_sem, d0, d1, d2, d3, d4, d5, d6, d7, d8, d9, d10, d11, d12]) rfl ?_
      exact CmPost.yes (c := ⟨1, v2, v3, 0, 0, 0, caZ, coZ⟩) hlen HR.out HSv.out.symm (CmR.mono (F := fun q => wS.heap.size ≤ q) ⟨CaR.zero _ _, SpR.zero _ _⟩ (fun k hk => by omega)) (HTb.out.trans HTr.out (fun q hq e => by omega))
  by_cases h2 : v1 = 2
  · subst h2
    have hq := HI0.out.blk
    have q0 := hq.cell 0; have q2 := hq.cell 2; simp at q0 q2
    have f2 := hq.frozen 2
    clear hq
    go_wp2_with fail
    rw [← HW3.out]
    clear q0 q2 f2
    refine (fnum_st g F b3 18446744073709551615 l3 _ (by exact HI.out.rd)).mono ?_
    rintro e w4 ⟨v4, b4, l4, hv, hm4, rfl, h, t⟩
    have HV4 := Lib.hid hv
    have HI := Lib.hid (HI.out.to h t)
    clear hv h t
    have q0 := HI.out.blk.cell 0; have q3 := HI.out.blk.cell 3; simp at q0 q3
    have f3 := HI.out.blk.frozen 3
    have HI := Lib.hid (show Inf wS (w4.setCell ⟨p, 3, none⟩ (.int .u64 (v4 : Int))) g p 35 F l4 b4 #[.int .i64 2, .int .u64 (v2 : Int), .int .u64 (v3 : Int), .int .u64 (v4 : Int), .int .i64 0, .int .i64 0, .int .i64 0, .slice none 0 0, .slice none 0 0, .int .i64 0, .slice none 0 0, .int .i64 0, .int .i64 0] from HI.out.set 3 (.int .u64 (v4 : Int)))
    go_wp2_with fail
    clear q0 q3 f3
    have hqi := rdRes_in b4 l4
    have hqo := rdRes_okb b4 l4
    have hwsz := HI.out.t.size
    have HRD := fread10_any g F b4 l4 _ HI.out.rd (fun k hk => by have := HFS.out k hk; omega) (by omega)
    obtain ⟨qc, hqc⟩ : ∃ qc, qc = rdRes b4 l4 := ⟨_, rfl⟩
    rw [← hqc] at HRD hqi hqo
    have HQC := Lib.hid hqc
    obtain ⟨ca, okc, l5, b5⟩ := qc
    simp only at hqi hqo
    subst hqo
    have HRD := Lib.hid HRD
    clear hqc
    refine HRD.out.mono ?_
    rintro e w5 ⟨A5, B5, k5, m5, rfl, hca, h, t⟩
    have HI := Lib.hid (HI.out.to h t)
    have HCA := Lib.hid (show CaR w5 (fun q => wS.heap.size ≤ q) ca A5 B5 from ⟨hca.wk.mono (fun q hq => Nat.le_trans hwsz hq), hca.cl.mono (fun q hq => Nat.le_trans hwsz hq)⟩)
    clear hca h t HRD
    have q0 := HI.out.blk.cell 0; have q6 := HI.out.blk.cell 6; have q7 := HI.out.blk.cell 7; have q8 := HI.out.blk.cell 8; simp at q0 q6 q7 q8
    have f6 := HI.out.blk.frozen 6; have f7 := HI.out.blk.frozen 7; have f8 := HI.out.blk.frozen 8
    have HI := Lib.hid (show Inf wS (w5.setCell ⟨p, 6, none⟩ (.int .i64 ca.off)) g p 35 F l5 b5 #[.int .i64 2, .int .u64 (v2 : Int), .int .u64 (v3 : Int), .int .u64 (v4 : Int), .int .i64 0, .int .i64 0, .int .i64 ca.off, .slice none 0 0, .slice none 0 0, .int .i64 0, .slice none 0 0, .int .i64 0, .int .i64 0] from HI.out.set 6 (.int .i64 ca.off))
    have HI := Lib.hid (show Inf wS ((w5.setCell ⟨p, 6, none⟩ (.int .i64 ca.off)).setCell ⟨p, 7, none⟩ (.slice A5 ca.wk.length k5)) g p 35 F l5 b5 #[.int .i64 2, .int .u64 (v2 : Int), .int .u64 (v3 : Int), .int .u64 (v4 : Int), .int .i64 0, .int .i64 0, .int .i64 ca.off, .slice A5 ca.wk.length k5, .slice none 0 0, .int .i64 0, .slice none 0 0, .int .i64 0, .int .i64 0] from HI.out.set 7 (.slice A5 ca.wk.length k5))
    have HI := Lib.hid (show Inf wS (((w5.setCell ⟨p, 6, none⟩ (.int .i64 ca.off)).setCell ⟨p, 7, none⟩ (.slice A5 ca.wk.length k5)).setCell ⟨p, 8, none⟩ (.slice B5 ca.cl.length m5)) g p 35 F l5 b5 #[.int .i64 2, .int .u64 (v2 : Int), .int .u64 (v3 : Int), .int .u64 (v4 : Int), .int .i64 0, .int .i64 0, .int .i64 ca.off, .slice A5 ca.wk.length k5, .slice B5 ca.cl.length m5, .int .i64 0, .slice none 0 0, .int .i64 0, .int .i64 0] from HI.out.set 8 (.slice B5 ca.cl.length m5))
    have HROW := Lib.hid (show CaR _ (fun q => wS.heap.size ≤ q) ca A5 B5 from ((HCA.out.touch (Touch.set (S := fun k => k = p) (Touch.refl _ w5) (b := p) (o := 6) (fun _ => rfl) (.int .i64 ca.off)) (by intro k hk e; omega)).touch (Touch.set (S := fun k => k = p) (Touch.refl _ _) (b := p) (o := 7) (fun _ => rfl) (.slice A5 ca.wk.length k5)) (by intro k hk e; omega)).touch (Touch.set (S := fun k => k = p) (Touch.refl _ _) (b := p) (o := 8) (fun _ => rfl) (.slice B5 ca.cl.length m5)) (by intro k hk e; omega))
    have HCM := Lib.hid (rfl : (Cm.mk 0 0 0 0 0 0 caZ coZ) = cmZ)
    have HR := Lib.hid (show rdCmd (false, l) = (⟨2, v2, v3, v4, 0, 0, ca, coZ⟩, b5, l5) by rw [rdCmd]; simp only [HV1.out, HV2.out, HV3.out]; rw [rdBody_2]; simp only [HV4.out, ← HQC.out])
    have HSd := Lib.hid (fun w1 hr => fcmsound_any (fun q => wS.heap.size ≤ q) A5 B5 none k5 m5 0 (Cm.mk 2 v2 v3 v4 0 0 ca coZ) w1 hr (by simp only; omega) (by simp only; omega) (Nat.zero_le _) ⟨by simp, by simp⟩)
    simp only [coZ] at HSd
    obtain ⟨sd, hsd⟩ : ∃ sd, sd = cmSound (Cm.mk 2 v2 v3 v4 0 0 ca coZ) := ⟨_, rfl⟩
    simp only [coZ] at hsd
    rw [← hsd] at HSd
    have HSv := Lib.hid hsd
    clear hsd
    have HTE := Lib.hid (show Touch (fun k => k = g ∨ k = p) wS (((w5.setCell ⟨p, 6, none⟩ (.int .i64 ca.off)).setCell ⟨p, 7, none⟩ (.slice A5 ca.wk.length k5)).setCell ⟨p, 8, none⟩ (.slice B5 ca.cl.length m5)) from HI.out.t)
    have HBE := Lib.hid (HTE.out.blk HB2.out (by rintro (e | e) <;> omega))
    have HTa := Lib.hid (HTS.out.trans HTE.out (fun q hq e => by rcases e with e | e <;> omega))
    cases b5
    rotate_left
    · have HG := Lib.hid (show cmGood (rdCmd (false, l)) = false by rw [HR.out]; rfl)
      go_wp2_with (first
        | (refine storeM rowCm _ _ rfl rfl w.heap.size rfl #[.int .i64 0, .int .u64 0, .int .u64 0, .int .u64 0, .int .i64 0, .int .i64 0, .int .i64 0, .slice none 0 0, .slice none 0 0, .int .i64 0, .slice none 0 0, .int .i64 0, .int .i64 0] rfl _ _ HBE.out rfl rfl (cm_one ..) ?_; intro wr hbr tr; have HTr := Lib.hid tr; have d0 := hbr.cell 0; have d1 := hbr.cell 1; have d2 := hbr.cell 2; have d3 := hbr.cell 3; have d4 := hbr.cell 4; have d5 := hbr.cell 5; have d6 := hbr.cell 6; have d7 := hbr.cell 7; have d8 := hbr.cell 8; have d9 := hbr.cell 9; have d10 := hbr.cell 10; have d11 := hbr.cell 11; have d12 := hbr.cell 12; simp at d0 d1 d2 d3 d4 d5 d6 d7 d8 d9 d10 d11 d12; clear hbr tr))
      refine bodyPost_ret (v := .tuple #[.agg #[.int .i64 0, .int .u64 0, .int .u64 0, .int .u64 0, .int .i64 0, .int .i64 0, .int .i64 0, .slice none 0 0, .slice none 0 0, .int .i64 0, .slice none 0 0, .int .i64 0, .int .i64 0], .int .i64 20]) (by simp [results, Try.results14, go_sem, d0, d1, d2, d3, d4, d5, d6, d7, d8, d9, d10, d11, d12]) rfl ?_
      exact CmPost.no hlen (HG.out) (HTa.out.trans HTr.out (fun q hq e => by omega))
    by_cases hE : false = false ∧ l5 = []
    rotate_left
    · have HG := Lib.hid (show cmGood (rdCmd (false, l)) = false by rw [HR.out]; cases hb : false <;> cases hl : l5 <;> simp_all [cmGood])
      have hEn : (if (false || !l5.isEmpty) = true then (20 : Int) else 0) = 20 := by cases hb : false <;> cases hl : l5 <;> simp_all
      have HEn := Lib.hid (rf_end g F false l5 _ HI.out.rd)
      rw [hEn] at HEn
      clear hE hEn
      go_wp2_with fail
      clear q0 q6 q7 q8 f6 f7 f8
      refine HEn.out.mono ?_
      rintro e wz ⟨rfl, rfl⟩
      go_wp2_with (first
        | (refine storeM rowCm _ _ rfl rfl w.heap.size rfl #[.int .i64 0, .int .u64 0, .int .u64 0, .int .u64 0, .int .i64 0, .int .i64 0, .int .i64 0, .slice none 0 0, .slice none 0 0, .int .i64 0, .slice none 0 0, .int .i64 0, .int .i64 0] rfl _ _ HBE.out rfl rfl (cm_one ..) ?_; intro wr hbr tr; have HTr := Lib.hid tr; have d0 := hbr.cell 0; have d1 := hbr.cell 1; have d2 := hbr.cell 2; have d3 := hbr.cell 3; have d4 := hbr.cell 4; have d5 := hbr.cell 5; have d6 := hbr.cell 6; have d7 := hbr.cell 7; have d8 := hbr.cell 8; have d9 := hbr.cell 9; have d10 := hbr.cell 10; have d11 := hbr.cell 11; have d12 := hbr.cell 12; simp at d0 d1 d2 d3 d4 d5 d6 d7 d8 d9 d10 d11 d12; clear hbr tr))
      refine bodyPost_ret (v := .tuple #[.agg #[.int .i64 0, .int .u64 0, .int .u64 0, .int .u64 0, .int .i64 0, .int .i64 0, .int .i64 0, .slice none 0 0, .slice none 0 0, .int .i64 0, .slice none 0 0, .int .i64 0, .int .i64 0], .int .i64 20]) (by simp [results, Try.results14, go_sem, d0, d1, d2, d3, d4, d5, d6, d7, d8, d9, d10, d11, d12]) rfl ?_
      exact CmPost.no hlen (HG.out) (HTa.out.trans HTr.out (fun q hq e => by omega))
    obtain ⟨-, rfl⟩ := hE
    have HEn := Lib.hid (rf_end g F false [] _ HI.out.rd)
    simp only [List.isEmpty_nil, Bool.not_true, Bool.or_false, Bool.false_eq_true, if_false] at HEn
    go_wp2_with fail
    clear q0 q6 q7 q8 f6 f7 f8
    refine HEn.out.mono ?_
    rintro e wz ⟨rfl, rfl⟩
    cases sd
    · have HG := Lib.hid (show cmGood (rdCmd (false, l)) = false by rw [HR.out, cmGood]; show (true && cmSound _) = false; rw [Bool.true_and]; exact HSv.out.symm)
      go_wp2_with (first
        | (refine storeM rowCm _ _ rfl rfl w.heap.size rfl #[.int .i64 0, .int .u64 0, .int .u64 0, .int .u64 0, .int .i64 0, .int .i64 0, .int .i64 0, .slice none 0 0, .slice none 0 0, .int .i64 0, .slice none 0 0, .int .i64 0, .int .i64 0] rfl _ _ HBa.out rfl rfl (cm_one ..) ?_; intro wr hbr tr; have HTr := Lib.hid tr; have d0 := hbr.cell 0; have d1 := hbr.cell 1; have d2 := hbr.cell 2; have d3 := hbr.cell 3; have d4 := hbr.cell 4; have d5 := hbr.cell 5; have d6 := hbr.cell 6; have d7 := hbr.cell 7; have d8 := hbr.cell 8; have d9 := hbr.cell 9; have d10 := hbr.cell 10; have d11 := hbr.cell 11; have d12 := hbr.cell 12; simp at d0 d1 d2 d3 d4 d5 d6 d7 d8 d9 d10 d11 d12; clear hbr tr)
        | (go_at_call 36; go_must (refine (HSd.out _ (by exact ⟨HROW.out, SpR.zero _ _⟩)).mono ?_); rintro e wa ⟨rfl, ta⟩; have HIa := Lib.hid (HI.out.far ta); have HBa := Lib.hid (ta.blk HBE.out (fun e => e)); have HTb := Lib.hid (HTa.out.trans ta (fun _ _ e => e)); have HROWa := Lib.hid (HROW.out.touch ta (fun _ _ e => e)); clear ta)
        | (refine loadC rowCm _ rfl rfl p 0 rfl #[.int .i64 2, .int .u64 (v2 : Int), .int .u64 (v3 : Int), .int .u64 (v4 : Int), .int .i64 0, .int .i64 0, .int .i64 ca.off, .slice A5 ca.wk.length k5, .slice B5 ca.cl.length m5, .int .i64 0, .slice none 0 0, .int .i64 0, .int .i64 0] rfl HI.out.blk.whole ?_))
      refine bodyPost_ret (v := .tuple #[.agg #[.int .i64 0, .int .u64 0, .int .u64 0, .int .u64 0, .int .i64 0, .int .i64 0, .int .i64 0, .slice none 0 0, .slice none 0 0, .int .i64 0, .slice none 0 0, .int .i64 0, .int .i64 0], .int .i64 20]) (by simp [results, Try.results14, go_sem, d0, d1, d2, d3, d4, d5, d6, d7, d8, d9, d10, d11, d12]) rfl ?_
      exact CmPost.no hlen (HG.out) (HTb.out.trans HTr.out (fun q hq e => by omega))
    · go_wp2_with (first
        | (refine storeM rowCm _ _ rfl rfl w.heap.size rfl #[.int .i64 2, .int .u64 (v2 : Int), .int .u64 (v3 : Int), .int .u64 (v4 : Int), .int .i64 0, .int .i64 0, .int .i64 ca.off, .slice A5 ca.wk.length k5, .slice B5 ca.cl.length m5, .int .i64 0, .slice none 0 0, .int .i64 0, .int .i64 0] rfl _ _ HBa.out rfl rfl (cm_one ..) ?_; intro wr hbr tr; have HTr := Lib.hid tr; have d0 := hbr.cell 0; have d1 := hbr.cell 1; have d2 := hbr.cell 2; have d3 := hbr.cell 3; have d4 := hbr.cell 4; have d5 := hbr.cell 5; have d6 := hbr.cell 6; have d7 := hbr.cell 7; have d8 := hbr.cell 8; have d9 := hbr.cell 9; have d10 := hbr.cell 10; have d11 := hbr.cell 11; have d12 := hbr.cell 12; simp at d0 d1 d2 d3 d4 d5 d6 d7 d8 d9 d10 d11 d12; clear hbr tr)
        | (refine loadC rowCm _ rfl rfl p 0 rfl #[.int .i64 2, .int .u64 (v2 : Int), .int .u64 (v3 : Int), .int .u64 (v4 : Int), .int .i64 0, .int .i64 0, .int .i64 ca.off, .slice A5 ca.wk.length k5, .slice B5 ca.cl.length m5, .int .i64 0, .slice none 0 0, .int .i64 0, .int .i64 0] rfl HIa.out.blk.whole ?_)
        | (go_at_call 36; go_must (refine (HSd.out _ (by exact ⟨HROW.out, SpR.zero _ _⟩)).mono ?_); rintro e wa ⟨rfl, ta⟩; have HIa := Lib.hid (HI.out.far ta); have HBa := Lib.hid (ta.blk HBE.out (fun e => e)); have HTb := Lib.hid (HTa.out.trans ta (fun _ _ e => e)); have HROWa := Lib.hid (HROW.out.touch ta (fun _ _ e => e)); clear ta)
        | (refine loadC rowCm _ rfl rfl p 0 rfl #[.int .i64 2, .int .u64 (v2 : Int), .int .u64 (v3 : Int), .int .u64 (v4 : Int), .int .i64 0, .int .i64 0, .int .i64 ca.off, .slice A5 ca.wk.length k5, .slice B5 ca.cl.length m5, .int .i64 0, .slice none 0 0, .int .i64 0, .int .i64 0] rfl HI.out.blk.whole ?_))
      refine bodyPost_ret (v := .tuple #[.agg #[.int .i64 2, .int .u64 (v2 : Int), .int .u64 (v3 : Int), .int .u64 (v4 : Int), .int .i64 0, .int .i64 0, .int .i64 ca.off, .slice A5 ca.wk.length k5, .slice B5 ca.cl.length m5, .int .i64 0, .slice none 0 0, .int .i64 0, .int .i64 0], .int .i64 0]) (by simp [results, Try.results14, go_sem, d0, d1, d2, d3, d4, d5, d6, d7, d8, d9, d10, d11, d12]) rfl ?_
      exact CmPost.yes (c := ⟨2, v2, v3, v4, 0, 0, ca, coZ⟩) hlen HR.out HSv.out.symm (CmR.mono (F := fun q => wS.heap.size ≤ q) ⟨(HROWa.out.touch HTr.out (fun q hq e => by omega)), SpR.zero _ _⟩ (fun k hk => by omega)) (HTb.out.trans HTr.out (fun q hq e => by omega))
  by_cases h3 : v1 = 3
  · subst h3
    have hq := HI0.out.blk
    have q0 := hq.cell 0; have q2 := hq.cell 2; simp at q0 q2
    have f2 := hq.frozen 2
    clear hq
    go_wp2_with fail
    rw [← HW3.out]
    clear q0 q2 f2
    refine (fnum_st g F b3 18446744073709551615 l3 _ (by exact HI.out.rd)).mono ?_
    rintro e w4 ⟨v4, b4, l4, hv, hm4, rfl, h, t⟩
    have HV4 := Lib.hid hv
    have HI := Lib.hid (HI.out.to h t)
    clear hv h t
    have q0 := HI.out.blk.cell 0; have q3 := HI.out.blk.cell 3; simp at q0 q3
    have f3 := HI.out.blk.frozen 3
    have HI := Lib.hid (show Inf wS (w4.setCell ⟨p, 3, none⟩ (.int .u64 (v4 : Int))) g p 35 F l4 b4 #[.int .i64 3, .int .u64 (v2 : Int), .int .u64 (v3 : Int), .int .u64 (v4 : Int), .int .i64 0, .int .i64 0, .int .i64 0, .slice none 0 0, .slice none 0 0, .int .i64 0, .slice none 0 0, .int .i64 0, .int .i64 0] from HI.out.set 3 (.int .u64 (v4 : Int)))
    go_wp2_with fail
    clear q0 q3 f3
    have hqi := conRes_in (rdCon (b4, l4))
    have hqo := conRes_okb (rdCon (b4, l4))
    have hwsz := HI.out.t.size
    have HRD := fkread_any g F b4 l4 _ HI.out.rd (fun k hk => by have := HFS.out k hk; omega) (by omega)
    unfold FKpPost at HRD
    rw [hqo] at HRD
    obtain ⟨qc, hqc⟩ : ∃ qc, qc = conRes (rdCon (b4, l4)) := ⟨_, rfl⟩
    rw [← hqc] at HRD hqi
    have HQC := Lib.hid hqc
    obtain ⟨tm, b5, l5⟩ := qc
    simp only at hqi HRD
    have HRD := Lib.hid HRD
    clear hqc hqo
    refine HRD.out.mono ?_
    rintro e w5 ⟨D5, n5, rfl, hsp, h, t⟩
    have HI := Lib.hid (HI.out.to h t)
    have HCA := Lib.hid (show SpR w5 (fun q => wS.heap.size ≤ q) D5 tm.lv.length tm.lv from hsp.mono (fun q hq => Nat.le_trans hwsz hq))
    clear hsp h t HRD
    have q0 := HI.out.blk.cell 0; have q9 := HI.out.blk.cell 9; have q10 := HI.out.blk.cell 10; have q11 := HI.out.blk.cell 11; have q12 := HI.out.blk.cell 12; simp at q0 q9 q10 q11 q12
    have f9 := HI.out.blk.frozen 9; have f10 := HI.out.blk.frozen 10; have f11 := HI.out.blk.frozen 11; have f12 := HI.out.blk.frozen 12
    have HI := Lib.hid (show Inf wS (w5.setCell ⟨p, 9, none⟩ (.int .i64 tm.cal)) g p 35 F l5 b5 #[.int .i64 3, .int .u64 (v2 : Int), .int .u64 (v3 : Int), .int .u64 (v4 : Int), .int .i64 0, .int .i64 0, .int .i64 0, .slice none 0 0, .slice none 0 0, .int .i64 tm.cal, .slice none 0 0, .int .i64 0, .int .i64 0] from HI.out.set 9 (.int .i64 tm.cal))
    have HI := Lib.hid (show Inf wS ((w5.setCell ⟨p, 9, none⟩ (.int .i64 tm.cal)).setCell ⟨p, 10, none⟩ (.slice D5 tm.lv.length n5)) g p 35 F l5 b5 #[.int .i64 3, .int .u64 (v2 : Int), .int .u64 (v3 : Int), .int .u64 (v4 : Int), .int .i64 0, .int .i64 0, .int .i64 0, .slice none 0 0, .slice none 0 0, .int .i64 tm.cal, .slice D5 tm.lv.length n5, .int .i64 0, .int .i64 0] from HI.out.set 10 (.slice D5 tm.lv.length n5))
    have HI := Lib.hid (show Inf wS (((w5.setCell ⟨p, 9, none⟩ (.int .i64 tm.cal)).setCell ⟨p, 10, none⟩ (.slice D5 tm.lv.length n5)).setCell ⟨p, 11, none⟩ (.int .i64 tm.rt)) g p 35 F l5 b5 #[.int .i64 3, .int .u64 (v2 : Int), .int .u64 (v3 : Int), .int .u64 (v4 : Int), .int .i64 0, .int .i64 0, .int .i64 0, .slice none 0 0, .slice none 0 0, .int .i64 tm.cal, .slice D5 tm.lv.length n5, .int .i64 tm.rt, .int .i64 0] from HI.out.set 11 (.int .i64 tm.rt))
    have HI := Lib.hid (show Inf wS ((((w5.setCell ⟨p, 9, none⟩ (.int .i64 tm.cal)).setCell ⟨p, 10, none⟩ (.slice D5 tm.lv.length n5)).setCell ⟨p, 11, none⟩ (.int .i64 tm.rt)).setCell ⟨p, 12, none⟩ (.int .i64 tm.bk)) g p 35 F l5 b5 #[.int .i64 3, .int .u64 (v2 : Int), .int .u64 (v3 : Int), .int .u64 (v4 : Int), .int .i64 0, .int .i64 0, .int .i64 0, .slice none 0 0, .slice none 0 0, .int .i64 tm.cal, .slice D5 tm.lv.length n5, .int .i64 tm.rt, .int .i64 tm.bk] from HI.out.set 12 (.int .i64 tm.bk))
    have HROW := Lib.hid (show SpR _ (fun q => wS.heap.size ≤ q) D5 tm.lv.length tm.lv from ((((HCA.out.touch (Touch.set (S := fun k => k = p) (Touch.refl _ _) (b := p) (o := 9) (fun _ => rfl) (.int .i64 tm.cal)) (by intro k hk e; omega)).touch (Touch.set (S := fun k => k = p) (Touch.refl _ _) (b := p) (o := 10) (fun _ => rfl) (.slice D5 tm.lv.length n5)) (by intro k hk e; omega)).touch (Touch.set (S := fun k => k = p) (Touch.refl _ _) (b := p) (o := 11) (fun _ => rfl) (.int .i64 tm.rt)) (by intro k hk e; omega)).touch (Touch.set (S := fun k => k = p) (Touch.refl _ _) (b := p) (o := 12) (fun _ => rfl) (.int .i64 tm.bk)) (by intro k hk e; omega)))
    have HCM := Lib.hid (rfl : (Cm.mk 0 0 0 0 0 0 caZ coZ) = cmZ)
    have HR := Lib.hid (show rdCmd (false, l) = (⟨3, v2, v3, v4, 0, 0, caZ, tm⟩, b5, l5) by rw [rdCmd]; simp only [HV1.out, HV2.out, HV3.out]; rw [rdBody_3]; simp only [HV4.out, ← HQC.out])
    have HSd := Lib.hid (fun w1 hr => fcmsound_any (fun q => wS.heap.size ≤ q) none none D5 0 0 n5 (Cm.mk 3 v2 v3 v4 0 0 caZ tm) w1 hr (Nat.zero_le _) (Nat.zero_le _) (by simp only; omega) ⟨by simp, by simp⟩)
    simp only [caZ] at HSd
    obtain ⟨sd, hsd⟩ : ∃ sd, sd = cmSound (Cm.mk 3 v2 v3 v4 0 0 caZ tm) := ⟨_, rfl⟩
    simp only [caZ] at hsd
    rw [← hsd] at HSd
    have HSv := Lib.hid hsd
    clear hsd
    have HTE := Lib.hid (show Touch (fun k => k = g ∨ k = p) wS (((((w5.setCell ⟨p, 9, none⟩ (.int .i64 tm.cal)).setCell ⟨p, 10, none⟩ (.slice D5 tm.lv.length n5)).setCell ⟨p, 11, none⟩ (.int .i64 tm.rt)).setCell ⟨p, 12, none⟩ (.int .i64 tm.bk))) from HI.out.t)
    have HBE := Lib.hid (HTE.out.blk HB2.out (by rintro (e | e) <;> omega))
    have HTa := Lib.hid (HTS.out.trans HTE.out (fun q hq e => by rcases e with e | e <;> omega))
    cases b5
    rotate_left
    · have HG := Lib.hid (show cmGood (rdCmd (false, l)) = false by rw [HR.out]; rfl)
      go_wp2_with (first
        | (refine storeM rowCm _ _ rfl rfl w.heap.size rfl #[.int .i64 0, .int .u64 0, .int .u64 0, .int .u64 0, .int .i64 0, .int .i64 0, .int .i64 0, .slice none 0 0, .slice none 0 0, .int .i64 0, .slice none 0 0, .int .i64 0, .int .i64 0] rfl _ _ HBE.out rfl rfl (cm_one ..) ?_; intro wr hbr tr; have HTr := Lib.hid tr; have d0 := hbr.cell 0; have d1 := hbr.cell 1; have d2 := hbr.cell 2; have d3 := hbr.cell 3; have d4 := hbr.cell 4; have d5 := hbr.cell 5; have d6 := hbr.cell 6; have d7 := hbr.cell 7; have d8 := hbr.cell 8; have d9 := hbr.cell 9; have d10 := hbr.cell 10; have d11 := hbr.cell 11; have d12 := hbr.cell 12; simp at d0 d1 d2 d3 d4 d5 d6 d7 d8 d9 d10 d11 d12; clear hbr tr))
      refine bodyPost_ret (v := .tuple #[.agg #[.int .i64 0, .int .u64 0, .int .u64 0, .int .u64 0, .int .i64 0, .int .i64 0, .int .i64 0, .slice none 0 0, .slice none 0 0, .int .i64 0, .slice none 0 0, .int .i64 0, .int .i64 0], .int .i64 20]) (by simp [results, Try.results14, go_sem, d0, d1, d2, d3, d4, d5, d6, d7, d8, d9, d10, d11, d12]) rfl ?_
      exact CmPost.no hlen (HG.out) (HTa.out.trans HTr.out (fun q hq e => by omega))
    by_cases hE : false = false ∧ l5 = []
    rotate_left
    · have HG := Lib.hid (show cmGood (rdCmd (false, l)) = false by rw [HR.out]; cases hb : false <;> cases hl : l5 <;> simp_all [cmGood])
      have hEn : (if (false || !l5.isEmpty) = true then (20 : Int) else 0) = 20 := by cases hb : false <;> cases hl : l5 <;> simp_all
      have HEn := Lib.hid (rf_end g F false l5 _ HI.out.rd)
      rw [hEn] at HEn
      clear hE hEn
      go_wp2_with fail
      clear q0 q9 q10 q11 q12 f9 f10 f11 f12
      refine HEn.out.mono ?_
      rintro e wz ⟨rfl, rfl⟩
      go_wp2_with (first
        | (refine storeM rowCm _ _ rfl rfl w.heap.size rfl #[.int .i64 0, .int .u64 0, .int .u64 0, .int .u64 0, .int .i64 0, .int .i64 0, .int .i64 0, .slice none 0 0, .slice none 0 0, .int .i64 0, .slice none 0 0, .int .i64 0, .int .i64 0] rfl _ _ HBE.out rfl rfl (cm_one ..) ?_; intro wr hbr tr; have HTr := Lib.hid tr; have d0 := hbr.cell 0; have d1 := hbr.cell 1; have d2 := hbr.cell 2; have d3 := hbr.cell 3; have d4 := hbr.cell 4; have d5 := hbr.cell 5; have d6 := hbr.cell 6; have d7 := hbr.cell 7; have d8 := hbr.cell 8; have d9 := hbr.cell 9; have d10 := hbr.cell 10; have d11 := hbr.cell 11; have d12 := hbr.cell 12; simp at d0 d1 d2 d3 d4 d5 d6 d7 d8 d9 d10 d11 d12; clear hbr tr))
      refine bodyPost_ret (v := .tuple #[.agg #[.int .i64 0, .int .u64 0, .int .u64 0, .int .u64 0, .int .i64 0, .int .i64 0, .int .i64 0, .slice none 0 0, .slice none 0 0, .int .i64 0, .slice none 0 0, .int .i64 0, .int .i64 0], .int .i64 20]) (by simp [results, Try.results14, go_sem, d0, d1, d2, d3, d4, d5, d6, d7, d8, d9, d10, d11, d12]) rfl ?_
      exact CmPost.no hlen (HG.out) (HTa.out.trans HTr.out (fun q hq e => by omega))
    obtain ⟨-, rfl⟩ := hE
    have HEn := Lib.hid (rf_end g F false [] _ HI.out.rd)
    simp only [List.isEmpty_nil, Bool.not_true, Bool.or_false, Bool.false_eq_true, if_false] at HEn
    go_wp2_with fail
    clear q0 q9 q10 q11 q12 f9 f10 f11 f12
    refine HEn.out.mono ?_
    rintro e wz ⟨rfl, rfl⟩
    cases sd
    · have HG := Lib.hid (show cmGood (rdCmd (false, l)) = false by rw [HR.out, cmGood]; show (true && cmSound _) = false; rw [Bool.true_and]; exact HSv.out.symm)
      go_wp2_with (first
        | (refine storeM rowCm _ _ rfl rfl w.heap.size rfl #[.int .i64 0, .int .u64 0, .int .u64 0, .int .u64 0, .int .i64 0, .int .i64 0, .int .i64 0, .slice none 0 0, .slice none 0 0, .int .i64 0, .slice none 0 0, .int .i64 0, .int .i64 0] rfl _ _ HBa.out rfl rfl (cm_one ..) ?_; intro wr hbr tr; have HTr := Lib.hid tr; have d0 := hbr.cell 0; have d1 := hbr.cell 1; have d2 := hbr.cell 2; have d3 := hbr.cell 3; have d4 := hbr.cell 4; have d5 := hbr.cell 5; have d6 := hbr.cell 6; have d7 := hbr.cell 7; have d8 := hbr.cell 8; have d9 := hbr.cell 9; have d10 := hbr.cell 10; have d11 := hbr.cell 11; have d12 := hbr.cell 12; simp at d0 d1 d2 d3 d4 d5 d6 d7 d8 d9 d10 d11 d12; clear hbr tr)
        | (go_at_call 36; go_must (refine (HSd.out _ (by exact ⟨CaR.zero _ _, HROW.out⟩)).mono ?_); rintro e wa ⟨rfl, ta⟩; have HIa := Lib.hid (HI.out.far ta); have HBa := Lib.hid (ta.blk HBE.out (fun e => e)); have HTb := Lib.hid (HTa.out.trans ta (fun _ _ e => e)); have HROWa := Lib.hid (HROW.out.touch ta (fun _ _ e => e)); clear ta)
        | (refine loadC rowCm _ rfl rfl p 0 rfl #[.int .i64 3, .int .u64 (v2 : Int), .int .u64 (v3 : Int), .int .u64 (v4 : Int), .int .i64 0, .int .i64 0, .int .i64 0, .slice none 0 0, .slice none 0 0, .int .i64 tm.cal, .slice D5 tm.lv.length n5, .int .i64 tm.rt, .int .i64 tm.bk] rfl HI.out.blk.whole ?_))
      refine bodyPost_ret (v := .tuple #[.agg #[.int .i64 0, .int .u64 0, .int .u64 0, .int .u64 0, .int .i64 0, .int .i64 0, .int .i64 0, .slice none 0 0, .slice none 0 0, .int .i64 0, .slice none 0 0, .int .i64 0, .int .i64 0], .int .i64 20]) (by simp [results, Try.results14, go_sem, d0, d1, d2, d3, d4, d5, d6, d7, d8, d9, d10, d11, d12]) rfl ?_
      exact CmPost.no hlen (HG.out) (HTb.out.trans HTr.out (fun q hq e => by omega))
    · go_wp2_with (first
        | (refine storeM rowCm _ _ rfl rfl w.heap.size rfl #[.int .i64 3, .int .u64 (v2 : Int), .int .u64 (v3 : Int), .int .u64 (v4 : Int), .int .i64 0, .int .i64 0, .int .i64 0, .slice none 0 0, .slice none 0 0, .int .i64 tm.cal, .slice D5 tm.lv.length n5, .int .i64 tm.rt, .int .i64 tm.bk] rfl _ _ HBa.out rfl rfl (cm_one ..) ?_; intro wr hbr tr; have HTr := Lib.hid tr; have d0 := hbr.cell 0; have d1 := hbr.cell 1; have d2 := hbr.cell 2; have d3 := hbr.cell 3; have d4 := hbr.cell 4; have d5 := hbr.cell 5; have d6 := hbr.cell 6; have d7 := hbr.cell 7; have d8 := hbr.cell 8; have d9 := hbr.cell 9; have d10 := hbr.cell 10; have d11 := hbr.cell 11; have d12 := hbr.cell 12; simp at d0 d1 d2 d3 d4 d5 d6 d7 d8 d9 d10 d11 d12; clear hbr tr)
        | (refine loadC rowCm _ rfl rfl p 0 rfl #[.int .i64 3, .int .u64 (v2 : Int), .int .u64 (v3 : Int), .int .u64 (v4 : Int), .int .i64 0, .int .i64 0, .int .i64 0, .slice none 0 0, .slice none 0 0, .int .i64 tm.cal, .slice D5 tm.lv.length n5, .int .i64 tm.rt, .int .i64 tm.bk] rfl HIa.out.blk.whole ?_)
        | (go_at_call 36; go_must (refine (HSd.out _ (by exact ⟨CaR.zero _ _, HROW.out⟩)).mono ?_); rintro e wa ⟨rfl, ta⟩; have HIa := Lib.hid (HI.out.far ta); have HBa := Lib.hid (ta.blk HBE.out (fun e => e)); have HTb := Lib.hid (HTa.out.trans ta (fun _ _ e => e)); have HROWa := Lib.hid (HROW.out.touch ta (fun _ _ e => e)); clear ta)
        | (refine loadC rowCm _ rfl rfl p 0 rfl #[.int .i64 3, .int .u64 (v2 : Int), .int .u64 (v3 : Int), .int .u64 (v4 : Int), .int .i64 0, .int .i64 0, .int .i64 0, .slice none 0 0, .slice none 0 0, .int .i64 tm.cal, .slice D5 tm.lv.length n5, .int .i64 tm.rt, .int .i64 tm.bk] rfl HI.out.blk.whole ?_))
      refine bodyPost_ret (v := .tuple #[.agg #[.int .i64 3, .int .u64 (v2 : Int), .int .u64 (v3 : Int), .int .u64 (v4 : Int), .int .i64 0, .int .i64 0, .int .i64 0, .slice none 0 0, .slice none 0 0, .int .i64 tm.cal, .slice D5 tm.lv.length n5, .int .i64 tm.rt, .int .i64 tm.bk], .int .i64 0]) (by simp [results, Try.results14, go_sem, d0, d1, d2, d3, d4, d5, d6, d7, d8, d9, d10, d11, d12]) rfl ?_
      exact CmPost.yes (c := ⟨3, v2, v3, v4, 0, 0, caZ, tm⟩) hlen HR.out HSv.out.symm (CmR.mono (F := fun q => wS.heap.size ≤ q) ⟨CaR.zero _ _, (HROWa.out.touch HTr.out (fun q hq e => by omega))⟩ (fun k hk => by omega)) (HTb.out.trans HTr.out (fun q hq e => by omega))
  by_cases h4 : v1 = 4
  · subst h4
    have hq := HI0.out.blk
    have q0 := hq.cell 0; have q2 := hq.cell 2; simp at q0 q2
    have f2 := hq.frozen 2
    clear hq
    go_wp2_with fail
    rw [← HW3.out]
    clear q0 q2 f2
    refine (fnum_st g F b3 18446744073709551615 l3 _ (by exact HI.out.rd)).mono ?_
    rintro e w4 ⟨v4, b4, l4, hv, hm4, rfl, h, t⟩
    have HV4 := Lib.hid hv
    have HI := Lib.hid (HI.out.to h t)
    clear hv h t
    have q0 := HI.out.blk.cell 0; have q3 := HI.out.blk.cell 3; simp at q0 q3
    have f3 := HI.out.blk.frozen 3
    have HI := Lib.hid (show Inf wS (w4.setCell ⟨p, 3, none⟩ (.int .u64 (v4 : Int))) g p 35 F l4 b4 #[.int .i64 4, .int .u64 (v2 : Int), .int .u64 (v3 : Int), .int .u64 (v4 : Int), .int .i64 0, .int .i64 0, .int .i64 0, .slice none 0 0, .slice none 0 0, .int .i64 0, .slice none 0 0, .int .i64 0, .int .i64 0] from HI.out.set 3 (.int .u64 (v4 : Int)))
    go_wp2_with fail
    clear q0 q3 f3
    refine (fnum_st g F b4 15 l4 _ (by exact HI.out.rd)).mono ?_
    rintro e w5 ⟨v5, b5, l5, hv, hm5, rfl, h, t⟩
    have HV5 := Lib.hid hv
    have HI := Lib.hid (HI.out.to h t)
    clear hv h t
    have q0 := HI.out.blk.cell 0; have q4 := HI.out.blk.cell 4; simp at q0 q4
    have f4 := HI.out.blk.frozen 4
    have HI := Lib.hid (show Inf wS (w5.setCell ⟨p, 4, none⟩ (.int .i64 (v5 : Int))) g p 35 F l5 b5 #[.int .i64 4, .int .u64 (v2 : Int), .int .u64 (v3 : Int), .int .u64 (v4 : Int), .int .i64 (v5 : Int), .int .i64 0, .int .i64 0, .slice none 0 0, .slice none 0 0, .int .i64 0, .slice none 0 0, .int .i64 0, .int .i64 0] from HI.out.set 4 (.int .i64 (v5 : Int)))
    have HCM := Lib.hid (rfl : (Cm.mk 0 0 0 0 0 0 caZ coZ) = cmZ)
    have HR := Lib.hid (show rdCmd (false, l) = (⟨4, v2, v3, v4, v5, 0, caZ, coZ⟩, b5, l5) by rw [rdCmd]; simp only [HV1.out, HV2.out, HV3.out]; rw [rdBody_4]; simp only [HV4.out, HV5.out])
    have HSd := Lib.hid (fun w1 hr => fcmsound_any (fun q => wS.heap.size ≤ q) none none none 0 0 0 (Cm.mk 4 v2 v3 v4 v5 0 caZ coZ) w1 hr (Nat.zero_le _) (Nat.zero_le _) (Nat.zero_le _) ⟨by simp, by simp⟩)
    simp only [caZ, coZ] at HSd
    obtain ⟨sd, hsd⟩ : ∃ sd, sd = cmSound (Cm.mk 4 v2 v3 v4 v5 0 caZ coZ) := ⟨_, rfl⟩
    simp only [caZ, coZ] at hsd
    rw [← hsd] at HSd
    have HSv := Lib.hid hsd
    clear hsd
    have HTE := Lib.hid (show Touch (fun k => k = g ∨ k = p) wS (w5.setCell ⟨p, 4, none⟩ (.int .i64 (v5 : Int))) from HI.out.t)
    have HBE := Lib.hid (HTE.out.blk HB2.out (by rintro (e | e) <;> omega))
    have HTa := Lib.hid (HTS.out.trans HTE.out (fun q hq e => by rcases e with e | e <;> omega))
    by_cases hE : b5 = false ∧ l5 = []
    rotate_left
    · have HG := Lib.hid (show cmGood (rdCmd (false, l)) = false by rw [HR.out]; cases hb : b5 <;> cases hl : l5 <;> simp_all [cmGood])
      have hEn : (if (b5 || !l5.isEmpty) = true then (20 : Int) else 0) = 20 := by cases hb : b5 <;> cases hl : l5 <;> simp_all
      have HEn := Lib.hid (rf_end g F b5 l5 _ HI.out.rd)
      rw [hEn] at HEn
      clear hE hEn
      go_wp2_with fail
      clear q0 q4 f4
      refine HEn.out.mono ?_
      rintro e wz ⟨rfl, rfl⟩
      go_wp2_with (first
        | (refine storeM rowCm _ _ rfl rfl w.heap.size rfl #[.int .i64 0, .int .u64 0, .int .u64 0, .int .u64 0, .int .i64 0, .int .i64 0, .int .i64 0, .slice none 0 0, .slice none 0 0, .int .i64 0, .slice none 0 0, .int .i64 0, .int .i64 0] rfl _ _ HBE.out rfl rfl (cm_one ..) ?_; intro wr hbr tr; have HTr := Lib.hid tr; have d0 := hbr.cell 0; have d1 := hbr.cell 1; have d2 := hbr.cell 2; have d3 := hbr.cell 3; have d4 := hbr.cell 4; have d5 := hbr.cell 5; have d6 := hbr.cell 6; have d7 := hbr.cell 7; have d8 := hbr.cell 8; have d9 := hbr.cell 9; have d10 := hbr.cell 10; have d11 := hbr.cell 11; have d12 := hbr.cell 12; simp at d0 d1 d2 d3 d4 d5 d6 d7 d8 d9 d10 d11 d12; clear hbr tr))
      refine bodyPost_ret (v := .tuple #[.agg #[.int .i64 0, .int .u64 0, .int .u64 0, .int .u64 0, .int .i64 0, .int .i64 0, .int .i64 0, .slice none 0 0, .slice none 0 0, .int .i64 0, .slice none 0 0, .int .i64 0, .int .i64 0], .int .i64 20]) (by simp [results, Try.results14, go_sem, d0, d1, d2, d3, d4, d5, d6, d7, d8, d9, d10, d11, d12]) rfl ?_
      exact CmPost.no hlen (HG.out) (HTa.out.trans HTr.out (fun q hq e => by omega))
    obtain ⟨rfl, rfl⟩ := hE
    have HEn := Lib.hid (rf_end g F false [] _ HI.out.rd)
    simp only [List.isEmpty_nil, Bool.not_true, Bool.or_false, Bool.false_eq_true, if_false] at HEn
    go_wp2_with fail
    clear q0 q4 f4
    refine HEn.out.mono ?_
    rintro e wz ⟨rfl, rfl⟩
    cases sd
    · have HG := Lib.hid (show cmGood (rdCmd (false, l)) = false by rw [HR.out, cmGood]; show (true && cmSound _) = false; rw [Bool.true_and]; exact HSv.out.symm)
      go_wp2_with (first
        | (refine storeM rowCm _ _ rfl rfl w.heap.size rfl #[.int .i64 0, .int .u64 0, .int .u64 0, .int .u64 0, .int .i64 0, .int .i64 0, .int .i64 0, .slice none 0 0, .slice none 0 0, .int .i64 0, .slice none 0 0, .int .i64 0, .int .i64 0] rfl _ _ HBa.out rfl rfl (cm_one ..) ?_; intro wr hbr tr; have HTr := Lib.hid tr; have d0 := hbr.cell 0; have d1 := hbr.cell 1; have d2 := hbr.cell 2; have d3 := hbr.cell 3; have d4 := hbr.cell 4; have d5 := hbr.cell 5; have d6 := hbr.cell 6; have d7 := hbr.cell 7; have d8 := hbr.cell 8; have d9 := hbr.cell 9; have d10 := hbr.cell 10; have d11 := hbr.cell 11; have d12 := hbr.cell 12; simp at d0 d1 d2 d3 d4 d5 d6 d7 d8 d9 d10 d11 d12; clear hbr tr)
        | (go_at_call 36; go_must (refine (HSd.out _ (by exact ⟨CaR.zero _ _, SpR.zero _ _⟩)).mono ?_); rintro e wa ⟨rfl, ta⟩; have HIa := Lib.hid (HI.out.far ta); have HBa := Lib.hid (ta.blk HBE.out (fun e => e)); have HTb := Lib.hid (HTa.out.trans ta (fun _ _ e => e)); clear ta)
        | (refine loadC rowCm _ rfl rfl p 0 rfl #[.int .i64 4, .int .u64 (v2 : Int), .int .u64 (v3 : Int), .int .u64 (v4 : Int), .int .i64 (v5 : Int), .int .i64 0, .int .i64 0, .slice none 0 0, .slice none 0 0, .int .i64 0, .slice none 0 0, .int .i64 0, .int .i64 0] rfl HI.out.blk.whole ?_))
      refine bodyPost_ret (v := .tuple #[.agg #[.int .i64 0, .int .u64 0, .int .u64 0, .int .u64 0, .int .i64 0, .int .i64 0, .int .i64 0, .slice none 0 0, .slice none 0 0, .int .i64 0, .slice none 0 0, .int .i64 0, .int .i64 0], .int .i64 20]) (by simp [results, Try.results14, go_sem, d0, d1, d2, d3, d4, d5, d6, d7, d8, d9, d10, d11, d12]) rfl ?_
      exact CmPost.no hlen (HG.out) (HTb.out.trans HTr.out (fun q hq e => by omega))
    · go_wp2_with (first
        | (refine storeM rowCm _ _ rfl rfl w.heap.size rfl #[.int .i64 4, .int .u64 (v2 : Int), .int .u64 (v3 : Int), .int .u64 (v4 : Int), .int .i64 (v5 : Int), .int .i64 0, .int .i64 0, .slice none 0 0, .slice none 0 0, .int .i64 0, .slice none 0 0, .int .i64 0, .int .i64 0] rfl _ _ HBa.out rfl rfl (cm_one ..) ?_; intro wr hbr tr; have HTr := Lib.hid tr; have d0 := hbr.cell 0; have d1 := hbr.cell 1; have d2 := hbr.cell 2; have d3 := hbr.cell 3; have d4 := hbr.cell 4; have d5 := hbr.cell 5; have d6 := hbr.cell 6; have d7 := hbr.cell 7; have d8 := hbr.cell 8; have d9 := hbr.cell 9; have d10 := hbr.cell 10; have d11 := hbr.cell 11; have d12 := hbr.cell 12; simp at d0 d1 d2 d3 d4 d5 d6 d7 d8 d9 d10 d11 d12; clear hbr tr)
        | (refine loadC rowCm _ rfl rfl p 0 rfl #[.int .i64 4, .int .u64 (v2 : Int), .int .u64 (v3 : Int), .int .u64 (v4 : Int), .int .i64 (v5 : Int), .int .i64 0, .int .i64 0, .slice none 0 0, .slice none 0 0, .int .i64 0, .slice none 0 0, .int .i64 0, .int .i64 0] rfl HIa.out.blk.whole ?_)
        | (go_at_call 36; go_must (refine (HSd.out _ (by exact ⟨CaR.zero _ _, SpR.zero _ _⟩)).mono ?_); rintro e wa ⟨rfl, ta⟩; have HIa := Lib.hid (HI.out.far ta); have HBa := Lib.hid (ta.blk HBE.out (fun e => e)); have HTb := Lib.hid (HTa.out.trans ta (fun _ _ e => e)); clear ta)
        | (refine loadC rowCm _ rfl rfl p 0 rfl #[.int .i64 4, .int .u64 (v2 : Int), .int .u64 (v3 : Int), .int .u64 (v4 : Int), .int .i64 (v5 : Int), .int .i64 0, .int .i64 0, .slice none 0 0, .slice none 0 0, .int .i64 0, .slice none 0 0, .int .i64 0, .int .i64 0] rfl HI.out.blk.whole ?_))
      refine bodyPost_ret (v := .tuple #[.agg #[.int .i64 4, .int .u64 (v2 : Int), .int .u64 (v3 : Int), .int .u64 (v4 : Int), .int .i64 (v5 : Int), .int .i64 0, .int .i64 0, .slice none 0 0, .slice none 0 0, .int .i64 0, .slice none 0 0, .int .i64 0, .int .i64 0], .int .i64 0]) (by simp [results, Try.results14, go_sem, d0, d1, d2, d3, d4, d5, d6, d7, d8, d9, d10, d11, d12]) rfl ?_
      exact CmPost.yes (c := ⟨4, v2, v3, v4, v5, 0, caZ, coZ⟩) hlen HR.out HSv.out.symm (CmR.mono (F := fun q => wS.heap.size ≤ q) ⟨CaR.zero _ _, SpR.zero _ _⟩ (fun k hk => by omega)) (HTb.out.trans HTr.out (fun q hq e => by omega))
  by_cases h9 : v1 = 9
  · subst h9
    have hq := HI0.out.blk
    have q0 := hq.cell 0; have q2 := hq.cell 2; simp at q0 q2
    have f2 := hq.frozen 2
    clear hq
    go_wp2_with fail
    rw [← HW3.out]
    clear q0 q2 f2
    refine (fint_st g F b3 l3 _ (by exact HI.out.rd)).mono ?_
    rintro e w5 ⟨v5, b5, l5, hv, hm5, rfl, h, t⟩
    have HV5 := Lib.hid hv
    have HI := Lib.hid (HI.out.to h t)
    clear hv h t
    have q0 := HI.out.blk.cell 0; have q5 := HI.out.blk.cell 5; simp at q0 q5
    have f5 := HI.out.blk.frozen 5
    have HI := Lib.hid (show Inf wS (w5.setCell ⟨p, 5, none⟩ (.int .i64 v5)) g p 35 F l5 b5 #[.int .i64 9, .int .u64 (v2 : Int), .int .u64 (v3 : Int), .int .u64 0, .int .i64 0, .int .i64 v5, .int .i64 0, .slice none 0 0, .slice none 0 0, .int .i64 0, .slice none 0 0, .int .i64 0, .int .i64 0] from HI.out.set 5 (.int .i64 v5))
    have HCM := Lib.hid (rfl : (Cm.mk 0 0 0 0 0 0 caZ coZ) = cmZ)
    have HR := Lib.hid (show rdCmd (false, l) = (⟨9, v2, v3, 0, 0, v5, caZ, coZ⟩, b5, l5) by rw [rdCmd]; simp only [HV1.out, HV2.out, HV3.out]; rw [rdBody_9]; simp only [HV5.out])
    have HSd := Lib.hid (fun w1 hr => fcmsound_any (fun q => wS.heap.size ≤ q) none none none 0 0 0 (Cm.mk 9 v2 v3 0 0 v5 caZ coZ) w1 hr (Nat.zero_le _) (Nat.zero_le _) (Nat.zero_le _) hm5)
    simp only [caZ, coZ] at HSd
    obtain ⟨sd, hsd⟩ : ∃ sd, sd = cmSound (Cm.mk 9 v2 v3 0 0 v5 caZ coZ) := ⟨_, rfl⟩
    simp only [caZ, coZ] at hsd
    rw [← hsd] at HSd
    have HSv := Lib.hid hsd
    clear hsd
    have HTE := Lib.hid (show Touch (fun k => k = g ∨ k = p) wS (w5.setCell ⟨p, 5, none⟩ (.int .i64 v5)) from HI.out.t)
    have HBE := Lib.hid (HTE.out.blk HB2.out (by rintro (e | e) <;> omega))
    have HTa := Lib.hid (HTS.out.trans HTE.out (fun q hq e => by rcases e with e | e <;> omega))
    by_cases hE : b5 = false ∧ l5 = []
    rotate_left
    · have HG := Lib.hid (show cmGood (rdCmd (false, l)) = false by rw [HR.out]; cases hb : b5 <;> cases hl : l5 <;> simp_all [cmGood])
      have hEn : (if (b5 || !l5.isEmpty) = true then (20 : Int) else 0) = 20 := by cases hb : b5 <;> cases hl : l5 <;> simp_all
      have HEn := Lib.hid (rf_end g F b5 l5 _ HI.out.rd)
      rw [hEn] at HEn
      clear hE hEn
      go_wp2_with fail
      clear q0 q5 f5
      refine HEn.out.mono ?_
      rintro e wz ⟨rfl, rfl⟩
      go_wp2_with (first
        | (refine storeM rowCm _ _ rfl rfl w.heap.size rfl #[.int .i64 0, .int .u64 0, .int .u64 0, .int .u64 0, .int .i64 0, .int .i64 0, .int .i64 0, .slice none 0 0, .slice none 0 0, .int .i64 0, .slice none 0 0, .int .i64 0, .int .i64 0] rfl _ _ HBE.out rfl rfl (cm_one ..) ?_; intro wr hbr tr; have HTr := Lib.hid tr; have d0 := hbr.cell 0; have d1 := hbr.cell 1; have d2 := hbr.cell 2; have d3 := hbr.cell 3; have d4 := hbr.cell 4; have d5 := hbr.cell 5; have d6 := hbr.cell 6; have d7 := hbr.cell 7; have d8 := hbr.cell 8; have d9 := hbr.cell 9; have d10 := hbr.cell 10; have d11 := hbr.cell 11; have d12 := hbr.cell 12; simp at d0 d1 d2 d3 d4 d5 d6 d7 d8 d9 d10 d11 d12; clear hbr tr))
      refine bodyPost_ret (v := .tuple #[.agg #[.int .i64 0, .int .u64 0, .int .u64 0, .int .u64 0, .int .i64 0, .int .i64 0, .int .i64 0, .slice none 0 0, .slice none 0 0, .int .i64 0, .slice none 0 0, .int .i64 0, .int .i64 0], .int .i64 20]) (by simp [results, Try.results14, go_sem, d0, d1, d2, d3, d4, d5, d6, d7, d8, d9, d10, d11, d12]) rfl ?_
      exact CmPost.no hlen (HG.out) (HTa.out.trans HTr.out (fun q hq e => by omega))
    obtain ⟨rfl, rfl⟩ := hE
    have HEn := Lib.hid (rf_end g F false [] _ HI.out.rd)
    simp only [List.isEmpty_nil, Bool.not_true, Bool.or_false, Bool.false_eq_true, if_false] at HEn
    go_wp2_with fail
    clear q0 q5 f5
    refine HEn.out.mono ?_
    rintro e wz ⟨rfl, rfl⟩
    cases sd
    · have HG := Lib.hid (show cmGood (rdCmd (false, l)) = false by rw [HR.out, cmGood]; show (true && cmSound _) = false; rw [Bool.true_and]; exact HSv.out.symm)
      go_wp2_with (first
        | (refine storeM rowCm _ _ rfl rfl w.heap.size rfl #[.int .i64 0, .int .u64 0, .int .u64 0, .int .u64 0, .int .i64 0, .int .i64 0, .int .i64 0, .slice none 0 0, .slice none 0 0, .int .i64 0, .slice none 0 0, .int .i64 0, .int .i64 0] rfl _ _ HBa.out rfl rfl (cm_one ..) ?_; intro wr hbr tr; have HTr := Lib.hid tr; have d0 := hbr.cell 0; have d1 := hbr.cell 1; have d2 := hbr.cell 2; have d3 := hbr.cell 3; have d4 := hbr.cell 4; have d5 := hbr.cell 5; have d6 := hbr.cell 6; have d7 := hbr.cell 7; have d8 := hbr.cell 8; have d9 := hbr.cell 9; have d10 := hbr.cell 10; have d11 := hbr.cell 11; have d12 := hbr.cell 12; simp at d0 d1 d2 d3 d4 d5 d6 d7 d8 d9 d10 d11 d12; clear hbr tr)
        | (go_at_call 36; go_must (refine (HSd.out _ (by exact ⟨CaR.zero _ _, SpR.zero _ _⟩)).mono ?_); rintro e wa ⟨rfl, ta⟩; have HIa := Lib.hid (HI.out.far ta); have HBa := Lib.hid (ta.blk HBE.out (fun e => e)); have HTb := Lib.hid (HTa.out.trans ta (fun _ _ e => e)); clear ta)
        | (refine loadC rowCm _ rfl rfl p 0 rfl #[.int .i64 9, .int .u64 (v2 : Int), .int .u64 (v3 : Int), .int .u64 0, .int .i64 0, .int .i64 v5, .int .i64 0, .slice none 0 0, .slice none 0 0, .int .i64 0, .slice none 0 0, .int .i64 0, .int .i64 0] rfl HI.out.blk.whole ?_))
      refine bodyPost_ret (v := .tuple #[.agg #[.int .i64 0, .int .u64 0, .int .u64 0, .int .u64 0, .int .i64 0, .int .i64 0, .int .i64 0, .slice none 0 0, .slice none 0 0, .int .i64 0, .slice none 0 0, .int .i64 0, .int .i64 0], .int .i64 20]) (by simp [results, Try.results14, go_sem, d0, d1, d2, d3, d4, d5, d6, d7, d8, d9, d10, d11, d12]) rfl ?_
      exact CmPost.no hlen (HG.out) (HTb.out.trans HTr.out (fun q hq e => by omega))
    · go_wp2_with (first
        | (refine storeM rowCm _ _ rfl rfl w.heap.size rfl #[.int .i64 9, .int .u64 (v2 : Int), .int .u64 (v3 : Int), .int .u64 0, .int .i64 0, .int .i64 v5, .int .i64 0, .slice none 0 0, .slice none 0 0, .int .i64 0, .slice none 0 0, .int .i64 0, .int .i64 0] rfl _ _ HBa.out rfl rfl (cm_one ..) ?_; intro wr hbr tr; have HTr := Lib.hid tr; have d0 := hbr.cell 0; have d1 := hbr.cell 1; have d2 := hbr.cell 2; have d3 := hbr.cell 3; have d4 := hbr.cell 4; have d5 := hbr.cell 5; have d6 := hbr.cell 6; have d7 := hbr.cell 7; have d8 := hbr.cell 8; have d9 := hbr.cell 9; have d10 := hbr.cell 10; have d11 := hbr.cell 11; have d12 := hbr.cell 12; simp at d0 d1 d2 d3 d4 d5 d6 d7 d8 d9 d10 d11 d12; clear hbr tr)
        | (refine loadC rowCm _ rfl rfl p 0 rfl #[.int .i64 9, .int .u64 (v2 : Int), .int .u64 (v3 : Int), .int .u64 0, .int .i64 0, .int .i64 v5, .int .i64 0, .slice none 0 0, .slice none 0 0, .int .i64 0, .slice none 0 0, .int .i64 0, .int .i64 0] rfl HIa.out.blk.whole ?_)
        | (go_at_call 36; go_must (refine (HSd.out _ (by exact ⟨CaR.zero _ _, SpR.zero _ _⟩)).mono ?_); rintro e wa ⟨rfl, ta⟩; have HIa := Lib.hid (HI.out.far ta); have HBa := Lib.hid (ta.blk HBE.out (fun e => e)); have HTb := Lib.hid (HTa.out.trans ta (fun _ _ e => e)); clear ta)
        | (refine loadC rowCm _ rfl rfl p 0 rfl #[.int .i64 9, .int .u64 (v2 : Int), .int .u64 (v3 : Int), .int .u64 0, .int .i64 0, .int .i64 v5, .int .i64 0, .slice none 0 0, .slice none 0 0, .int .i64 0, .slice none 0 0, .int .i64 0, .int .i64 0] rfl HI.out.blk.whole ?_))
      refine bodyPost_ret (v := .tuple #[.agg #[.int .i64 9, .int .u64 (v2 : Int), .int .u64 (v3 : Int), .int .u64 0, .int .i64 0, .int .i64 v5, .int .i64 0, .slice none 0 0, .slice none 0 0, .int .i64 0, .slice none 0 0, .int .i64 0, .int .i64 0], .int .i64 0]) (by simp [results, Try.results14, go_sem, d0, d1, d2, d3, d4, d5, d6, d7, d8, d9, d10, d11, d12]) rfl ?_
      exact CmPost.yes (c := ⟨9, v2, v3, 0, 0, v5, caZ, coZ⟩) hlen HR.out HSv.out.symm (CmR.mono (F := fun q => wS.heap.size ≤ q) ⟨CaR.zero _ _, SpR.zero _ _⟩ (fun k hk => by omega)) (HTb.out.trans HTr.out (fun q hq e => by omega))
  have hid0 : idOnly (v1 : Int) := by unfold idOnly; omega
  have HIk := Lib.hid hid0
  have c2 : ((v1 : Int) == 2) = false := by simp; omega
  have c3 : ((v1 : Int) == 3) = false := by simp; omega
  have c4 : ((v1 : Int) == 4) = false := by simp; omega
  have c9 : ((v1 : Int) == 9) = false := by simp; omega
  have e1 : ((v1 : Int) != 1) = true := by simp; omega
  have e9 : ((v1 : Int) != 9) = true := by simp; omega
  clear h0 h1 h2 h3 h4 h9 hid0
  have hq := HI0.out.blk
  have q0 := hq.cell 0; have q2 := hq.cell 2; simp at q0 q2
  have f2 := hq.frozen 2
  clear hq
  go_wp2_with fail
  rw [← HW3.out]
  clear q0 q2 f2
  refine (fnum_st g F b3 18446744073709551615 l3 _ (by exact HI.out.rd)).mono ?_
  rintro e w4 ⟨v4, b4, l4, hv, hm4, rfl, h, t⟩
  have HV4 := Lib.hid hv
  have HI := Lib.hid (HI.out.to h t)
  clear hv h t
  have q0 := HI.out.blk.cell 0; have q3 := HI.out.blk.cell 3; simp at q0 q3
  have f3 := HI.out.blk.frozen 3
  have HI := Lib.hid (show Inf wS (w4.setCell ⟨p, 3, none⟩ (.int .u64 (v4 : Int))) g p 35 F l4 b4 #[.int .i64 (v1 : Int), .int .u64 (v2 : Int), .int .u64 (v3 : Int), .int .u64 (v4 : Int), .int .i64 0, .int .i64 0, .int .i64 0, .slice none 0 0, .slice none 0 0, .int .i64 0, .slice none 0 0, .int .i64 0, .int .i64 0] from HI.out.set 3 (.int .u64 (v4 : Int)))
  go_wp2_with fail
  clear q0 q3 f3
  have HCM := Lib.hid (rfl : (Cm.mk 0 0 0 0 0 0 caZ coZ) = cmZ)
  have HR := Lib.hid (show rdCmd (false, l) = (⟨v1, v2, v3, v4, 0, 0, caZ, coZ⟩, b4, l4) by rw [rdCmd]; simp only [HV1.out, HV2.out, HV3.out]; rw [rdBody_i HIk.out]; simp only [HV4.out])
  have HSd := Lib.hid (fun w1 hr => fcmsound_any (fun q => wS.heap.size ≤ q) none none none 0 0 0 (Cm.mk v1 v2 v3 v4 0 0 caZ coZ) w1 hr (Nat.zero_le _) (Nat.zero_le _) (Nat.zero_le _) ⟨by simp, by simp⟩)
  simp only [caZ, coZ] at HSd
  obtain ⟨sd, hsd⟩ : ∃ sd, sd = cmSound (Cm.mk v1 v2 v3 v4 0 0 caZ coZ) := ⟨_, rfl⟩
  simp only [caZ, coZ] at hsd
  rw [← hsd] at HSd
  have HSv := Lib.hid hsd
  clear hsd
  have HTE := Lib.hid (show Touch (fun k => k = g ∨ k = p) wS (w4.setCell ⟨p, 3, none⟩ (.int .u64 (v4 : Int))) from HI.out.t)
  have HBE := Lib.hid (HTE.out.blk HB2.out (by rintro (e | e) <;> omega))
  have HTa := Lib.hid (HTS.out.trans HTE.out (fun q hq e => by rcases e with e | e <;> omega))
  by_cases hE : b4 = false ∧ l4 = []
  rotate_left
  · have HG := Lib.hid (show cmGood (rdCmd (false, l)) = false by rw [HR.out]; cases hb : b4 <;> cases hl : l4 <;> simp_all [cmGood])
    have hEn : (if (b4 || !l4.isEmpty) = true then (20 : Int) else 0) = 20 := by cases hb : b4 <;> cases hl : l4 <;> simp_all
    have HEn := Lib.hid (rf_end g F b4 l4 _ HI.out.rd)
    rw [hEn] at HEn
    clear hE hEn
    refine HEn.out.mono ?_
    rintro e wz ⟨rfl, rfl⟩
    go_wp2_with (first
      | (refine storeM rowCm _ _ rfl rfl w.heap.size rfl #[.int .i64 0, .int .u64 0, .int .u64 0, .int .u64 0, .int .i64 0, .int .i64 0, .int .i64 0, .slice none 0 0, .slice none 0 0, .int .i64 0, .slice none 0 0, .int .i64 0, .int .i64 0] rfl _ _ HBE.out rfl rfl (cm_one ..) ?_; intro wr hbr tr; have HTr := Lib.hid tr; have d0 := hbr.cell 0; have d1 := hbr.cell 1; have d2 := hbr.cell 2; have d3 := hbr.cell 3; have d4 := hbr.cell 4; have d5 := hbr.cell 5; have d6 := hbr.cell 6; have d7 := hbr.cell 7; have d8 := hbr.cell 8; have d9 := hbr.cell 9; have d10 := hbr.cell 10; have d11 := hbr.cell 11; have d12 := hbr.cell 12; simp at d0 d1 d2 d3 d4 d5 d6 d7 d8 d9 d10 d11 d12; clear hbr tr))
    refine bodyPost_ret (v := .tuple #[.agg #[.int .i64 0, .int .u64 0, .int .u64 0, .int .u64 0, .int .i64 0, .int .i64 0, .int .i64 0, .slice none 0 0, .slice none 0 0, .int .i64 0, .slice none 0 0, .int .i64 0, .int .i64 0], .int .i64 20]) (by simp [results, Try.results14, go_sem, d0, d1, d2, d3, d4, d5, d6, d7, d8, d9, d10, d11, d12]) rfl ?_
    exact CmPost.no hlen (HG.out) (HTa.out.trans HTr.out (fun q hq e => by omega))
  obtain ⟨rfl, rfl⟩ := hE
  have HEn := Lib.hid (rf_end g F false [] _ HI.out.rd)
  simp only [List.isEmpty_nil, Bool.not_true, Bool.or_false, Bool.false_eq_true, if_false] at HEn
  refine HEn.out.mono ?_
  rintro e wz ⟨rfl, rfl⟩
  cases sd
  · have HG := Lib.hid (show cmGood (rdCmd (false, l)) = false by rw [HR.out, cmGood]; show (true && cmSound _) = false; rw [Bool.true_and]; exact HSv.out.symm)
    go_wp2_with (first
      | (refine storeM rowCm _ _ rfl rfl w.heap.size rfl #[.int .i64 0, .int .u64 0, .int .u64 0, .int .u64 0, .int .i64 0, .int .i64 0, .int .i64 0, .slice none 0 0, .slice none 0 0, .int .i64 0, .slice none 0 0, .int .i64 0, .int .i64 0] rfl _ _ HBa.out rfl rfl (cm_one ..) ?_; intro wr hbr tr; have HTr := Lib.hid tr; have d0 := hbr.cell 0; have d1 := hbr.cell 1; have d2 := hbr.cell 2; have d3 := hbr.cell 3; have d4 := hbr.cell 4; have d5 := hbr.cell 5; have d6 := hbr.cell 6; have d7 := hbr.cell 7; have d8 := hbr.cell 8; have d9 := hbr.cell 9; have d10 := hbr.cell 10; have d11 := hbr.cell 11; have d12 := hbr.cell 12; simp at d0 d1 d2 d3 d4 d5 d6 d7 d8 d9 d10 d11 d12; clear hbr tr)
      | (go_at_call 36; go_must (refine (HSd.out _ (by exact ⟨CaR.zero _ _, SpR.zero _ _⟩)).mono ?_); rintro e wa ⟨rfl, ta⟩; have HIa := Lib.hid (HI.out.far ta); have HBa := Lib.hid (ta.blk HBE.out (fun e => e)); have HTb := Lib.hid (HTa.out.trans ta (fun _ _ e => e)); clear ta)
      | (refine loadC rowCm _ rfl rfl p 0 rfl #[.int .i64 (v1 : Int), .int .u64 (v2 : Int), .int .u64 (v3 : Int), .int .u64 (v4 : Int), .int .i64 0, .int .i64 0, .int .i64 0, .slice none 0 0, .slice none 0 0, .int .i64 0, .slice none 0 0, .int .i64 0, .int .i64 0] rfl HI.out.blk.whole ?_))
    refine bodyPost_ret (v := .tuple #[.agg #[.int .i64 0, .int .u64 0, .int .u64 0, .int .u64 0, .int .i64 0, .int .i64 0, .int .i64 0, .slice none 0 0, .slice none 0 0, .int .i64 0, .slice none 0 0, .int .i64 0, .int .i64 0], .int .i64 20]) (by simp [results, Try.results14, go_sem, d0, d1, d2, d3, d4, d5, d6, d7, d8, d9, d10, d11, d12]) rfl ?_
    exact CmPost.no hlen (HG.out) (HTb.out.trans HTr.out (fun q hq e => by omega))
  · go_wp2_with (first
      | (refine storeM rowCm _ _ rfl rfl w.heap.size rfl #[.int .i64 (v1 : Int), .int .u64 (v2 : Int), .int .u64 (v3 : Int), .int .u64 (v4 : Int), .int .i64 0, .int .i64 0, .int .i64 0, .slice none 0 0, .slice none 0 0, .int .i64 0, .slice none 0 0, .int .i64 0, .int .i64 0] rfl _ _ HBa.out rfl rfl (cm_one ..) ?_; intro wr hbr tr; have HTr := Lib.hid tr; have d0 := hbr.cell 0; have d1 := hbr.cell 1; have d2 := hbr.cell 2; have d3 := hbr.cell 3; have d4 := hbr.cell 4; have d5 := hbr.cell 5; have d6 := hbr.cell 6; have d7 := hbr.cell 7; have d8 := hbr.cell 8; have d9 := hbr.cell 9; have d10 := hbr.cell 10; have d11 := hbr.cell 11; have d12 := hbr.cell 12; simp at d0 d1 d2 d3 d4 d5 d6 d7 d8 d9 d10 d11 d12; clear hbr tr)
      | (refine loadC rowCm _ rfl rfl p 0 rfl #[.int .i64 (v1 : Int), .int .u64 (v2 : Int), .int .u64 (v3 : Int), .int .u64 (v4 : Int), .int .i64 0, .int .i64 0, .int .i64 0, .slice none 0 0, .slice none 0 0, .int .i64 0, .slice none 0 0, .int .i64 0, .int .i64 0] rfl HIa.out.blk.whole ?_)
      | (go_at_call 36; go_must (refine (HSd.out _ (by exact ⟨CaR.zero _ _, SpR.zero _ _⟩)).mono ?_); rintro e wa ⟨rfl, ta⟩; have HIa := Lib.hid (HI.out.far ta); have HBa := Lib.hid (ta.blk HBE.out (fun e => e)); have HTb := Lib.hid (HTa.out.trans ta (fun _ _ e => e)); clear ta)
      | (refine loadC rowCm _ rfl rfl p 0 rfl #[.int .i64 (v1 : Int), .int .u64 (v2 : Int), .int .u64 (v3 : Int), .int .u64 (v4 : Int), .int .i64 0, .int .i64 0, .int .i64 0, .slice none 0 0, .slice none 0 0, .int .i64 0, .slice none 0 0, .int .i64 0, .int .i64 0] rfl HI.out.blk.whole ?_))
    refine bodyPost_ret (v := .tuple #[.agg #[.int .i64 (v1 : Int), .int .u64 (v2 : Int), .int .u64 (v3 : Int), .int .u64 (v4 : Int), .int .i64 0, .int .i64 0, .int .i64 0, .slice none 0 0, .slice none 0 0, .int .i64 0, .slice none 0 0, .int .i64 0, .int .i64 0], .int .i64 0]) (by simp [results, Try.results14, go_sem, d0, d1, d2, d3, d4, d5, d6, d7, d8, d9, d10, d11, d12]) rfl ?_
    exact CmPost.yes (c := ⟨v1, v2, v3, v4, 0, 0, caZ, coZ⟩) hlen HR.out HSv.out.symm (CmR.mono (F := fun q => wS.heap.size ≤ q) ⟨CaR.zero _ _, SpR.zero _ _⟩ (fun k hk => by omega)) (HTb.out.trans HTr.out (fun q hq e => by omega))
end Go.Proofs.Ytlcefchbfjfifaa
