/- The walk of SessionApart. -/
import Derived.Test.YtmgmjehebbggaaaVSesRd
import Derived.Test.YtmgmjehebbggaaaVPSessionPlays
import Derived.Test.YtmgmjehebbggaaaVSesCl
import Derived.Test.YtmgmjehebbggaaaVSesNo
namespace Go.Proofs.Ytmgmjehebbggaaa
open Go.RowKit Go.Maps
set_option maxHeartbeats 4000000
set_option maxRecDepth 100000
set_option linter.unusedVariables false
attribute [local irreducible] wpPlan

/-- A list of one call. -/
theorem foldS (o : SOpV) : Array.foldl (fun cs x => cs.setIfInBounds x.snd x.fst) #[.int .i64 0, .int .u64 0, .int .u64 0, .int .i64 0, .int .i64 0, .int .u64 0, .int .i64 0, .int .i64 0, .int .i64 0, .int .u64 0, .int .i64 0, .int .i64 0, .int .i64 0, .int .i64 0, .slice none 0 0, .int .u64 0, .int .i64 0] o.cells.toArray.zipIdx 0 17 = o.cells.toArray := by
  simp [SOpV.cells]
theorem oneS (w : World) (o : SOpV) : RdZ (w.alloc (.cells o.cells.toArray 37)) (fun _ => True) 17 (some ⟨w.heap.size, 0, none⟩) 1 ([o].flatMap SOpV.cells) := by
  have hb := Blk.new w 37 o.cells.toArray
  refine ⟨by simp [SOpV.cells], fun _ => ⟨w.heap.size, 0, rfl, hb.lt, trivial, fun j u hj => ?_⟩⟩
  rw [Nat.zero_add]
  refine (hb.cell j).trans ?_
  simpa using hj
theorem PlL.lt_ {w0 w : World} {g b tb : Nat} {s : SesS} {T : RT} {F : Nat → Prop} (h : PlL w0 w g b tb s T F) : PlL w0 w g b tb s T (fun k => F k ∧ k < w.heap.size) :=
  ⟨h.ses.lt_, fun k hk => h.nF k hk.1, h.hT, h.hr, h.good, h.tab, h.t, h.ge, h.ne⟩
theorem PlL.aside {w0 w w' : World} {g b tb x : Nat} {s : SesS} {T : RT} {F : Nat → Prop} (h : PlL w0 w g b tb s T F) (t : Touch (fun k => k = x) w w') (hg : g ≠ x) (hb : b ≠ x) (htb : tb ≠ x) (hF : ∀ k, F k → k ≠ x) (h0 : w0.heap.size ≤ x) : PlL w0 w' g b tb s T F :=
  ⟨h.ses.touch t hg hb (fun k hk e => hF k hk e), h.nF, h.hT, h.hr.touch t (fun k hk e => by omega), h.good, t.blk h.tab htb, h.t.trans t (fun k hk e => by omega), h.ge, h.ne⟩
/-- All that is compared. -/
structure ApS (w0 w : World) (g b tb : Nat) (s : SesS) (T : RT) (F : Nat → Prop) (g2 b2 : Nat) (s2 : SesS) (F2 : Nat → Prop) (xb : Nat) (T2 : RT) (g3 b3 : Nat) (F3 : Nat → Prop) (OC : Array Value) : Prop where
  l : PlL w0 w g b tb s T F
  c : SesAt w g2 b2 s2 F2
  x : Blk w xb 46 T2.cells
  hT2 : RTs T2 s2
  hr2 : RTr T2 s2 w (fun k => k < w0.heap.size)
  gd2 : SesGood s2
  d : SesAt w g3 b3 s F3
  o : Blk w w0.heap.size 37 OC
theorem ApS.far {w0 w w' : World} {g b tb : Nat} {s : SesS} {T : RT} {F : Nat → Prop} {g2 b2 : Nat} {s2 : SesS} {F2 : Nat → Prop} {xb : Nat} {T2 : RT} {g3 b3 : Nat} {F3 : Nat → Prop} {OC : Array Value} (h : ApS w0 w g b tb s T F g2 b2 s2 F2 xb T2 g3 b3 F3 OC) (t : Touch (fun _ => False) w w') : ApS w0 w' g b tb s T F g2 b2 s2 F2 xb T2 g3 b3 F3 OC :=
  ⟨h.l.far t, h.c.touch t (fun e => e) (fun e => e) (fun _ _ e => e), t.blk h.x (fun e => e), h.hT2, h.hr2.touch t (fun _ _ e => e), h.gd2, h.d.touch t (fun e => e) (fun e => e) (fun _ _ e => e), t.blk h.o (fun e => e)⟩
theorem walk_SessionApart {w : World} (A0 : Option Addr) (n0 c0 : Nat) (l0 : List SOpV) (e0 : l0.length = n0) (o0 : ∀ x ∈ l0, x.ok w) (z0 : ∀ a ∈ l0, a.cells.length = 17) (g0 : A0 = none → c0 = 0) (u0 : n0 ≤ c0) (m0 : c0 ≤ maxLen) (s0 : RdZ w (fun k => k < w.heap.size) 17 A0 n0 (l0.flatMap SOpV.cells)) (o : SOpV) (oo : o.ok w) :
    Calls Try.prog 6 #[.slice A0 n0 c0, .agg o.cells.toArray] w fun e w' => e = .returned (.bool true) ∧ Below w.heap.size w w' := by
  subst e0
  unfold maxLen at m0
  have hb0 : l0.length ≤ 9223372036854775807 := by omega
  have HO0 := Lib.hid o0
  have HOo := Lib.hid oo
  have HOp := Lib.hid o.opc
  obtain ⟨OC, hOC⟩ : ∃ OC, OC = o.cells.toArray := ⟨_, rfl⟩
  rw [← hOC] at HOp
  obtain ⟨w', hw'⟩ : ∃ w', w' = w.alloc (.cells OC 37) := ⟨_, rfl⟩
  have HT0 := Lib.hid (show Touch (fun _ => False) w w' from hw' ▸ (Touch.refl _ w).alloc _)
  have HB0 := Lib.hid (show Blk w' w.heap.size 37 OC from hw' ▸ Blk.new w _ _)
  have HS0 := Lib.hid s0
  have HCn := Lib.hid (show OC.size = 17 from hOC ▸ rfl)
  have HC1 := Lib.hid (show OC.all (·.oneCell') = true from hOC ▸ sop_one o)
  have HLi := Lib.hid (light20_any _ A0 c0 l0 w' (s0.touch HT0.out (fun _ _ e => e)) hb0)
  have HLo := Lib.hid (fun (w1 : World) => light20_any (fun _ => True) _ 1 [o] _ (oneS w1 o) (by simp))
  have HWe := Lib.hid hw'
  have HFo := Lib.hid (foldS o)
  rw [← hOC] at HLo HFo ⊢
  have HOC := Lib.hid hOC
  have hcn := HCn.out
  clear s0 o0 z0 g0 u0 m0 oo hw' hOC
  cases hl : lightB l0
  · rw [hl] at HLi
    clear hl
    go_enter Try.func6, Try.ntmps6
    go_wp2_with (first
      | (go_at_call 7; rw [← HWe.out]; go_must (refine HLi.out.mono ?_); rintro e w1 ⟨rfl, t1⟩; have HT := Lib.hid (HT0.out.trans t1 (fun _ _ e => e)); clear t1)
      | (go_at_call 8; go_must (refine (lives20_any _).mono ?_); rintro e w2 ⟨rfl, t2⟩; have HT := Lib.hid (HT.out.trans t2 (fun _ _ e => e)); clear t2))
    go_ret
    exact ⟨rfl, HT.out.below⟩
  rw [hl] at HLi
  have hlen : l0.length ≤ 100 := by
    simp only [lightB, Bool.and_eq_true, decide_eq_true_eq] at hl; exact hl.2
  clear hl
  cases hl : lightB [o]
  · rw [hl] at HLo
    clear hl
    go_enter Try.func6, Try.ntmps6
    go_wp2_with (first
      | (go_at_call 7; have HM9 := HT; rw [HFo.out]
         go_must (refine (HLo.out _).mono ?_); rintro e w2 ⟨rfl, t2⟩
         have HT := Lib.hid ((HT.out.alloc _).trans t2 (fun _ _ e => e)); clear t2)
      | (go_at_call 7; rw [← HWe.out]; go_must (refine HLi.out.mono ?_); rintro e w1 ⟨rfl, t1⟩; have HT := Lib.hid (HT0.out.trans t1 (fun _ _ e => e)); have HB1 := Lib.hid (t1.blk HB0.out (fun e => e)); clear t1)
      | ((with_reducible apply HB1.out.ld rowOp HCn.out); exact rfl; exact rfl; exact rfl)
      | (go_at_call 8; go_must (refine (lives20_any _).mono ?_); rintro e w2 ⟨rfl, t2⟩; have HT := Lib.hid (HT.out.trans t2 (fun _ _ e => e)); clear t2))
    go_ret
    exact ⟨rfl, HT.out.below⟩
  rw [hl] at HLo
  clear hl
  go_enter Try.func6, Try.ntmps6
  go_wp2_with (first
    | (go_at_call 7; have HM9 := HT; rw [HFo.out]
       go_must (refine (HLo.out _).mono ?_); rintro e w2 ⟨rfl, t2⟩
       have HT := Lib.hid ((HT.out.alloc _).trans t2 (fun _ _ e => e))
       have HB2 := Lib.hid (((Touch.refl (fun _ => False) w1).alloc _ |>.trans t2 (fun _ _ e => e)).blk HB1.out (fun e => e))
       clear t2)
    | (go_at_call 7; rw [← HWe.out]; go_must (refine HLi.out.mono ?_); rintro e w1 ⟨rfl, t1⟩; have HT := Lib.hid (HT0.out.trans t1 (fun _ _ e => e)); have HB1 := Lib.hid (t1.blk HB0.out (fun e => e)); clear t1)
    | ((with_reducible apply HB1.out.ld rowOp HCn.out); exact rfl; exact rfl; exact rfl)
    | (go_at_call 9
       go_must (refine (sempty_any _).mono ?_)
       rintro e w3 ⟨g, b, rfl, hs, hg, hb, t3⟩
       have hbl := hs.map.choose_spec.1.lt
       have hgl := hs.blk.lt
       have H0 := Lib.hid (show PlL w (w3.alloc (.cells Try.zeroCells46 46)) g b w3.heap.size (fun _ => none) RT.zero _ from by
         have tt := HT.out.trans t3 (fun _ _ e => e)
         have t4 := (Touch.refl (fun _ => False) w3).alloc (.cells Try.zeroCells46 46)
         have hz1 := HT.out.size
         refine ⟨hs.lt_.touch t4 (fun e => e) (fun e => e) (fun _ _ e => e), fun k hk => by have := hk.2; omega, RTs.zero, RTr.zero _ _, SesGood.none_, ?_, tt.trans t4 (fun _ _ e => e), ⟨by omega, by omega, tt.size⟩, by omega, by omega⟩
         rw [zRT_eq]; exact Blk.new w3 _ _)
       have HBo := Lib.hid ((t3.blk HB2.out (fun e => e)).alloc (.cells Try.zeroCells46 46))
       have hw3 := (HT.out.trans t3 (fun _ _ e => e)).size
       have hbo := HB2.out.lt
       have hbw : w.heap.size < b ∧ w.heap.size < g ∧ w.heap.size < w3.heap.size := by have := t3.size; omega
       clear hs hg hb t3 hbl hgl hbo))
  generalize hv : w3.alloc (.cells Try.zeroCells46 46) = w4 at *
  clear hv HLo HFo HLi
  go_loopw [32] (fun i wr => ∃ j : Nat, j ≤ l0.length ∧ i = .int .i64 j ∧ ∃ s T F, PlL w wr g b w3.heap.size s T F ∧ Blk wr w.heap.size 37 OC) (fun i _ => l0.length - (intOf i).toNat)
  case atStart => exact ⟨0, by omega, rfl, _, _, _, H0.out, HBo.out⟩
  case round =>
    clear H0 HBo HB0 HB1 HB2 HT HT0
    obtain ⟨j, hj, rfl, s, T, F, hL, hbo⟩ := hrel
    have HL := Lib.hid hL
    have HBo := Lib.hid hbo
    clear hL hbo
    by_cases hjk : j < l0.length
    · have ha : l0[j]? = some (l0[j]'hjk) := List.getElem?_eq_getElem _
      have HI := Lib.hid (HO0.out _ (List.getElem_mem hjk))
      obtain ⟨a, off, rfl, -, -, hc⟩ := (HS0.out.touch HL.out.t (fun _ _ e => e)).at_ (fun a _ => sop_len a) rfl ha
      generalize l0[j]'hjk = p at *
      have HDn := Lib.hid (show p.cells.toArray.size = 17 from rfl)
      have HD1 := Lib.hid (sop_one p)
      have HRg := Lib.hid (show wr.rangeAt a (off + j * 17) p.cells.toArray.toList from fun k u hk => by rw [Nat.add_assoc]; exact hc k u (by simpa using hk))
      have HN := Lib.hid T.cells_size
      obtain ⟨PC, hPC⟩ : ∃ PC, PC = p.cells.toArray := ⟨_, rfl⟩
      have hL1 := HL.out.far ((Touch.refl (fun _ => False) wr).alloc (.cells PC 37))
      have hD := hL1.doCall p HI.out
      rw [← hPC] at HDn HD1 HRg hD
      have HD := Lib.hid hD
      have HL1 := Lib.hid hL1
      have HBp := Lib.hid (Blk.new wr 37 PC)
      have HBo1 := Lib.hid (HBo.out.alloc (.cells PC 37))
      have hgw := HL.out.ge
      clear hc ha hL1 hPC hD
      go_wp2_with (first
        | (refine loadC rowOp _ rfl rfl a (off + j * 17) rfl PC HDn.out HRg.out ?_)
        | (refine storeC rowOp _ _ rfl rfl wr _ PC rfl rfl rfl rfl HDn.out HD1.out ?_)
        | ((with_reducible apply HL1.out.tab.ld rowRt HN.out); exact rfl; exact rfl; exact rfl)
        | ((with_reducible apply HBp.out.ld rowOp HDn.out); exact rfl; exact rfl; exact rfl)
        | (go_at_call 13; go_must (refine HD.out.mono ?_); rintro e w5 ⟨s', T', F', rfl, hM, t5⟩
           have HM := Lib.hid hM
           have HN' := Lib.hid T'.cells_size
           have H1' := Lib.hid T'.cells_one
           have HBo5 := Lib.hid (t5.blk HBo1.out (by omega))
           clear t5 hM)
        | ((with_reducible apply HM.out.tab.st rowRt HN.out HN'.out H1'.out); exact rfl; exact rfl; exact rfl; exact rfl
           intro w6 hb6 t6
           have HL6 := Lib.hid (HM.out.put t6 hb6)
           have HBo6 := Lib.hid (t6.blk HBo5.out (by omega))
           clear t6 hb6))
      go_roundw
      case rel => exact ⟨j + 1, by omega, by go_num, s', T', F', HL6.out, HBo6.out⟩
      case measure => simp [intOf]; omega
    · obtain rfl : j = l0.length := by omega
      have HLx := Lib.hid HL.out.lt_
      generalize hF' : (fun k => F k ∧ k < wr.heap.size) = F' at *
      have HFl := Lib.hid (show ∀ k, F' k → k < wr.heap.size from fun k hk => by rw [← hF'] at hk; exact hk.2)
      have HCl := Lib.hid (sclone_any g b s F' wr HLx.out.ses)
      have HTn := Lib.hid T.cells_size
      have hgl := HLx.out.ses.blk.lt
      have hbl := HLx.out.ses.map.choose_spec.1.lt
      have htl := HLx.out.tab.lt
      have hge := HLx.out.ge
      have hbol := HBo.out.lt
      have hrl := HLx.out.t.size
      clear HL hF'
      obtain ⟨S, hS⟩ : ∃ S : ByteArray, S = ⟨(encS s).toArray⟩ := ⟨_, rfl⟩
      have HV := Lib.hid hS
      have HVs := Lib.hid (show strS s = .string S by rw [hS]; rfl)
      have hSs : S.size ≤ 8200 := by have := encS_len HLx.out.good HLx.out.ses.ok; rw [hS]; show (encS s).toArray.size ≤ 8200; simpa using this
      have HVl := Lib.hid (show S.data.toList = encS s by rw [hS])
      have HVn := Lib.hid (show (encS s).length = S.size by rw [hS]; show _ = (encS s).toArray.size; simp)
      clear hS
      go_wp2_with (first
        | (go_at_call 23
           go_must (refine HCl.out.mono ?_)
           rintro e w5 ⟨g2, b2, rfl, hs2, hg2, hb2, t5⟩
           have hL5 := HLx.out.far t5
           have HL5 := Lib.hid hL5
           have HS5 := Lib.hid hs2
           have HBo5 := Lib.hid (t5.blk HBo.out (fun e => e))
           have hw5 := t5.size
           have hb2l := hs2.map.choose_spec.1.lt
           have hg2l := hs2.blk.lt
           have HD := Lib.hid (do20_any g2 b2 s _ w5 hs2 T hL5.hT (fun k => k < w.heap.size) hL5.hr (fun k hk => by omega) hL5.good o.kind o.client o.req HOo.out.1 HOo.out.2.1 o.a HOo.out.2.2.1 o.A o.c (HOo.out.2.2.2.2.touch hL5.t (fun _ _ e => e)) OC HOp.out)
           unfold DoQ at HD
           clear hs2 t5 hL5)
        | ((with_reducible apply HL5.out.tab.ld rowRt HTn.out); exact rfl; exact rfl; exact rfl)
        | ((with_reducible apply HBo5.out.ld rowOp HCn.out); exact rfl; exact rfl; exact rfl)
        | (go_at_call 13
           go_must (refine HD.out.mono ?_)
           rintro e w6 ⟨T2, s2, F2, rfl, hs6, hF6, hT6, hr6, hg6, t6⟩
           have HL6 := Lib.hid (HL5.out.aside t6 (by omega) (by omega) (by omega) (fun k hk => by have := HFl.out k hk; omega) (by omega))
           have HBo6 := Lib.hid (t6.blk HBo5.out (by omega))
           have HS6 := Lib.hid hs6.lt_
           have hw6 := t6.size
           have hg2l6 := hs6.blk.lt
           have hb2l6 := hs6.map.choose_spec.1.lt
           have HT6 := Lib.hid hT6
           have HR6 := Lib.hid hr6
           have HG6 := Lib.hid hg6
           have HDn := Lib.hid T2.cells_size
           have HD1 := Lib.hid T2.cells_one
           clear hs6 hF6 hT6 hr6 hg6 t6)
        | (refine storeC rowRt _ _ rfl rfl w6 _ T2.cells rfl rfl rfl (by kernel_rfl) HDn.out HD1.out ?_))
      have HX6 := Lib.hid (Blk.new w6 46 T2.cells)
      have HA := Lib.hid ((Touch.refl (fun _ => False) w6).alloc (.cells T2.cells 46))
      generalize hw7 : w6.alloc (.cells T2.cells 46) = w7 at *
      have HL7 := Lib.hid (HL6.out.far HA.out)
      have HBy := Lib.hid (fun w1 (h1 : PlL w w1 g b w3.heap.size s T F') => HVs.out ▸ bytes20_any g b s F' w1 h1.ses h1.good)
      go_wp2_with (first
        | (go_at_call 16
           go_must (refine (HBy.out _ HL7.out).mono ?_)
           rintro e w8 ⟨rfl, t8⟩
           have HT8 := Lib.hid t8
           obtain ⟨c2, o2, hcv, hrd, hc2, hm2⟩ := conv_str w8 S _ rfl (by omega)
           have HRd := Lib.hid hrd
           clear t8 hrd)
        | (go_at_call 18; go_must (refine (open_any _ _ _ _).mono ?_); rintro e w1 ⟨rfl, rfl⟩))
      have hw7 : w6.heap.size + 1 ≤ w7.heap.size := by rw [← hw7]; simp
      have hw8 := HT8.out.size
      obtain ⟨w9, hw9⟩ : ∃ w9, w9 = ((w8.alloc o2).drew).alloc (.cells #[.slice (some ⟨w8.heap.size, 0, none⟩) S.size c2, .bool false] 87) := ⟨_, rfl⟩
      rw [show ((w8.alloc o2).alloc (.cells #[.slice (some ⟨w8.heap.size, 0, none⟩) S.size c2, .bool false] 87)).drew = w9 by rw [hw9]; rfl]
      have hz9 : w9.heap.size = w8.heap.size + 2 := by rw [hw9]; simp
      have HB9 := Lib.hid (show Blk w9 (w8.heap.size + 1) 87 #[.slice (some ⟨w8.heap.size, 0, none⟩) S.size c2, .bool false] by
        have h := Blk.new ((w8.alloc o2).drew) 87 #[.slice (some ⟨w8.heap.size, 0, none⟩) S.size c2, .bool false]
        rw [← hw9] at h; simpa using h)
      have HR9 := Lib.hid (show Rd w9 (fun k => k = w8.heap.size) (some ⟨w8.heap.size, 0, none⟩) S.size (S.data.toList.map B8) from hw9 ▸ HRd.out.touch ((Touch.refl (fun _ => False) _).alloc _) (fun _ _ e => e))
      have HT9 := Lib.hid (show Touch (fun _ => False) w7 w9 from HT8.out.trans (show Touch (fun _ => False) w8 w9 from hw9 ▸ (((Touch.refl (fun _ => False) w8).alloc o2).drew.alloc _)) (fun _ _ e => e))
      have HW := Lib.hid (rdSes_write HLx.out.ses.ok HLx.out.good [])
      have hW := HW.out
      rw [List.append_nil] at hW
      have hrdA : RdAt w9 (w8.heap.size + 1) (fun k => k = w8.heap.size) (encS s) false := ⟨by omega, some ⟨w8.heap.size, 0, none⟩, c2, by rw [HVn.out]; exact hc2, hm2, by rw [HVn.out]; exact HB9.out, by rw [HVn.out, ← HVl.out]; exact HR9.out⟩
      have HRs := Lib.hid (sread_yes hW.1 hW.2.1 hW.2.2 (w8.heap.size + 1) (fun k => k = w8.heap.size) w9 hrdA (by omega) (by intro k hk; omega))
      clear hcv hw9 hW HW hrdA HB9 HR9 HRd HVl HVn
      refine (HRs.out).mono ?_
      rintro e wa ⟨g3, b3, rfl, hs3, hg3, hb3, -, ta⟩
      have HAp := Lib.hid (show ApS w wa g b w3.heap.size s T F' g2 b2 s2 (fun k => F2 k ∧ k < w6.heap.size) w6.heap.size T2 g3 b3 (fun k => w9.heap.size ≤ k ∧ k ≠ b3) OC from
        ⟨(HL7.out.far HT9.out).aside ta (by omega) (by omega) (by omega) (fun k hk => by have := HFl.out k hk; omega) (by omega), ((HS6.out.touch HA.out (fun e => e) (fun e => e) (fun _ _ e => e)).touch HT9.out (fun e => e) (fun e => e) (fun _ _ e => e)).touch ta (by omega) (by omega) (fun k hk e => by have := hk.2; omega), ta.blk (HT9.out.blk HX6.out (fun e => e)) (by omega), HT6.out, ((HR6.out.touch HA.out (fun _ _ e => e)).touch HT9.out (fun _ _ e => e)).touch ta (fun k hk e => by omega), HG6.out, hs3, ta.blk (HT9.out.blk (HA.out.blk HBo6.out (fun e => e)) (fun e => e)) (by omega)⟩)
      have HTf := Lib.hid hs3
      clear hs3 ta
      clear HL6 HBo6 HS6 HT6 HR6 HG6 HL7 HX6 HA HT8 HT9 HL5 HS5 HBo5
      go_wp2_with fail
      obtain ⟨AP, hAP⟩ : ∃ AP : World → Prop, AP = fun w1 => ApS w w1 g b w3.heap.size s T F' g2 b2 s2 (fun k => F2 k ∧ k < w6.heap.size) w6.heap.size T2 g3 b3 (fun k => w9.heap.size ≤ k ∧ k ≠ b3) OC := ⟨_, rfl⟩
      obtain ⟨S2, hS2⟩ : ∃ S : ByteArray, S = ⟨(encS s2).toArray⟩ := ⟨_, rfl⟩
      have HV2 := Lib.hid hS2
      have HVs2 := Lib.hid (show strS s2 = .string S2 by rw [hS2]; rfl)
      have HBa := Lib.hid (show ∀ w1, AP w1 → Calls Try.prog 16 #[.pointer (some ⟨g, 0, none⟩)] w1 fun e w' => e = .returned (.string S) ∧ Touch (fun _ => False) w1 w' from fun w1 h => by rw [hAP] at h; exact HVs.out ▸ bytes20_any g b s _ w1 h.l.ses h.l.good)
      have HBb := Lib.hid (show ∀ w1, AP w1 → Calls Try.prog 16 #[.pointer (some ⟨g2, 0, none⟩)] w1 fun e w' => e = .returned (.string S2) ∧ Touch (fun _ => False) w1 w' from fun w1 h => by rw [hAP] at h; exact HVs2.out ▸ bytes20_any g2 b2 s2 _ w1 h.c h.gd2)
      have HBc := Lib.hid (show ∀ w1, AP w1 → Calls Try.prog 16 #[.pointer (some ⟨g3, 0, none⟩)] w1 fun e w' => e = .returned (.string S) ∧ Touch (fun _ => False) w1 w' from fun w1 h => by rw [hAP] at h; exact HVs.out ▸ bytes20_any g3 b3 s _ w1 h.d h.l.good)
      have HFa := Lib.hid (show ∀ w1, AP w1 → Calls Try.prog 17 #[.agg T.cells] w1 (NewOwn w1 (encS s)) from fun w1 h => by rw [hAP] at h; exact fput20_any T s h.l.hT h.l.ses.ok h.l.good _ w1 h.l.hr)
      have HFb := Lib.hid (show ∀ w1, AP w1 → Calls Try.prog 17 #[.agg T2.cells] w1 (NewOwn w1 (encS s2)) from fun w1 h => by rw [hAP] at h; exact fput20_any T2 s2 h.hT2 h.c.ok h.gd2 _ w1 h.hr2)
      have HX1 := Lib.hid (show ∀ w1, AP w1 → Blk w1 w3.heap.size 46 T.cells from fun w1 h => by rw [hAP] at h; exact h.l.tab)
      have HX2 := Lib.hid (show ∀ w1, AP w1 → Blk w1 w6.heap.size 46 T2.cells from fun w1 h => by rw [hAP] at h; exact h.x)
      have HXo := Lib.hid (show ∀ w1, AP w1 → Blk w1 w.heap.size 37 OC from fun w1 h => by rw [hAP] at h; exact h.o)
      have HXt := Lib.hid (show ∀ w1, AP w1 → Touch (fun _ => False) w w1 from fun w1 h => by rw [hAP] at h; exact h.l.t)
      have HXf := Lib.hid (show ∀ w1 w2, AP w1 → Touch (fun _ => False) w1 w2 → AP w2 from fun w1 w2 h t => by rw [hAP] at h ⊢; exact h.far t)
      have HA0 := Lib.hid (show AP wa.drew from by rw [hAP]; exact HAp.out.far (Touch.refl _ wa).drew)
      have HTn := Lib.hid T.cells_size
      have HTn2 := Lib.hid T2.cells_size
      generalize T.cells = TC at *
      generalize T2.cells = TC2 at *
      generalize encS s = E at *
      generalize encS s2 = E2 at *
      have hbe : (S == S) = true := by cases S with | mk d => exact beq_self_eq_true d
      have hbe2 : (S2 == S2) = true := by cases S2 with | mk d => exact beq_self_eq_true d
      clear hAP hS2 HAp HLx HRs
      refine wp_region_plan [(0, 0), (0, 1), (0, 2), (0, 3), (0, 4), (0, 5), (0, 6), (0, 7), (1, 9), (2, 8), (2, 10), (0, 11), (0, 12), (0, 13), (0, 14), (0, 15), (1, 17), (2, 16), (2, 18), (0, 19), (0, 20), (0, 21), (0, 22), (0, 23), (1, 25), (2, 24), (2, 26), (0, 27), (0, 28)] (fun _ => False) (by kernel_rfl) (by kernel_rfl) (fun c a d v w h => by cases d <;> exact h) ?_
      iterate 8
        refine plan_s1 rfl (by rfl) (fun Kc hKc => ?_)
        go_simp
        first
          | (refine hKc _ ?_)
        clear hKc Kc
      refine plan_hC rowRt rfl _ rfl rfl w3.heap.size 0 rfl TC HTn.out (fun wh hT => (hT.blk (HX1.out _ HA0.out) (fun e => e)).whole) ?_
      go_frame
      refine plan_a1 rfl (by rfl) (fun Kc hKc => ?_)
      go_simp
      refine (HBa.out _ HA0.out).mono ?_
      rintro e v1 ⟨rfl, t1⟩
      refine hKc _ _ ⟨t1, ?_⟩
      clear hKc Kc
      have HA1 := Lib.hid (HXf.out _ _ HA0.out t1)
      clear t1
      refine plan_a1 rfl (by rfl) (fun Kc hKc => ?_)
      go_simp
      refine (HFa.out _ HA1.out).mono ?_
      rintro e v2 ⟨x2, k2, rfl, ho2, hk2, t2⟩
      refine hKc _ _ ⟨t2, ?_⟩
      clear hKc Kc
      have HA2 := Lib.hid (HXf.out _ _ HA1.out t2)
      obtain ⟨Ap2, cp2, rfl, -, -, -, hr2⟩ := ho2.rd
      have hst := Rd.str hr2 cp2
      try simp only [List.length_map] at hst
      rw [← HV.out] at hst
      clear t2 ho2 hr2 hk2
      try simp only [List.length_map]
      iterate 5
        refine plan_s1 rfl (by rfl) (fun Kc hKc => ?_)
        go_simp
        first
          | (refine hKc _ ?_)
        clear hKc Kc
      clear hst
      refine plan_hC rowRt rfl _ rfl rfl w6.heap.size 0 rfl TC2 HTn2.out (fun wh hT => (hT.blk (HX2.out _ HA2.out) (fun e => e)).whole) ?_
      go_frame
      refine plan_a1 rfl (by rfl) (fun Kc hKc => ?_)
      go_simp
      refine (HBb.out _ HA2.out).mono ?_
      rintro e v3 ⟨rfl, t3⟩
      refine hKc _ _ ⟨t3, ?_⟩
      clear hKc Kc
      have HA3 := Lib.hid (HXf.out _ _ HA2.out t3)
      clear t3
      refine plan_a1 rfl (by rfl) (fun Kc hKc => ?_)
      go_simp
      refine (HFb.out _ HA3.out).mono ?_
      rintro e v4 ⟨x4, k4, rfl, ho4, hk4, t4⟩
      refine hKc _ _ ⟨t4, ?_⟩
      clear hKc Kc
      have HA4 := Lib.hid (HXf.out _ _ HA3.out t4)
      obtain ⟨Ap4, cp4, rfl, -, -, -, hr4⟩ := ho4.rd
      have hst := Rd.str hr4 cp4
      try simp only [List.length_map] at hst
      rw [← HV2.out] at hst
      clear t4 ho4 hr4 hk4
      try simp only [List.length_map]
      iterate 5
        refine plan_s1 rfl (by rfl) (fun Kc hKc => ?_)
        go_simp
        first
          | (refine hKc _ ?_)
        clear hKc Kc
      clear hst
      iterate 1
        apply plan_h
        · rfl
        · rfl
        · intro wh hT
          go_simp
          try rfl
        go_frame
      refine plan_a1 rfl (by rfl) (fun Kc hKc => ?_)
      go_simp
      refine (HBc.out _ HA4.out).mono ?_
      rintro e v5 ⟨rfl, t5⟩
      refine hKc _ _ ⟨t5, ?_⟩
      clear hKc Kc
      have HA5 := Lib.hid (HXf.out _ _ HA4.out t5)
      clear t5
      refine plan_a1 rfl (by rfl) (fun Kc hKc => ?_)
      go_simp
      refine (HBa.out _ HA5.out).mono ?_
      rintro e v6 ⟨rfl, t6⟩
      refine hKc _ _ ⟨t6, ?_⟩
      clear hKc Kc
      have HA6 := Lib.hid (HXf.out _ _ HA5.out t6)
      clear t6
      iterate 2
        refine plan_s1 rfl (by rfl) (fun Kc hKc => ?_)
        go_simp
        first
          | (refine hKc _ ?_)
        clear hKc Kc
      refine plan_done ?_
      clear HA0 HA1 HA2 HA3 HA4 HA5
      have HNc := Lib.hid (fun w1 => nclone_any (w := w1) (v := .pointer none) (.inl rfl))
      go_wp2_with fail
      refine (HNc.out _).mono ?_
      rintro e v7 ⟨⟨g5, rfl, hb5, hg5⟩, t7⟩
      have ta := (Touch.refl (fun _ => False) v6).alloc (.cells #[.map none] 66)
      have HA7 := Lib.hid (HXf.out _ _ (HXf.out _ _ HA6.out ta) t7)
      have HN1 := Lib.hid (show NoTb v7 (.pointer (some ⟨v6.heap.size, 0, none⟩)) from .inr ⟨v6.heap.size, rfl, t7.blk (Blk.new v6 66 #[.map none]) (fun e => e)⟩)
      have HN2 := Lib.hid (show NoTb v7 (.pointer (some ⟨g5, 0, none⟩)) from .inr ⟨g5, rfl, hb5⟩)
      clear ta t7 hb5 hg5
      go_wp2_with fail
      obtain ⟨ps, hps⟩ : ∃ ps : List (Option Addr), ps = [none, some ⟨v6.heap.size, 0, none⟩, some ⟨g5, 0, none⟩] := ⟨_, rfl⟩
      have hpl : ps.length = 3 := by rw [hps]; rfl
      have HPs := Lib.hid (show ∀ p ∈ ps, NoTb v7 (.pointer p) from fun p hp => by
        rw [hps] at hp
        simp only [List.mem_cons, List.not_mem_nil, or_false] at hp
        rcases hp with rfl | rfl | rfl
        · exact .inl rfl
        · exact HN1.out
        · exact HN2.out)
      have HBs := Lib.hid (show Blk (v7.alloc (.cells #[.pointer none, .pointer (some ⟨v6.heap.size, 0, none⟩), .pointer (some ⟨g5, 0, none⟩)] 25)) v7.heap.size 25 (ps.map Value.pointer).toArray from by rw [hps]; exact Blk.new v7 _ _)
      have HA8 := Lib.hid ((Touch.refl (fun _ => False) v7).alloc (.cells #[.pointer none, .pointer (some ⟨v6.heap.size, 0, none⟩), .pointer (some ⟨g5, 0, none⟩)] 25))
      have HO7 := Lib.hid (HXo.out _ HA7.out)
      have HT7 := Lib.hid (HXt.out _ HA7.out)
      clear hps HN1 HN2 HA7 HA6 HXf HXt HXo HX1 HX2 HFa HFb HBa HBb HBc HNc hbe hbe2
      go_loopw [97] (fun i wq => ∃ j : Nat, j ≤ 3 ∧ i = .int .i64 j ∧ Touch (fun _ => False) v7 wq ∧ Blk wq v7.heap.size 25 (ps.map Value.pointer).toArray) (fun i _ => 3 - (intOf i).toNat)
      case atStart => exact ⟨0, by omega, rfl, HA8.out, HBs.out⟩
      case round =>
        clear HA8 HBs
        obtain ⟨j, hj, rfl, hT, hB⟩ := hrel
        have HT := Lib.hid hT
        have HB := Lib.hid hB
        clear hT hB
        by_cases hj3 : j < 3
        · obtain ⟨p, hp⟩ : ∃ p, ps[j]? = some p := ⟨_, List.getElem?_eq_getElem (by omega)⟩
          have cj := HB.out.cell j
          rw [show ((ps.map Value.pointer).toArray)[j]? = some (.pointer p) by simp [hp]] at cj
          have HNp := Lib.hid ((HPs.out p (List.mem_of_getElem? hp)).far HT.out)
          have HOq := Lib.hid (HT.out.blk HO7.out (fun e => e))
          have HK1 := Lib.hid HOp.out.k1
          have HK2 := Lib.hid HOp.out.k2
          have HRe := Lib.hid HOp.out.r
          have HRn := Lib.hid HOp.out.rn
          have HR1 := Lib.hid HOp.out.r1
          generalize rpC o.a o.A o.c = R at *
          generalize o.client = cl at *
          generalize o.req = rq at *
          have x1 := HOq.out.cell 1
          have x2 := HOq.out.cell 2
          rw [HK1.out] at x1
          rw [HK2.out] at x2
          have hj3' : (j : Int) < 3 := by omega
          clear hp
          have hne1 : (3 : Int) = 3 := rfl
          go_wp2_with (first
            | (go_at_call 10
               go_must (refine (nlook_any HNp.out cl rq).mono ?_)
               rintro e u1 ⟨rfl, t1⟩
               have HTa := Lib.hid (t1.alloc (.cells #[.int .i64 0, .int .i64 0, .int .u64 0, .int .i64 0, .int .i64 0, .int .i64 0, .int .u64 0, .int .i64 0, .int .i64 0, .int .i64 0, .int .i64 0, .slice none 0 0, .int .u64 0, .int .i64 0] 35))
               have HOa := Lib.hid (HTa.out.blk HOq.out (fun e => e))
               have HNa := Lib.hid (HNp.out.far HTa.out)
               have y1 := HOa.out.cell 1
               have y2 := HOa.out.cell 2
               rw [HK1.out] at y1
               rw [HK2.out] at y2
               clear t1)
            | (refine storeC rowRy _ _ rfl rfl u1 _ #[.int .i64 0, .int .i64 0, .int .u64 0, .int .i64 0, .int .i64 0, .int .i64 0, .int .u64 0, .int .i64 0, .int .i64 0, .int .i64 0, .int .i64 0, .slice none 0 0, .int .u64 0, .int .i64 0] rfl rfl rfl rfl rfl zRy_one ?_)
            | ((with_reducible apply HOa.out.lp (k := 3) rowRy HRn.out HRe.out); exact rfl; exact rfl; exact rfl)
            | (go_at_call 12
               go_must (refine (ndone_any HNa.out cl rq R HRn.out HR1.out).mono ?_)
               rintro e u2 ⟨rfl, t2⟩
               have HTb := Lib.hid (HTa.out.trans t2 (fun _ _ e => e))
               have HOb := Lib.hid (t2.blk HOa.out (fun e => e))
               have HNb := Lib.hid (HNa.out.far t2)
               have z1 := HOb.out.cell 1
               rw [HK1.out] at z1
               clear t2)
            | (go_at_call 14; go_must (refine (nlast_any HNb.out cl).mono ?_); rintro e u3 ⟨rfl, rfl⟩)
            | (go_at_call 24; go_must (refine (ndrop_any HNb.out cl).mono ?_); rintro e u3 ⟨rfl, rfl⟩)
            | (go_at_call 16; go_must (refine (nbytes_any HNb.out).mono ?_); rintro e u4 ⟨rfl, t4⟩; have HTc := Lib.hid (HTb.out.trans t4 (fun _ _ e => e)); clear t4))
          go_roundw
          case rel => exact ⟨j + 1, by omega, by go_num, HT.out.trans HTc.out (fun _ _ e => e), HTc.out.blk HB.out (fun e => e)⟩
          case measure => simp [intOf]; omega
        · obtain rfl : j = 3 := by omega
          go_wp2_with (go_at_call 8; go_must (refine (lives20_any _).mono ?_); rintro e u2 ⟨rfl, t2⟩; have HTz := Lib.hid ((HT7.out.trans HT.out (fun _ _ e => e)).trans t2 (fun _ _ e => e)); clear t2)
          go_ret
          exact ⟨rfl, HTz.out.below⟩
end Go.Proofs.Ytmgmjehebbggaaa
