/- ref14.Put: the same bytes. (written by genctc.py) ref18.Bytes. (written by gencdh.py) -/
import Derived.Test.YtlcefchbfjfifaaVCells
import Derived.Test.YtlcefchbfjfifaaVQuillF
import Derived.Test.YtlcefchbfjfifaaVCdG
import Derived.Test.YtlcefchbfjfifaaVCdF
section
namespace Go.Proofs.Ytlcefchbfjfifaa
open Go.RowKit Cal
set_option maxHeartbeats 4000000
set_option maxRecDepth 100000
set_option linter.unusedVariables false
attribute [local irreducible] wpPlan

theorem fputk_any (c : Co) (F : Nat → Prop) (A : Option Addr) (n : Nat) (w : World) (hr : SpR w F A c.lv.length c.lv) (hgd : goodB c = true) :
    Calls Try.prog 62 #[.agg #[.int .i64 c.cal, .slice A c.lv.length n, .int .i64 c.rt, .int .i64 c.bk]] w (NewOwn w (encK c)) := by
  obtain ⟨b1, b2, b3, b4, b5, b6, b7, b8⟩ := good_hd hgd
  have HBd := Lib.hid (good_lv hgd)
  have HEk := Lib.hid (show encK c = encs [c.cal.toNat, c.lv.length] ++ encSps c.lv ++ encs [c.rt.toNat, c.bk.toNat] from rfl)
  have HT0 := Lib.hid ((Touch.refl (fun _ => False) w).alloc (.cells #[.int .i64 c.cal, .slice A c.lv.length n, .int .i64 c.rt, .int .i64 c.bk] 33))
  have HB0 := Lib.hid (Blk.new w 33 #[.int .i64 c.cal, .slice A c.lv.length n, .int .i64 c.rt, .int .i64 c.bk])
  have HR := Lib.hid (hr.touch HT0.out (fun _ _ e => e))
  have hpos : 0 < (encK c).length := by simp [encK, encs, encN]
  generalize encK c = E at *
  obtain ⟨cal, lv, rt, bk⟩ := c
  simp only at *
  obtain ⟨cal, rfl⟩ : ∃ k : Nat, cal = (k : Int) := ⟨cal.toNat, by omega⟩
  obtain ⟨rt, rfl⟩ : ∃ k : Nat, rt = (k : Int) := ⟨rt.toNat, by omega⟩
  obtain ⟨bk, rfl⟩ : ∃ k : Nat, bk = (k : Int) := ⟨bk.toNat, by omega⟩
  simp only [Int.toNat_natCast] at HEk
  have hcv : IntKind.u64.wrap ((lv.length : Nat) : Int) = ((lv.length : Nat) : Int) := IntWalk.u64_in _ (by omega)
  have hcc : IntKind.u64.wrap ((cal : Nat) : Int) = ((cal : Nat) : Int) := IntWalk.u64_in _ (by omega)
  have hl1 := encN_len 0 cal
  have hl2 := encN_len 0 lv.length
  have hl3 := encN_len 0 rt
  have hl4 := encN_len 0 bk
  have hl5 := encSps_len lv
  obtain ⟨W1, hW1⟩ : ∃ W1, W1 = (w.alloc (.cells #[.int .i64 (cal : Int), .slice A lv.length n, .int .i64 (rt : Int), .int .i64 (bk : Int)] 33)) := ⟨_, rfl⟩
  have hs1 : W1.heap.size = w.heap.size + 1 := by rw [hW1]; simp
  rw [← hW1] at HT0 HB0 HR
  have q0 := HB0.out.cell 0; have q1 := HB0.out.cell 1
  simp at q0 q1
  have HWW := Lib.hid hW1
  clear hr hgd hW1
  go_enter Try.func62, Try.ntmps62
  go_wp2_with fail
  rw [← HWW.out]
  go_wp2_with (first
    | (at_builtin; have HM9 := HX3; go_must (refine own_append_list rfl _ _ rfl _ _ _ _ rfl rfl HM3.out HX3.out (by (try simp); omega) ?_); intro v4 w4 h3 t3; have HM4 := Lib.hid h3; clear h3 t3)
    | (go_at_call 60; have HM9 := HM2; go_must (refine (fnum_any lv.length _ (by omega)).mono ?_); rintro e w3 h2; have hm2 := HM2.out.far h2.touch; obtain ⟨x3, rfl, hx2⟩ := OwnX.of (Touch.refl _ _) h2; have HM3 := Lib.hid hm2; have HX3 := Lib.hid hx2; clear h2 hm2 hx2)
    | (go_at_call 60; go_must (refine (fnum_any cal _ (by omega)).mono ?_); rintro e w2 h2; obtain ⟨x2, rfl, hx2⟩ := OwnX.of (Touch.refl _ _) h2; have hb2 := hx2.blk HB0.out; have HM2 := Lib.hid hx2; clear q0 q1; have q1 := hb2.cell 1; simp at q1; clear h2 hx2 hb2))
  clear q1 hcv hcc
  go_loopw [3, 4] (fun b i wr => ∃ j : Nat, j ≤ lv.length ∧ i = .int .i64 j ∧ OwnX W1 wr (encN 0 cal ++ encN 0 lv.length ++ encSps (lv.take j)) b) (fun _ i _ => lv.length - (intOf i).toNat)
  case atStart => exact ⟨0, by omega, rfl, by simpa [encSps] using HM4.out⟩
  case round =>
    obtain ⟨j, hj, rfl, hM⟩ := hrel
    have HM := Lib.hid hM
    have hbw := hM.blk HB0.out
    have y1 := hbw.cell 1; have y2 := hbw.cell 2; have y3 := hbw.cell 3
    simp at y1 y2 y3
    clear HM2 HM3 HX3 HM4
    by_cases hjk : j < lv.length
    · have ha : lv[j]? = some (lv[j]'hjk) := List.getElem?_eq_getElem _
      obtain ⟨gb, off, rfl, hgb, -, hc0, hc1⟩ := HR.out.at_ ha
      have hbs := HBd.out _ (List.getElem_mem hjk)
      have HTk := Lib.hid (encSps_take lv j _ ha)
      have hl2' := encSps_len (lv.take j)
      have hl3' : (lv.take j).length ≤ 6 := by simp; omega
      generalize lv[j]'hjk = s at *
      obtain ⟨f, t⟩ := s
      simp only at hc0 hc1 hbs HTk
      obtain ⟨c1, c2, c3, c4⟩ := hbs
      obtain ⟨f, rfl⟩ : ∃ f' : Nat, f = (f' : Int) := ⟨f.toNat, by omega⟩
      obtain ⟨t, rfl⟩ : ∃ t' : Nat, t = (t' : Int) := ⟨t.toNat, by omega⟩
      have hcf : IntKind.u64.wrap ((f : Nat) : Int) = (f : Int) := IntWalk.u64_in _ (by omega)
      have hct : IntKind.u64.wrap ((t : Nat) : Int) = (t : Int) := IntWalk.u64_in _ (by omega)
      have hl4' := encN_len 0 f
      have hl5' := encN_len 0 t
      have z0 := (hM.touch.cell (p := ⟨gb, off + j * 2, none⟩) hgb (fun e => e)).trans hc0
      clear ha hbw hM
      go_wp2_with (first
          | (at_builtin; have HM9 := HX7; go_must (refine own_append_list rfl _ _ rfl _ _ _ _ rfl rfl HM7.out HX7.out (by (try simp); omega) ?_); intro v8 w8 h3 t3; have HM8 := Lib.hid h3; clear h3 t3)
          | (go_at_call 60; have HM9 := HM6; go_must (refine (fnum_any t _ (by omega)).mono ?_); rintro e w7 h2; have hm2 := HM6.out.far h2.touch; obtain ⟨x7, rfl, hx2⟩ := OwnX.of (Touch.refl _ _) h2; have HM7 := Lib.hid hm2; have HX7 := Lib.hid hx2; clear h2 hm2 hx2)
          | (at_builtin
             have HM9 := HX5
             go_must (refine own_append_list rfl _ _ rfl _ _ _ _ rfl rfl HM5.out HX5.out (by simp; omega) ?_)
             intro v6 w6 h3 t3
             have HM6 := Lib.hid h3
             have hb6 := h3.blk HB0.out
             clear z0 y1 y2 y3
             have y1 := hb6.cell 1
             simp at y1
             have z1 := (h3.touch.cell (p := ⟨gb, off + j * 2 + 1, none⟩) hgb (fun e => e)).trans hc1
             clear h3 t3 hb6)
          | (go_at_call 60; have HM9 := HM; go_must (refine (fnum_any f _ (by omega)).mono ?_); rintro e w5 h2; have hm2 := HM.out.far h2.touch; obtain ⟨x5, rfl, hx2⟩ := OwnX.of (Touch.refl _ _) h2; have HM5 := Lib.hid hm2; have HX5 := Lib.hid hx2; clear h2 hm2 hx2))
      go_roundw
      case rel => exact ⟨j + 1, by omega, by go_num, by rw [HTk.out]; have := HM8.out; simpa [encS2, encs] using this⟩
      case measure => simp [intOf]; omega
    · obtain rfl : j = lv.length := by omega
      have hm0 := HM.out
      rw [List.take_length] at hm0
      have HM10 := Lib.hid hm0
      have hcr : IntKind.u64.wrap ((rt : Nat) : Int) = ((rt : Nat) : Int) := IntWalk.u64_in _ (by omega)
      have hcb : IntKind.u64.wrap ((bk : Nat) : Int) = ((bk : Nat) : Int) := IntWalk.u64_in _ (by omega)
      clear hm0 hbw hM
      go_wp2_with (first
          | (at_builtin; have HM9 := HX13; go_must (refine own_append_list rfl _ _ rfl _ _ _ _ rfl rfl HM13.out HX13.out (by (try simp); omega) ?_); intro v14 w14 h3 t3; have HM14 := Lib.hid h3; clear h3 t3)
          | (go_at_call 60; have HM9 := HM12; go_must (refine (fnum_any bk _ (by omega)).mono ?_); rintro e w13 h2; have hm2 := HM12.out.far h2.touch; obtain ⟨x13, rfl, hx2⟩ := OwnX.of (Touch.refl _ _) h2; have HM13 := Lib.hid hm2; have HX13 := Lib.hid hx2; clear h2 hm2 hx2)
          | (at_builtin
             have HM9 := HX11
             go_must (refine own_append_list rfl _ _ rfl _ _ _ _ rfl rfl HM11.out HX11.out (by simp; omega) ?_)
             intro v12 w12 h3 t3
             have HM12 := Lib.hid h3
             have hb6 := h3.blk HB0.out
             clear y1 y2 y3
             have y3 := hb6.cell 3
             simp at y3
             clear h3 t3 hb6)
          | (go_at_call 60; have HM9 := HM10; go_must (refine (fnum_any rt _ (by omega)).mono ?_); rintro e w11 h2; have hm2 := HM10.out.far h2.touch; obtain ⟨x11, rfl, hx2⟩ := OwnX.of (Touch.refl _ _) h2; have HM11 := Lib.hid hm2; have HX11 := Lib.hid hx2; clear h2 hm2 hx2))
      go_ret
      exact NewOwn.before HT0.out (OwnX.new (by rw [HEk.out]; have := HM14.out; simpa [encs] using this) hpos)
end Go.Proofs.Ytlcefchbfjfifaa
end

section
namespace Go.Proofs.Ytlcefchbfjfifaa
open Go.RowKit Cal
set_option maxHeartbeats 4000000
set_option maxRecDepth 100000
set_option linter.unusedVariables false
attribute [local irreducible] wpPlan

theorem OwnX.out {w0 w : World} {l : List UInt8} {v : Value} (h : OwnX w0 w l v) : ∃ A c, v = .slice A l.length c ∧ l.length ≤ c ∧ c ≤ maxLen ∧ Rd w (fun k => w0.heap.size ≤ k) A l.length (l.map B8) ∧ Touch (fun _ => False) w0 w := by
  obtain ⟨r, ho, hr, t⟩ := h
  obtain ⟨A, c, e, h1, h2, -, h3⟩ := ho.rd
  exact ⟨A, c, e, h1, h2, h3.mono (fun k hk => hr k hk), t⟩
theorem fcmbytes_any (F : Nat → Prop) (A B D : Option Addr) (k m n : Nat) (c : Cm) (w : World) (hr : CmR w F c A B D) (hF : ∀ q, F q → q < w.heap.size) (h1 : c.cal.wk.length ≤ 1000000) (h2 : c.cal.cl.length ≤ 1000000) (h3 : c.tm.lv.length ≤ 1000000)
    (ha : -9223372036854775808 ≤ c.at_ ∧ c.at_ ≤ 9223372036854775807) (ho : -9223372036854775808 ≤ c.cal.off ∧ c.cal.off ≤ 9223372036854775807) (h64 : c.req < 256 ^ 8 ∧ c.id < 256 ^ 8) :
    Calls Try.prog 39 #[.agg #[.int .i64 c.kind, .int .u64 c.client, .int .u64 c.req, .int .u64 c.id, .int .i64 c.con, .int .i64 c.at_, .int .i64 c.cal.off, .slice A c.cal.wk.length k, .slice B c.cal.cl.length m, .int .i64 c.tm.cal, .slice D c.tm.lv.length n, .int .i64 c.tm.rt, .int .i64 c.tm.bk]] w (CbPost c w) := by
  have HS := Lib.hid (fun w1 hr => fcmsound_any F A B D k m n c w1 hr h1 h2 h3 ha)
  have HT0 := Lib.hid ((Touch.refl (fun _ => False) w).alloc (.cells #[.int .i64 c.kind, .int .u64 c.client, .int .u64 c.req, .int .u64 c.id, .int .i64 c.con, .int .i64 c.at_, .int .i64 c.cal.off, .slice A c.cal.wk.length k, .slice B c.cal.cl.length m, .int .i64 c.tm.cal, .slice D c.tm.lv.length n, .int .i64 c.tm.rt, .int .i64 c.tm.bk] 35))
  have HB0 := Lib.hid (Blk.new w 35 #[.int .i64 c.kind, .int .u64 c.client, .int .u64 c.req, .int .u64 c.id, .int .i64 c.con, .int .i64 c.at_, .int .i64 c.cal.off, .slice A c.cal.wk.length k, .slice B c.cal.cl.length m, .int .i64 c.tm.cal, .slice D c.tm.lv.length n, .int .i64 c.tm.rt, .int .i64 c.tm.bk])
  have HR := Lib.hid hr
  have HF := Lib.hid hF
  cases hsd : cmSound c
  · rw [hsd] at HS
    have HN := Lib.hid (fun w1 t => CbPost.no (w := w) (w' := w1) hsd t)
    clear hsd
    go_enter Try.func39, Try.ntmps39
    go_wp2_with (go_at_call 36; go_must (refine (HS.out _ (by exact HR.out.touch HT0.out (fun _ _ e => e))).mono ?_); rintro e w1 ⟨rfl, t1⟩; have HT1 := Lib.hid (HT0.out.trans t1 (fun _ _ e => e)); clear t1)
    go_ret2
    exact HN.out _ HT1.out
  rw [hsd] at HS
  obtain ⟨hn, hc8, -, hcal, htm, hcon⟩ := cm_sound hsd
  have HY := Lib.hid (fun w1 A1 n1 c1 l1 e1 e2 a b c2 t => CbPost.yes (w := w) (w' := w1) (A := A1) (n := n1) (cap := c1) (l := l1) hsd e1 e2 a b c2 t)
  have HEc := Lib.hid (show encC c = encs [c.kind.toNat, c.client, c.req] ++ (bif fid c.kind then encs [c.id] else []) ++ (bif fcal c.kind then encCa c.cal else bif ftm c.kind then encK c.tm else bif fcon c.kind then encs [c.con.toNat] else bif fat c.kind then encIs [c.at_] else []) from rfl)
  generalize encC c = E at *
  generalize CbPost c w = Post at *
  have hcal' : fcal c.kind = true → (∀ s ∈ c.cal.wk ++ c.cal.cl, 0 ≤ s.f ∧ s.f < 9223372036854775808 ∧ 0 ≤ s.t ∧ s.t < 9223372036854775808) ∧ c.cal.wk.length ≤ 1000 ∧ c.cal.cl.length ≤ 1000 := fun e => by
    have h := check_ok (hcal e)
    have r1 := row_sp (Int.le_refl 0) h.wk.1
    have r2 := row_sp (Int.le_refl 0) h.cl
    have l1 := h.wk.2.1
    have l2 := h.cn
    refine ⟨fun s hs => ?_, by omega, by omega⟩
    rcases List.mem_append.1 hs with hs | hs
    · have := r1 s hs; omega
    · have := r2 s hs; omega
  clear hsd hcal h1 h2 h3
  obtain ⟨kd, cl, rq, i, cn, at_, ca, tm⟩ := c
  simp only at *
  rcases kinds kd with h | rfl | rfl | rfl | rfl | rfl | hk
  · rw [h] at hn; cases hn
  · clear hcal' htm hcon hn
    go_enter Try.func39, Try.ntmps39
    go_wp2_with fail
    refine (HS.out _ (by exact HR.out.touch HT0.out (fun _ _ e => e))).mono ?_
    rintro e w1 ⟨rfl, t1⟩
    have HT1 := Lib.hid (HT0.out.trans t1 (fun _ _ e => e))
    have HB1 := Lib.hid ((Touch.refl (fun _ => False) w1).drew.blk (t1.blk HB0.out (fun e => e)) (fun e => e))
    have hb1 := HB1.out
    have x0 := hb1.cell 0; have x1 := hb1.cell 1; have x2 := hb1.cell 2; simp at x0 x1 x2
    have hlt := hb1.lt
    have hl0 := encN_len 0 1; have hl1 := encN_len 0 cl; have hl2 := encN_len 0 rq; have hl3 := encN_len 0 i
    clear t1 hb1
    go_wp2_with fail
    refine wp_region_plan [(0, 0), (0, 1), (0, 2), (1, 4), (1, 5), (2, 3), (2, 6), (2, 7), (0, 8)] (fun q => w1.heap.size ≤ q) (by kernel_rfl) (by kernel_rfl) (fun c a d v w h => by cases d <;> exact h) ?_
    iterate 3
      refine plan_s1 rfl (by rfl) (fun Kc hKc => ?_)
      go_simp
      first
        | (refine hKc _ ?_)
      clear hKc Kc
    iterate 2
      apply plan_h
      · rfl
      · rfl
      · intro wh hT
        have hf0 := (hT.cell (p := ⟨w.heap.size, 1, none⟩) hlt (by simp only; have := HT1.out.size; have hz := HB1.out.lt; simp at hz ⊢; omega)).trans x1
        go_simp
        try rfl
      go_frame
    refine plan_a1 rfl (by rfl) (fun Kc hKc => ?_)
    go_simp
    refine (fnum_any 1 _ (by omega)).mono ?_
    rintro e w2 h2
    obtain ⟨v2, rfl, hx2⟩ := OwnX.of (Touch.refl (fun _ => False) w1).drew h2
    have HM := Lib.hid hx2
    have t2 : Touch (fun _ => False) w1.drew w2 := h2.touch
    clear h2 hx2
    refine hKc _ _ ⟨t2.mono (fun _ _ e => e.elim), ?_⟩
    clear hKc Kc
    clear t2
    refine plan_a1 rfl (by rfl) (fun Kc hKc => ?_)
    go_simp
    refine (fnum_any cl _ (by omega)).mono ?_
    rintro e w3 h3
    have t3 : Touch (fun _ => False) w2 w3 := h3.touch
    have HM := Lib.hid (HM.out.far t3)
    obtain ⟨v3, rfl, hx3⟩ := OwnX.of (Touch.refl _ _) h3
    have HX := Lib.hid hx3
    clear h3 hx3
    refine hKc _ _ ⟨t3.mono (fun _ _ e => e.elim), ?_⟩
    clear hKc Kc
    clear t3
    refine plan_a1 rfl (by rfl) (fun Kc hKc => ?_)
    refine own_append_op _ _ rfl _ _ _ _ rfl rfl HM.out HX.out (by omega) ?_
    intro v4 w4 h4 t4
    have HM4 := Lib.hid h4
    refine hKc _ _ ⟨t4.mono (fun q _ e => by simpa using e), ?_⟩
    clear hKc Kc t4 x0 x1 x2
    iterate 1
      refine plan_s1 rfl (by rfl) (fun Kc hKc => ?_)
      go_simp
      first
        | (refine hKc _ ?_)
      clear hKc Kc
    refine plan_done ?_
    have HB1' := Lib.hid (show Blk w1 w.heap.size 35 #[.int .i64 1, .int .u64 (cl : Int), .int .u64 (rq : Int), .int .u64 (i : Int), .int .i64 cn, .int .i64 at_, .int .i64 ca.off, .slice A ca.wk.length k, .slice B ca.cl.length m, .int .i64 tm.cal, .slice D tm.lv.length n, .int .i64 tm.rt, .int .i64 tm.bk] from HB1.out)
    have hb4 := h4.blk HB1'.out
    have x0 := hb4.cell 0; have x1 := hb4.cell 1; have x2 := hb4.cell 2; have x3 := hb4.cell 3; have x4 := hb4.cell 4; have x5 := hb4.cell 5; have x6 := hb4.cell 6; have x7 := hb4.cell 7; have x8 := hb4.cell 8; have x9 := hb4.cell 9; have x10 := hb4.cell 10; have x11 := hb4.cell 11; have x12 := hb4.cell 12; simp at x0 x1 x2 x3 x4 x5 x6 x7 x8 x9 x10 x11 x12
    clear h4 hb4
    go_wp2_with (first
      | (at_builtin; have HMQ := HX5; go_must (refine own_append_list rfl _ _ rfl _ _ _ _ rfl rfl HM5.out HX5.out (by simp only [List.length_append]; omega) ?_); intro v6 w6 h3 t3; have HM6 := Lib.hid h3; have hb := h3.blk HB1'.out; clear x0 x1 x2 x3 x4 x5 x6 x7 x8 x9 x10 x11 x12; have x0 := hb.cell 0; have x1 := hb.cell 1; have x2 := hb.cell 2; have x3 := hb.cell 3; have x4 := hb.cell 4; have x5 := hb.cell 5; have x6 := hb.cell 6; have x7 := hb.cell 7; have x8 := hb.cell 8; have x9 := hb.cell 9; have x10 := hb.cell 10; have x11 := hb.cell 11; have x12 := hb.cell 12; simp at x0 x1 x2 x3 x4 x5 x6 x7 x8 x9 x10 x11 x12; clear h3 t3 hb)
      | (go_at_call 60; have HMQ := HM4; go_must (refine (fnum_any rq _ (by omega)).mono ?_); rintro e w5 h2; have hm2 := HM4.out.far h2.touch; obtain ⟨v5, rfl, hx2⟩ := OwnX.of (Touch.refl _ _) h2; have HM5 := Lib.hid hm2; have HX5 := Lib.hid hx2; clear h2 hm2 hx2))
    have hX := HM6.out
    obtain ⟨A9, c9, rfl, q1, q2, q3, q4⟩ := hX.out
    have HQ := Lib.hid (And.intro q1 (And.intro q2 (And.intro q3 q4)))
    clear q1 q2 q3 q4 hX
    go_wp2_with fail
    show Post (.returned (.tuple #[.slice A9 (encN 0 1 ++ encN 0 cl ++ encN 0 rq).length c9, .int .i64 0])) w6
    obtain ⟨q1, q2, q3, q4⟩ := HQ.out
    exact HY.out _ _ _ _ (encN 0 1 ++ encN 0 cl ++ encN 0 rq) (by rw [HEc.out]; simp [fid, fcal, ftm, fcon, fat, named, encs, encIs]) rfl (q3.mono (fun k hk => Nat.le_trans HT1.out.size hk)) q1 q2 (HT1.out.trans q4 (fun _ _ e => e))
  · obtain ⟨hbd, hw1, hw2⟩ := hcal' rfl
    have HBd := Lib.hid hbd
    clear hbd hcal' htm hcon hn
    go_enter Try.func39, Try.ntmps39
    go_wp2_with fail
    refine (HS.out _ (by exact HR.out.touch HT0.out (fun _ _ e => e))).mono ?_
    rintro e w1 ⟨rfl, t1⟩
    have HT1 := Lib.hid (HT0.out.trans t1 (fun _ _ e => e))
    have HB1 := Lib.hid ((Touch.refl (fun _ => False) w1).drew.blk (t1.blk HB0.out (fun e => e)) (fun e => e))
    have hb1 := HB1.out
    have x0 := hb1.cell 0; have x1 := hb1.cell 1; have x2 := hb1.cell 2; simp at x0 x1 x2
    have hlt := hb1.lt
    have hl0 := encN_len 0 2; have hl1 := encN_len 0 cl; have hl2 := encN_len 0 rq; have hl3 := encN_len 0 i
    clear t1 hb1
    go_wp2_with fail
    refine wp_region_plan [(0, 0), (0, 1), (0, 2), (1, 4), (1, 5), (2, 3), (2, 6), (2, 7), (0, 8)] (fun q => w1.heap.size ≤ q) (by kernel_rfl) (by kernel_rfl) (fun c a d v w h => by cases d <;> exact h) ?_
    iterate 3
      refine plan_s1 rfl (by rfl) (fun Kc hKc => ?_)
      go_simp
      first
        | (refine hKc _ ?_)
      clear hKc Kc
    iterate 2
      apply plan_h
      · rfl
      · rfl
      · intro wh hT
        have hf0 := (hT.cell (p := ⟨w.heap.size, 1, none⟩) hlt (by simp only; have := HT1.out.size; have hz := HB1.out.lt; simp at hz ⊢; omega)).trans x1
        go_simp
        try rfl
      go_frame
    refine plan_a1 rfl (by rfl) (fun Kc hKc => ?_)
    go_simp
    refine (fnum_any 2 _ (by omega)).mono ?_
    rintro e w2 h2
    obtain ⟨v2, rfl, hx2⟩ := OwnX.of (Touch.refl (fun _ => False) w1).drew h2
    have HM := Lib.hid hx2
    have t2 : Touch (fun _ => False) w1.drew w2 := h2.touch
    clear h2 hx2
    refine hKc _ _ ⟨t2.mono (fun _ _ e => e.elim), ?_⟩
    clear hKc Kc
    clear t2
    refine plan_a1 rfl (by rfl) (fun Kc hKc => ?_)
    go_simp
    refine (fnum_any cl _ (by omega)).mono ?_
    rintro e w3 h3
    have t3 : Touch (fun _ => False) w2 w3 := h3.touch
    have HM := Lib.hid (HM.out.far t3)
    obtain ⟨v3, rfl, hx3⟩ := OwnX.of (Touch.refl _ _) h3
    have HX := Lib.hid hx3
    clear h3 hx3
    refine hKc _ _ ⟨t3.mono (fun _ _ e => e.elim), ?_⟩
    clear hKc Kc
    clear t3
    refine plan_a1 rfl (by rfl) (fun Kc hKc => ?_)
    refine own_append_op _ _ rfl _ _ _ _ rfl rfl HM.out HX.out (by omega) ?_
    intro v4 w4 h4 t4
    have HM4 := Lib.hid h4
    refine hKc _ _ ⟨t4.mono (fun q _ e => by simpa using e), ?_⟩
    clear hKc Kc t4 x0 x1 x2
    iterate 1
      refine plan_s1 rfl (by rfl) (fun Kc hKc => ?_)
      go_simp
      first
        | (refine hKc _ ?_)
      clear hKc Kc
    refine plan_done ?_
    have HB1' := Lib.hid (show Blk w1 w.heap.size 35 #[.int .i64 2, .int .u64 (cl : Int), .int .u64 (rq : Int), .int .u64 (i : Int), .int .i64 cn, .int .i64 at_, .int .i64 ca.off, .slice A ca.wk.length k, .slice B ca.cl.length m, .int .i64 tm.cal, .slice D tm.lv.length n, .int .i64 tm.rt, .int .i64 tm.bk] from HB1.out)
    have hb4 := h4.blk HB1'.out
    have x0 := hb4.cell 0; have x1 := hb4.cell 1; have x2 := hb4.cell 2; have x3 := hb4.cell 3; have x4 := hb4.cell 4; have x5 := hb4.cell 5; have x6 := hb4.cell 6; have x7 := hb4.cell 7; have x8 := hb4.cell 8; have x9 := hb4.cell 9; have x10 := hb4.cell 10; have x11 := hb4.cell 11; have x12 := hb4.cell 12; simp at x0 x1 x2 x3 x4 x5 x6 x7 x8 x9 x10 x11 x12
    clear h4 hb4
    have hl4 : (encCa ca).length ≤ 60000 := by
      have e1 := encIs_len [ca.off]; have e2 := encRow_len ca.wk; have e3 := encRow_len ca.cl
      simp [encCa] at *; omega
    go_wp2_with (first
      | (at_builtin; have HMQ := HX9; go_must (refine own_append_list rfl _ _ rfl _ _ _ _ rfl rfl HM9.out HX9.out (by simp only [List.length_append]; omega) ?_); intro v10 w10 h3 t3; have HM10 := Lib.hid h3; have hb := h3.blk HB1'.out; clear x0 x1 x2 x3 x4 x5 x6 x7 x8 x9 x10 x11 x12; have x0 := hb.cell 0; have x1 := hb.cell 1; have x2 := hb.cell 2; have x3 := hb.cell 3; have x4 := hb.cell 4; have x5 := hb.cell 5; have x6 := hb.cell 6; have x7 := hb.cell 7; have x8 := hb.cell 8; have x9 := hb.cell 9; have x10 := hb.cell 10; have x11 := hb.cell 11; have x12 := hb.cell 12; simp at x0 x1 x2 x3 x4 x5 x6 x7 x8 x9 x10 x11 x12; clear h3 t3 hb)
      | (go_at_call 61; have HMQ := HM8; go_must (refine (fput10_any F A B k m ca _ (by exact (HR.out.cal.touch HT1.out (fun _ _ e => e)).touch (show Touch (fun _ => False) w1 _ from HM8.out.touch) (fun _ _ e => e)) HBd.out ho hw1 hw2).mono ?_); rintro e w9 h2; have hm2 := HM8.out.far h2.touch; obtain ⟨v9, rfl, hx2⟩ := OwnX.of (Touch.refl _ _) h2; have HM9 := Lib.hid hm2; have HX9 := Lib.hid hx2; clear h2 hm2 hx2)
      | (at_builtin; have HMQ := HX7; go_must (refine own_append_list rfl _ _ rfl _ _ _ _ rfl rfl HM7.out HX7.out (by simp only [List.length_append]; omega) ?_); intro v8 w8 h3 t3; have HM8 := Lib.hid h3; have hb := h3.blk HB1'.out; clear x0 x1 x2 x3 x4 x5 x6 x7 x8 x9 x10 x11 x12; have x0 := hb.cell 0; have x1 := hb.cell 1; have x2 := hb.cell 2; have x3 := hb.cell 3; have x4 := hb.cell 4; have x5 := hb.cell 5; have x6 := hb.cell 6; have x7 := hb.cell 7; have x8 := hb.cell 8; have x9 := hb.cell 9; have x10 := hb.cell 10; have x11 := hb.cell 11; have x12 := hb.cell 12; simp at x0 x1 x2 x3 x4 x5 x6 x7 x8 x9 x10 x11 x12; clear h3 t3 hb)
      | (go_at_call 60; have HMQ := HM6; go_must (refine (fnum_any i _ (by omega)).mono ?_); rintro e w7 h2; have hm2 := HM6.out.far h2.touch; obtain ⟨v7, rfl, hx2⟩ := OwnX.of (Touch.refl _ _) h2; have HM7 := Lib.hid hm2; have HX7 := Lib.hid hx2; clear h2 hm2 hx2)
      | (at_builtin; have HMQ := HX5; go_must (refine own_append_list rfl _ _ rfl _ _ _ _ rfl rfl HM5.out HX5.out (by simp only [List.length_append]; omega) ?_); intro v6 w6 h3 t3; have HM6 := Lib.hid h3; have hb := h3.blk HB1'.out; clear x0 x1 x2 x3 x4 x5 x6 x7 x8 x9 x10 x11 x12; have x0 := hb.cell 0; have x1 := hb.cell 1; have x2 := hb.cell 2; have x3 := hb.cell 3; have x4 := hb.cell 4; have x5 := hb.cell 5; have x6 := hb.cell 6; have x7 := hb.cell 7; have x8 := hb.cell 8; have x9 := hb.cell 9; have x10 := hb.cell 10; have x11 := hb.cell 11; have x12 := hb.cell 12; simp at x0 x1 x2 x3 x4 x5 x6 x7 x8 x9 x10 x11 x12; clear h3 t3 hb)
      | (go_at_call 60; have HMQ := HM4; go_must (refine (fnum_any rq _ (by omega)).mono ?_); rintro e w5 h2; have hm2 := HM4.out.far h2.touch; obtain ⟨v5, rfl, hx2⟩ := OwnX.of (Touch.refl _ _) h2; have HM5 := Lib.hid hm2; have HX5 := Lib.hid hx2; clear h2 hm2 hx2))
    have hX := HM10.out
    obtain ⟨A9, c9, rfl, q1, q2, q3, q4⟩ := hX.out
    have HQ := Lib.hid (And.intro q1 (And.intro q2 (And.intro q3 q4)))
    clear q1 q2 q3 q4 hX
    go_wp2_with fail
    show Post (.returned (.tuple #[.slice A9 (encN 0 2 ++ encN 0 cl ++ encN 0 rq ++ encN 0 i ++ encCa ca).length c9, .int .i64 0])) w10
    obtain ⟨q1, q2, q3, q4⟩ := HQ.out
    exact HY.out _ _ _ _ (encN 0 2 ++ encN 0 cl ++ encN 0 rq ++ encN 0 i ++ encCa ca) (by rw [HEc.out]; simp [fid, fcal, ftm, fcon, fat, named, encs, encIs]) rfl (q3.mono (fun k hk => Nat.le_trans HT1.out.size hk)) q1 q2 (HT1.out.trans q4 (fun _ _ e => e))
  · have HGd := Lib.hid (htm rfl)
    have hgl := good_hd (htm rfl)
    clear hcal' htm hcon hn
    go_enter Try.func39, Try.ntmps39
    go_wp2_with fail
    refine (HS.out _ (by exact HR.out.touch HT0.out (fun _ _ e => e))).mono ?_
    rintro e w1 ⟨rfl, t1⟩
    have HT1 := Lib.hid (HT0.out.trans t1 (fun _ _ e => e))
    have HB1 := Lib.hid ((Touch.refl (fun _ => False) w1).drew.blk (t1.blk HB0.out (fun e => e)) (fun e => e))
    have hb1 := HB1.out
    have x0 := hb1.cell 0; have x1 := hb1.cell 1; have x2 := hb1.cell 2; simp at x0 x1 x2
    have hlt := hb1.lt
    have hl0 := encN_len 0 3; have hl1 := encN_len 0 cl; have hl2 := encN_len 0 rq; have hl3 := encN_len 0 i
    clear t1 hb1
    go_wp2_with fail
    refine wp_region_plan [(0, 0), (0, 1), (0, 2), (1, 4), (1, 5), (2, 3), (2, 6), (2, 7), (0, 8)] (fun q => w1.heap.size ≤ q) (by kernel_rfl) (by kernel_rfl) (fun c a d v w h => by cases d <;> exact h) ?_
    iterate 3
      refine plan_s1 rfl (by rfl) (fun Kc hKc => ?_)
      go_simp
      first
        | (refine hKc _ ?_)
      clear hKc Kc
    iterate 2
      apply plan_h
      · rfl
      · rfl
      · intro wh hT
        have hf0 := (hT.cell (p := ⟨w.heap.size, 1, none⟩) hlt (by simp only; have := HT1.out.size; have hz := HB1.out.lt; simp at hz ⊢; omega)).trans x1
        go_simp
        try rfl
      go_frame
    refine plan_a1 rfl (by rfl) (fun Kc hKc => ?_)
    go_simp
    refine (fnum_any 3 _ (by omega)).mono ?_
    rintro e w2 h2
    obtain ⟨v2, rfl, hx2⟩ := OwnX.of (Touch.refl (fun _ => False) w1).drew h2
    have HM := Lib.hid hx2
    have t2 : Touch (fun _ => False) w1.drew w2 := h2.touch
    clear h2 hx2
    refine hKc _ _ ⟨t2.mono (fun _ _ e => e.elim), ?_⟩
    clear hKc Kc
    clear t2
    refine plan_a1 rfl (by rfl) (fun Kc hKc => ?_)
    go_simp
    refine (fnum_any cl _ (by omega)).mono ?_
    rintro e w3 h3
    have t3 : Touch (fun _ => False) w2 w3 := h3.touch
    have HM := Lib.hid (HM.out.far t3)
    obtain ⟨v3, rfl, hx3⟩ := OwnX.of (Touch.refl _ _) h3
    have HX := Lib.hid hx3
    clear h3 hx3
    refine hKc _ _ ⟨t3.mono (fun _ _ e => e.elim), ?_⟩
    clear hKc Kc
    clear t3
    refine plan_a1 rfl (by rfl) (fun Kc hKc => ?_)
    refine own_append_op _ _ rfl _ _ _ _ rfl rfl HM.out HX.out (by omega) ?_
    intro v4 w4 h4 t4
    have HM4 := Lib.hid h4
    refine hKc _ _ ⟨t4.mono (fun q _ e => by simpa using e), ?_⟩
    clear hKc Kc t4 x0 x1 x2
    iterate 1
      refine plan_s1 rfl (by rfl) (fun Kc hKc => ?_)
      go_simp
      first
        | (refine hKc _ ?_)
      clear hKc Kc
    refine plan_done ?_
    have HB1' := Lib.hid (show Blk w1 w.heap.size 35 #[.int .i64 3, .int .u64 (cl : Int), .int .u64 (rq : Int), .int .u64 (i : Int), .int .i64 cn, .int .i64 at_, .int .i64 ca.off, .slice A ca.wk.length k, .slice B ca.cl.length m, .int .i64 tm.cal, .slice D tm.lv.length n, .int .i64 tm.rt, .int .i64 tm.bk] from HB1.out)
    have hb4 := h4.blk HB1'.out
    have x0 := hb4.cell 0; have x1 := hb4.cell 1; have x2 := hb4.cell 2; have x3 := hb4.cell 3; have x4 := hb4.cell 4; have x5 := hb4.cell 5; have x6 := hb4.cell 6; have x7 := hb4.cell 7; have x8 := hb4.cell 8; have x9 := hb4.cell 9; have x10 := hb4.cell 10; have x11 := hb4.cell 11; have x12 := hb4.cell 12; simp at x0 x1 x2 x3 x4 x5 x6 x7 x8 x9 x10 x11 x12
    clear h4 hb4
    have hl4 := encK_len tm (by omega)
    go_wp2_with (first
      | (at_builtin; have HMQ := HX9; go_must (refine own_append_list rfl _ _ rfl _ _ _ _ rfl rfl HM9.out HX9.out (by simp only [List.length_append]; omega) ?_); intro v10 w10 h3 t3; have HM10 := Lib.hid h3; have hb := h3.blk HB1'.out; clear x0 x1 x2 x3 x4 x5 x6 x7 x8 x9 x10 x11 x12; have x0 := hb.cell 0; have x1 := hb.cell 1; have x2 := hb.cell 2; have x3 := hb.cell 3; have x4 := hb.cell 4; have x5 := hb.cell 5; have x6 := hb.cell 6; have x7 := hb.cell 7; have x8 := hb.cell 8; have x9 := hb.cell 9; have x10 := hb.cell 10; have x11 := hb.cell 11; have x12 := hb.cell 12; simp at x0 x1 x2 x3 x4 x5 x6 x7 x8 x9 x10 x11 x12; clear h3 t3 hb)
      | (go_at_call 62; have HMQ := HM8; go_must (refine (fputk_any tm F D n _ (by exact (HR.out.tm.touch HT1.out (fun _ _ e => e)).touch (show Touch (fun _ => False) w1 _ from HM8.out.touch) (fun _ _ e => e)) HGd.out).mono ?_); rintro e w9 h2; have hm2 := HM8.out.far h2.touch; obtain ⟨v9, rfl, hx2⟩ := OwnX.of (Touch.refl _ _) h2; have HM9 := Lib.hid hm2; have HX9 := Lib.hid hx2; clear h2 hm2 hx2)
      | (at_builtin; have HMQ := HX7; go_must (refine own_append_list rfl _ _ rfl _ _ _ _ rfl rfl HM7.out HX7.out (by simp only [List.length_append]; omega) ?_); intro v8 w8 h3 t3; have HM8 := Lib.hid h3; have hb := h3.blk HB1'.out; clear x0 x1 x2 x3 x4 x5 x6 x7 x8 x9 x10 x11 x12; have x0 := hb.cell 0; have x1 := hb.cell 1; have x2 := hb.cell 2; have x3 := hb.cell 3; have x4 := hb.cell 4; have x5 := hb.cell 5; have x6 := hb.cell 6; have x7 := hb.cell 7; have x8 := hb.cell 8; have x9 := hb.cell 9; have x10 := hb.cell 10; have x11 := hb.cell 11; have x12 := hb.cell 12; simp at x0 x1 x2 x3 x4 x5 x6 x7 x8 x9 x10 x11 x12; clear h3 t3 hb)
      | (go_at_call 60; have HMQ := HM6; go_must (refine (fnum_any i _ (by omega)).mono ?_); rintro e w7 h2; have hm2 := HM6.out.far h2.touch; obtain ⟨v7, rfl, hx2⟩ := OwnX.of (Touch.refl _ _) h2; have HM7 := Lib.hid hm2; have HX7 := Lib.hid hx2; clear h2 hm2 hx2)
      | (at_builtin; have HMQ := HX5; go_must (refine own_append_list rfl _ _ rfl _ _ _ _ rfl rfl HM5.out HX5.out (by simp only [List.length_append]; omega) ?_); intro v6 w6 h3 t3; have HM6 := Lib.hid h3; have hb := h3.blk HB1'.out; clear x0 x1 x2 x3 x4 x5 x6 x7 x8 x9 x10 x11 x12; have x0 := hb.cell 0; have x1 := hb.cell 1; have x2 := hb.cell 2; have x3 := hb.cell 3; have x4 := hb.cell 4; have x5 := hb.cell 5; have x6 := hb.cell 6; have x7 := hb.cell 7; have x8 := hb.cell 8; have x9 := hb.cell 9; have x10 := hb.cell 10; have x11 := hb.cell 11; have x12 := hb.cell 12; simp at x0 x1 x2 x3 x4 x5 x6 x7 x8 x9 x10 x11 x12; clear h3 t3 hb)
      | (go_at_call 60; have HMQ := HM4; go_must (refine (fnum_any rq _ (by omega)).mono ?_); rintro e w5 h2; have hm2 := HM4.out.far h2.touch; obtain ⟨v5, rfl, hx2⟩ := OwnX.of (Touch.refl _ _) h2; have HM5 := Lib.hid hm2; have HX5 := Lib.hid hx2; clear h2 hm2 hx2))
    have hX := HM10.out
    obtain ⟨A9, c9, rfl, q1, q2, q3, q4⟩ := hX.out
    have HQ := Lib.hid (And.intro q1 (And.intro q2 (And.intro q3 q4)))
    clear q1 q2 q3 q4 hX
    go_wp2_with fail
    show Post (.returned (.tuple #[.slice A9 (encN 0 3 ++ encN 0 cl ++ encN 0 rq ++ encN 0 i ++ encK tm).length c9, .int .i64 0])) w10
    obtain ⟨q1, q2, q3, q4⟩ := HQ.out
    exact HY.out _ _ _ _ (encN 0 3 ++ encN 0 cl ++ encN 0 rq ++ encN 0 i ++ encK tm) (by rw [HEc.out]; simp [fid, fcal, ftm, fcon, fat, named, encs, encIs]) rfl (q3.mono (fun k hk => Nat.le_trans HT1.out.size hk)) q1 q2 (HT1.out.trans q4 (fun _ _ e => e))
  · obtain ⟨hc0, hc1⟩ := hcon rfl rfl
    obtain ⟨cn, rfl⟩ : ∃ q : Nat, cn = (q : Int) := ⟨cn.toNat, by omega⟩
    have hcv : IntKind.u64.wrap ((cn : Nat) : Int) = ((cn : Nat) : Int) := IntWalk.u64_in _ (by omega)
    clear hcal' htm hcon hn
    go_enter Try.func39, Try.ntmps39
    go_wp2_with fail
    refine (HS.out _ (by exact HR.out.touch HT0.out (fun _ _ e => e))).mono ?_
    rintro e w1 ⟨rfl, t1⟩
    have HT1 := Lib.hid (HT0.out.trans t1 (fun _ _ e => e))
    have HB1 := Lib.hid ((Touch.refl (fun _ => False) w1).drew.blk (t1.blk HB0.out (fun e => e)) (fun e => e))
    have hb1 := HB1.out
    have x0 := hb1.cell 0; have x1 := hb1.cell 1; have x2 := hb1.cell 2; simp at x0 x1 x2
    have hlt := hb1.lt
    have hl0 := encN_len 0 4; have hl1 := encN_len 0 cl; have hl2 := encN_len 0 rq; have hl3 := encN_len 0 i
    clear t1 hb1
    go_wp2_with fail
    refine wp_region_plan [(0, 0), (0, 1), (0, 2), (1, 4), (1, 5), (2, 3), (2, 6), (2, 7), (0, 8)] (fun q => w1.heap.size ≤ q) (by kernel_rfl) (by kernel_rfl) (fun c a d v w h => by cases d <;> exact h) ?_
    iterate 3
      refine plan_s1 rfl (by rfl) (fun Kc hKc => ?_)
      go_simp
      first
        | (refine hKc _ ?_)
      clear hKc Kc
    iterate 2
      apply plan_h
      · rfl
      · rfl
      · intro wh hT
        have hf0 := (hT.cell (p := ⟨w.heap.size, 1, none⟩) hlt (by simp only; have := HT1.out.size; have hz := HB1.out.lt; simp at hz ⊢; omega)).trans x1
        go_simp
        try rfl
      go_frame
    refine plan_a1 rfl (by rfl) (fun Kc hKc => ?_)
    go_simp
    refine (fnum_any 4 _ (by omega)).mono ?_
    rintro e w2 h2
    obtain ⟨v2, rfl, hx2⟩ := OwnX.of (Touch.refl (fun _ => False) w1).drew h2
    have HM := Lib.hid hx2
    have t2 : Touch (fun _ => False) w1.drew w2 := h2.touch
    clear h2 hx2
    refine hKc _ _ ⟨t2.mono (fun _ _ e => e.elim), ?_⟩
    clear hKc Kc
    clear t2
    refine plan_a1 rfl (by rfl) (fun Kc hKc => ?_)
    go_simp
    refine (fnum_any cl _ (by omega)).mono ?_
    rintro e w3 h3
    have t3 : Touch (fun _ => False) w2 w3 := h3.touch
    have HM := Lib.hid (HM.out.far t3)
    obtain ⟨v3, rfl, hx3⟩ := OwnX.of (Touch.refl _ _) h3
    have HX := Lib.hid hx3
    clear h3 hx3
    refine hKc _ _ ⟨t3.mono (fun _ _ e => e.elim), ?_⟩
    clear hKc Kc
    clear t3
    refine plan_a1 rfl (by rfl) (fun Kc hKc => ?_)
    refine own_append_op _ _ rfl _ _ _ _ rfl rfl HM.out HX.out (by omega) ?_
    intro v4 w4 h4 t4
    have HM4 := Lib.hid h4
    refine hKc _ _ ⟨t4.mono (fun q _ e => by simpa using e), ?_⟩
    clear hKc Kc t4 x0 x1 x2
    iterate 1
      refine plan_s1 rfl (by rfl) (fun Kc hKc => ?_)
      go_simp
      first
        | (refine hKc _ ?_)
      clear hKc Kc
    refine plan_done ?_
    have HB1' := Lib.hid (show Blk w1 w.heap.size 35 #[.int .i64 4, .int .u64 (cl : Int), .int .u64 (rq : Int), .int .u64 (i : Int), .int .i64 (cn : Int), .int .i64 at_, .int .i64 ca.off, .slice A ca.wk.length k, .slice B ca.cl.length m, .int .i64 tm.cal, .slice D tm.lv.length n, .int .i64 tm.rt, .int .i64 tm.bk] from HB1.out)
    have hb4 := h4.blk HB1'.out
    have x0 := hb4.cell 0; have x1 := hb4.cell 1; have x2 := hb4.cell 2; have x3 := hb4.cell 3; have x4 := hb4.cell 4; have x5 := hb4.cell 5; have x6 := hb4.cell 6; have x7 := hb4.cell 7; have x8 := hb4.cell 8; have x9 := hb4.cell 9; have x10 := hb4.cell 10; have x11 := hb4.cell 11; have x12 := hb4.cell 12; simp at x0 x1 x2 x3 x4 x5 x6 x7 x8 x9 x10 x11 x12
    clear h4 hb4
    have hl4 := encN_len 0 cn
    go_wp2_with (first
      | (at_builtin; have HMQ := HX9; go_must (refine own_append_list rfl _ _ rfl _ _ _ _ rfl rfl HM9.out HX9.out (by simp only [List.length_append]; omega) ?_); intro v10 w10 h3 t3; have HM10 := Lib.hid h3; have hb := h3.blk HB1'.out; clear x0 x1 x2 x3 x4 x5 x6 x7 x8 x9 x10 x11 x12; have x0 := hb.cell 0; have x1 := hb.cell 1; have x2 := hb.cell 2; have x3 := hb.cell 3; have x4 := hb.cell 4; have x5 := hb.cell 5; have x6 := hb.cell 6; have x7 := hb.cell 7; have x8 := hb.cell 8; have x9 := hb.cell 9; have x10 := hb.cell 10; have x11 := hb.cell 11; have x12 := hb.cell 12; simp at x0 x1 x2 x3 x4 x5 x6 x7 x8 x9 x10 x11 x12; clear h3 t3 hb)
      | (go_at_call 60; have HMQ := HM8; go_must (refine (fnum_any cn _ (by omega)).mono ?_); rintro e w9 h2; have hm2 := HM8.out.far h2.touch; obtain ⟨v9, rfl, hx2⟩ := OwnX.of (Touch.refl _ _) h2; have HM9 := Lib.hid hm2; have HX9 := Lib.hid hx2; clear h2 hm2 hx2)
      | (at_builtin; have HMQ := HX7; go_must (refine own_append_list rfl _ _ rfl _ _ _ _ rfl rfl HM7.out HX7.out (by simp only [List.length_append]; omega) ?_); intro v8 w8 h3 t3; have HM8 := Lib.hid h3; have hb := h3.blk HB1'.out; clear x0 x1 x2 x3 x4 x5 x6 x7 x8 x9 x10 x11 x12; have x0 := hb.cell 0; have x1 := hb.cell 1; have x2 := hb.cell 2; have x3 := hb.cell 3; have x4 := hb.cell 4; have x5 := hb.cell 5; have x6 := hb.cell 6; have x7 := hb.cell 7; have x8 := hb.cell 8; have x9 := hb.cell 9; have x10 := hb.cell 10; have x11 := hb.cell 11; have x12 := hb.cell 12; simp at x0 x1 x2 x3 x4 x5 x6 x7 x8 x9 x10 x11 x12; clear h3 t3 hb)
      | (go_at_call 60; have HMQ := HM6; go_must (refine (fnum_any i _ (by omega)).mono ?_); rintro e w7 h2; have hm2 := HM6.out.far h2.touch; obtain ⟨v7, rfl, hx2⟩ := OwnX.of (Touch.refl _ _) h2; have HM7 := Lib.hid hm2; have HX7 := Lib.hid hx2; clear h2 hm2 hx2)
      | (at_builtin; have HMQ := HX5; go_must (refine own_append_list rfl _ _ rfl _ _ _ _ rfl rfl HM5.out HX5.out (by simp only [List.length_append]; omega) ?_); intro v6 w6 h3 t3; have HM6 := Lib.hid h3; have hb := h3.blk HB1'.out; clear x0 x1 x2 x3 x4 x5 x6 x7 x8 x9 x10 x11 x12; have x0 := hb.cell 0; have x1 := hb.cell 1; have x2 := hb.cell 2; have x3 := hb.cell 3; have x4 := hb.cell 4; have x5 := hb.cell 5; have x6 := hb.cell 6; have x7 := hb.cell 7; have x8 := hb.cell 8; have x9 := hb.cell 9; have x10 := hb.cell 10; have x11 := hb.cell 11; have x12 := hb.cell 12; simp at x0 x1 x2 x3 x4 x5 x6 x7 x8 x9 x10 x11 x12; clear h3 t3 hb)
      | (go_at_call 60; have HMQ := HM4; go_must (refine (fnum_any rq _ (by omega)).mono ?_); rintro e w5 h2; have hm2 := HM4.out.far h2.touch; obtain ⟨v5, rfl, hx2⟩ := OwnX.of (Touch.refl _ _) h2; have HM5 := Lib.hid hm2; have HX5 := Lib.hid hx2; clear h2 hm2 hx2))
    have hX := HM10.out
    obtain ⟨A9, c9, rfl, q1, q2, q3, q4⟩ := hX.out
    have HQ := Lib.hid (And.intro q1 (And.intro q2 (And.intro q3 q4)))
    clear q1 q2 q3 q4 hX
    go_wp2_with fail
    show Post (.returned (.tuple #[.slice A9 (encN 0 4 ++ encN 0 cl ++ encN 0 rq ++ encN 0 i ++ encN 0 cn).length c9, .int .i64 0])) w10
    obtain ⟨q1, q2, q3, q4⟩ := HQ.out
    exact HY.out _ _ _ _ (encN 0 4 ++ encN 0 cl ++ encN 0 rq ++ encN 0 i ++ encN 0 cn) (by rw [HEc.out]; simp [fid, fcal, ftm, fcon, fat, named, encs, encIs]) rfl (q3.mono (fun k hk => Nat.le_trans HT1.out.size hk)) q1 q2 (HT1.out.trans q4 (fun _ _ e => e))
  · clear hcal' htm hcon hn
    go_enter Try.func39, Try.ntmps39
    go_wp2_with fail
    refine (HS.out _ (by exact HR.out.touch HT0.out (fun _ _ e => e))).mono ?_
    rintro e w1 ⟨rfl, t1⟩
    have HT1 := Lib.hid (HT0.out.trans t1 (fun _ _ e => e))
    have HB1 := Lib.hid ((Touch.refl (fun _ => False) w1).drew.blk (t1.blk HB0.out (fun e => e)) (fun e => e))
    have hb1 := HB1.out
    have x0 := hb1.cell 0; have x1 := hb1.cell 1; have x2 := hb1.cell 2; simp at x0 x1 x2
    have hlt := hb1.lt
    have hl0 := encN_len 0 9; have hl1 := encN_len 0 cl; have hl2 := encN_len 0 rq; have hl3 := encN_len 0 i
    clear t1 hb1
    go_wp2_with fail
    refine wp_region_plan [(0, 0), (0, 1), (0, 2), (1, 4), (1, 5), (2, 3), (2, 6), (2, 7), (0, 8)] (fun q => w1.heap.size ≤ q) (by kernel_rfl) (by kernel_rfl) (fun c a d v w h => by cases d <;> exact h) ?_
    iterate 3
      refine plan_s1 rfl (by rfl) (fun Kc hKc => ?_)
      go_simp
      first
        | (refine hKc _ ?_)
      clear hKc Kc
    iterate 2
      apply plan_h
      · rfl
      · rfl
      · intro wh hT
        have hf0 := (hT.cell (p := ⟨w.heap.size, 1, none⟩) hlt (by simp only; have := HT1.out.size; have hz := HB1.out.lt; simp at hz ⊢; omega)).trans x1
        go_simp
        try rfl
      go_frame
    refine plan_a1 rfl (by rfl) (fun Kc hKc => ?_)
    go_simp
    refine (fnum_any 9 _ (by omega)).mono ?_
    rintro e w2 h2
    obtain ⟨v2, rfl, hx2⟩ := OwnX.of (Touch.refl (fun _ => False) w1).drew h2
    have HM := Lib.hid hx2
    have t2 : Touch (fun _ => False) w1.drew w2 := h2.touch
    clear h2 hx2
    refine hKc _ _ ⟨t2.mono (fun _ _ e => e.elim), ?_⟩
    clear hKc Kc
    clear t2
    refine plan_a1 rfl (by rfl) (fun Kc hKc => ?_)
    go_simp
    refine (fnum_any cl _ (by omega)).mono ?_
    rintro e w3 h3
    have t3 : Touch (fun _ => False) w2 w3 := h3.touch
    have HM := Lib.hid (HM.out.far t3)
    obtain ⟨v3, rfl, hx3⟩ := OwnX.of (Touch.refl _ _) h3
    have HX := Lib.hid hx3
    clear h3 hx3
    refine hKc _ _ ⟨t3.mono (fun _ _ e => e.elim), ?_⟩
    clear hKc Kc
    clear t3
    refine plan_a1 rfl (by rfl) (fun Kc hKc => ?_)
    refine own_append_op _ _ rfl _ _ _ _ rfl rfl HM.out HX.out (by omega) ?_
    intro v4 w4 h4 t4
    have HM4 := Lib.hid h4
    refine hKc _ _ ⟨t4.mono (fun q _ e => by simpa using e), ?_⟩
    clear hKc Kc t4 x0 x1 x2
    iterate 1
      refine plan_s1 rfl (by rfl) (fun Kc hKc => ?_)
      go_simp
      first
        | (refine hKc _ ?_)
      clear hKc Kc
    refine plan_done ?_
    have HB1' := Lib.hid (show Blk w1 w.heap.size 35 #[.int .i64 9, .int .u64 (cl : Int), .int .u64 (rq : Int), .int .u64 (i : Int), .int .i64 cn, .int .i64 at_, .int .i64 ca.off, .slice A ca.wk.length k, .slice B ca.cl.length m, .int .i64 tm.cal, .slice D tm.lv.length n, .int .i64 tm.rt, .int .i64 tm.bk] from HB1.out)
    have hb4 := h4.blk HB1'.out
    have x0 := hb4.cell 0; have x1 := hb4.cell 1; have x2 := hb4.cell 2; have x3 := hb4.cell 3; have x4 := hb4.cell 4; have x5 := hb4.cell 5; have x6 := hb4.cell 6; have x7 := hb4.cell 7; have x8 := hb4.cell 8; have x9 := hb4.cell 9; have x10 := hb4.cell 10; have x11 := hb4.cell 11; have x12 := hb4.cell 12; simp at x0 x1 x2 x3 x4 x5 x6 x7 x8 x9 x10 x11 x12
    clear h4 hb4
    have hl4 := encI_len at_
    go_wp2_with (first
      | (at_builtin; have HMQ := HX7; go_must (refine own_append_list rfl _ _ rfl _ _ _ _ rfl rfl HM7.out HX7.out (by simp only [List.length_append]; omega) ?_); intro v8 w8 h3 t3; have HM8 := Lib.hid h3; have hb := h3.blk HB1'.out; clear x0 x1 x2 x3 x4 x5 x6 x7 x8 x9 x10 x11 x12; have x0 := hb.cell 0; have x1 := hb.cell 1; have x2 := hb.cell 2; have x3 := hb.cell 3; have x4 := hb.cell 4; have x5 := hb.cell 5; have x6 := hb.cell 6; have x7 := hb.cell 7; have x8 := hb.cell 8; have x9 := hb.cell 9; have x10 := hb.cell 10; have x11 := hb.cell 11; have x12 := hb.cell 12; simp at x0 x1 x2 x3 x4 x5 x6 x7 x8 x9 x10 x11 x12; clear h3 t3 hb)
      | (go_at_call 63; have HMQ := HM6; go_must (refine (fint_any at_ _ ha.1 ha.2).mono ?_); rintro e w7 h2; have hm2 := HM6.out.far h2.touch; obtain ⟨v7, rfl, hx2⟩ := OwnX.of (Touch.refl _ _) h2; have HM7 := Lib.hid hm2; have HX7 := Lib.hid hx2; clear h2 hm2 hx2)
      | (at_builtin; have HMQ := HX5; go_must (refine own_append_list rfl _ _ rfl _ _ _ _ rfl rfl HM5.out HX5.out (by simp only [List.length_append]; omega) ?_); intro v6 w6 h3 t3; have HM6 := Lib.hid h3; have hb := h3.blk HB1'.out; clear x0 x1 x2 x3 x4 x5 x6 x7 x8 x9 x10 x11 x12; have x0 := hb.cell 0; have x1 := hb.cell 1; have x2 := hb.cell 2; have x3 := hb.cell 3; have x4 := hb.cell 4; have x5 := hb.cell 5; have x6 := hb.cell 6; have x7 := hb.cell 7; have x8 := hb.cell 8; have x9 := hb.cell 9; have x10 := hb.cell 10; have x11 := hb.cell 11; have x12 := hb.cell 12; simp at x0 x1 x2 x3 x4 x5 x6 x7 x8 x9 x10 x11 x12; clear h3 t3 hb)
      | (go_at_call 60; have HMQ := HM4; go_must (refine (fnum_any rq _ (by omega)).mono ?_); rintro e w5 h2; have hm2 := HM4.out.far h2.touch; obtain ⟨v5, rfl, hx2⟩ := OwnX.of (Touch.refl _ _) h2; have HM5 := Lib.hid hm2; have HX5 := Lib.hid hx2; clear h2 hm2 hx2))
    have hX := HM8.out
    obtain ⟨A9, c9, rfl, q1, q2, q3, q4⟩ := hX.out
    have HQ := Lib.hid (And.intro q1 (And.intro q2 (And.intro q3 q4)))
    clear q1 q2 q3 q4 hX
    go_wp2_with fail
    show Post (.returned (.tuple #[.slice A9 (encN 0 9 ++ encN 0 cl ++ encN 0 rq ++ encI at_).length c9, .int .i64 0])) w8
    obtain ⟨q1, q2, q3, q4⟩ := HQ.out
    exact HY.out _ _ _ _ (encN 0 9 ++ encN 0 cl ++ encN 0 rq ++ encI at_) (by rw [HEc.out]; simp [fid, fcal, ftm, fcon, fat, named, encs, encIs]) rfl (q3.mono (fun k hk => Nat.le_trans HT1.out.size hk)) q1 q2 (HT1.out.trans q4 (fun _ _ e => e))
  · obtain ⟨-, e1, e2, e3, e4, e5⟩ := flds_id hk
    obtain ⟨kn, rfl⟩ : ∃ kn : Nat, kd = (kn : Int) := ⟨kd.toNat, by unfold idOnly at hk; omega⟩
    have hkb : kn ≤ 12 := by unfold idOnly at hk; omega
    have b2 : ((kn : Int) == 2) = false := by simp; unfold idOnly at hk; omega
    have b3 : ((kn : Int) == 3) = false := by simp; unfold idOnly at hk; omega
    have b4 : ((kn : Int) == 4) = false := by simp; unfold idOnly at hk; omega
    have b9 : ((kn : Int) == 9) = false := by simp; unfold idOnly at hk; omega
    have c1 : ((kn : Int) != 1) = true := by simp; unfold idOnly at hk; omega
    have c9 : ((kn : Int) != 9) = true := by simp; unfold idOnly at hk; omega
    have hcv : IntKind.u64.wrap ((kn : Nat) : Int) = ((kn : Nat) : Int) := IntWalk.u64_in _ (by omega)
    rw [e1, e2, e3, e4, e5] at HEc
    simp only [Int.toNat_natCast] at HEc
    clear e1 e2 e3 e4 e5 hn hcal' htm hcon hk
    go_enter Try.func39, Try.ntmps39
    go_wp2_with fail
    refine (HS.out _ (by exact HR.out.touch HT0.out (fun _ _ e => e))).mono ?_
    rintro e w1 ⟨rfl, t1⟩
    have HT1 := Lib.hid (HT0.out.trans t1 (fun _ _ e => e))
    have HB1 := Lib.hid ((Touch.refl (fun _ => False) w1).drew.blk (t1.blk HB0.out (fun e => e)) (fun e => e))
    have hb1 := HB1.out
    have x0 := hb1.cell 0; have x1 := hb1.cell 1; have x2 := hb1.cell 2; simp at x0 x1 x2
    have hlt := hb1.lt
    have hl0 := encN_len 0 kn; have hl1 := encN_len 0 cl; have hl2 := encN_len 0 rq; have hl3 := encN_len 0 i
    clear t1 hb1
    go_wp2_with fail
    refine wp_region_plan [(0, 0), (0, 1), (0, 2), (1, 4), (1, 5), (2, 3), (2, 6), (2, 7), (0, 8)] (fun q => w1.heap.size ≤ q) (by kernel_rfl) (by kernel_rfl) (fun c a d v w h => by cases d <;> exact h) ?_
    iterate 3
      refine plan_s1 rfl (by rfl) (fun Kc hKc => ?_)
      go_simp
      first
        | (refine hKc _ ?_)
      clear hKc Kc
    iterate 2
      apply plan_h
      · rfl
      · rfl
      · intro wh hT
        have hf0 := (hT.cell (p := ⟨w.heap.size, 1, none⟩) hlt (by simp only; have := HT1.out.size; have hz := HB1.out.lt; simp at hz ⊢; omega)).trans x1
        go_simp
        try rfl
      go_frame
    refine plan_a1 rfl (by rfl) (fun Kc hKc => ?_)
    go_simp
    refine (fnum_any kn _ (by omega)).mono ?_
    rintro e w2 h2
    obtain ⟨v2, rfl, hx2⟩ := OwnX.of (Touch.refl (fun _ => False) w1).drew h2
    have HM := Lib.hid hx2
    have t2 : Touch (fun _ => False) w1.drew w2 := h2.touch
    clear h2 hx2
    refine hKc _ _ ⟨t2.mono (fun _ _ e => e.elim), ?_⟩
    clear hKc Kc
    clear t2
    refine plan_a1 rfl (by rfl) (fun Kc hKc => ?_)
    go_simp
    refine (fnum_any cl _ (by omega)).mono ?_
    rintro e w3 h3
    have t3 : Touch (fun _ => False) w2 w3 := h3.touch
    have HM := Lib.hid (HM.out.far t3)
    obtain ⟨v3, rfl, hx3⟩ := OwnX.of (Touch.refl _ _) h3
    have HX := Lib.hid hx3
    clear h3 hx3
    refine hKc _ _ ⟨t3.mono (fun _ _ e => e.elim), ?_⟩
    clear hKc Kc
    clear t3
    refine plan_a1 rfl (by rfl) (fun Kc hKc => ?_)
    refine own_append_op _ _ rfl _ _ _ _ rfl rfl HM.out HX.out (by omega) ?_
    intro v4 w4 h4 t4
    have HM4 := Lib.hid h4
    refine hKc _ _ ⟨t4.mono (fun q _ e => by simpa using e), ?_⟩
    clear hKc Kc t4 x0 x1 x2
    iterate 1
      refine plan_s1 rfl (by rfl) (fun Kc hKc => ?_)
      go_simp
      first
        | (refine hKc _ ?_)
      clear hKc Kc
    refine plan_done ?_
    have HB1' := Lib.hid (show Blk w1 w.heap.size 35 #[.int .i64 (kn : Int), .int .u64 (cl : Int), .int .u64 (rq : Int), .int .u64 (i : Int), .int .i64 cn, .int .i64 at_, .int .i64 ca.off, .slice A ca.wk.length k, .slice B ca.cl.length m, .int .i64 tm.cal, .slice D tm.lv.length n, .int .i64 tm.rt, .int .i64 tm.bk] from HB1.out)
    have hb4 := h4.blk HB1'.out
    have x0 := hb4.cell 0; have x1 := hb4.cell 1; have x2 := hb4.cell 2; have x3 := hb4.cell 3; have x4 := hb4.cell 4; have x5 := hb4.cell 5; have x6 := hb4.cell 6; have x7 := hb4.cell 7; have x8 := hb4.cell 8; have x9 := hb4.cell 9; have x10 := hb4.cell 10; have x11 := hb4.cell 11; have x12 := hb4.cell 12; simp at x0 x1 x2 x3 x4 x5 x6 x7 x8 x9 x10 x11 x12
    clear h4 hb4
    go_wp2_with (first
      | (at_builtin; have HMQ := HX7; go_must (refine own_append_list rfl _ _ rfl _ _ _ _ rfl rfl HM7.out HX7.out (by simp only [List.length_append]; omega) ?_); intro v8 w8 h3 t3; have HM8 := Lib.hid h3; have hb := h3.blk HB1'.out; clear x0 x1 x2 x3 x4 x5 x6 x7 x8 x9 x10 x11 x12; have x0 := hb.cell 0; have x1 := hb.cell 1; have x2 := hb.cell 2; have x3 := hb.cell 3; have x4 := hb.cell 4; have x5 := hb.cell 5; have x6 := hb.cell 6; have x7 := hb.cell 7; have x8 := hb.cell 8; have x9 := hb.cell 9; have x10 := hb.cell 10; have x11 := hb.cell 11; have x12 := hb.cell 12; simp at x0 x1 x2 x3 x4 x5 x6 x7 x8 x9 x10 x11 x12; clear h3 t3 hb)
      | (go_at_call 60; have HMQ := HM6; go_must (refine (fnum_any i _ (by omega)).mono ?_); rintro e w7 h2; have hm2 := HM6.out.far h2.touch; obtain ⟨v7, rfl, hx2⟩ := OwnX.of (Touch.refl _ _) h2; have HM7 := Lib.hid hm2; have HX7 := Lib.hid hx2; clear h2 hm2 hx2)
      | (at_builtin; have HMQ := HX5; go_must (refine own_append_list rfl _ _ rfl _ _ _ _ rfl rfl HM5.out HX5.out (by simp only [List.length_append]; omega) ?_); intro v6 w6 h3 t3; have HM6 := Lib.hid h3; have hb := h3.blk HB1'.out; clear x0 x1 x2 x3 x4 x5 x6 x7 x8 x9 x10 x11 x12; have x0 := hb.cell 0; have x1 := hb.cell 1; have x2 := hb.cell 2; have x3 := hb.cell 3; have x4 := hb.cell 4; have x5 := hb.cell 5; have x6 := hb.cell 6; have x7 := hb.cell 7; have x8 := hb.cell 8; have x9 := hb.cell 9; have x10 := hb.cell 10; have x11 := hb.cell 11; have x12 := hb.cell 12; simp at x0 x1 x2 x3 x4 x5 x6 x7 x8 x9 x10 x11 x12; clear h3 t3 hb)
      | (go_at_call 60; have HMQ := HM4; go_must (refine (fnum_any rq _ (by omega)).mono ?_); rintro e w5 h2; have hm2 := HM4.out.far h2.touch; obtain ⟨v5, rfl, hx2⟩ := OwnX.of (Touch.refl _ _) h2; have HM5 := Lib.hid hm2; have HX5 := Lib.hid hx2; clear h2 hm2 hx2))
    have hX := HM8.out
    obtain ⟨A9, c9, rfl, q1, q2, q3, q4⟩ := hX.out
    have HQ := Lib.hid (And.intro q1 (And.intro q2 (And.intro q3 q4)))
    clear q1 q2 q3 q4 hX
    go_wp2_with fail
    show Post (.returned (.tuple #[.slice A9 (encN 0 kn ++ encN 0 cl ++ encN 0 rq ++ encN 0 i).length c9, .int .i64 0])) w8
    obtain ⟨q1, q2, q3, q4⟩ := HQ.out
    exact HY.out _ _ _ _ (encN 0 kn ++ encN 0 cl ++ encN 0 rq ++ encN 0 i) (by rw [HEc.out]; simp [encs]) rfl (q3.mono (fun k hk => Nat.le_trans HT1.out.size hk)) q1 q2 (HT1.out.trans q4 (fun _ _ e => e))
end Go.Proofs.Ytlcefchbfjfifaa
end
