/- contract.Put. (written by genctb.py) ref14.Put: the same bytes. (written by genctc.py) -/
import Derived.Test.YtlcefchbfjfifaaGreatVChA
import Derived.Test.YtlcefchbfjfifaaGreatVCcB
import Derived.Test.YtlcefchbfjfifaaGreatVQuillF
section
namespace Go.Proofs.YtlcefchbfjfifaaGreat
open Go.RowKit Cal
set_option maxHeartbeats 4000000
set_option maxRecDepth 100000
set_option linter.unusedVariables false
attribute [local irreducible] wpPlan

/-- A contract's bytes. -/
def encK (c : Co) : List UInt8 := encs [c.cal.toNat, c.lv.length] ++ encSps c.lv ++ encs [c.rt.toNat, c.bk.toNat]
theorem encK_len (c : Co) (h : c.lv.length ≤ 60) : (encK c).length ≤ 36 + 18 * c.lv.length := by
  have e1 := encs_len [c.cal.toNat, c.lv.length]; have e2 := encSps_len c.lv; have e3 := encs_len [c.rt.toNat, c.bk.toNat]
  simp [encK] at *; omega
theorem kput_any (g : Nat) (r : Option Nat) (l : List UInt8) (c : Co) (F : Nat → Prop) (A : Option Addr) (n : Nat) (w : World) (h : WAt w g r l) (hr : SpR w F A c.lv.length c.lv) (hF : ∀ q, F q → q ≠ g ∧ r ≠ some q) (hgd : goodB c = true) (hsm : l.length ≤ 50000) :
    Calls Tryz.prog 14 #[.pointer (some ⟨g, 0, none⟩), .agg #[.int .i64 c.cal, .slice A c.lv.length n, .int .i64 c.rt, .int .i64 c.bk]] w (WPost w g r (l ++ encK c)) := by
  have hgl := h.lt
  have hrl := h.ltr
  obtain ⟨b1, b2, b3, b4, b5, b6, b7, b8⟩ := good_hd hgd
  have HBd := Lib.hid (good_lv hgd)
  have HEk := Lib.hid (show encK c = encs [c.cal.toNat, c.lv.length] ++ encSps c.lv ++ encs [c.rt.toNat, c.bk.toNat] from rfl)
  have t0 := (Touch.refl (fun _ => False) w).alloc (.cells #[.int .i64 c.cal, .slice A c.lv.length n, .int .i64 c.rt, .int .i64 c.bk] 24)
  have HT0 := Lib.hid t0
  have HBx := Lib.hid (Blk.new w 24 #[.int .i64 c.cal, .slice A c.lv.length n, .int .i64 c.rt, .int .i64 c.bk])
  have HG := Lib.hid (show WGo (w.alloc (.cells #[.int .i64 c.cal, .slice A c.lv.length n, .int .i64 c.rt, .int .i64 c.bk] 24)) g r l _ from WGo.start (h.touch t0 (fun e => e) (fun _ _ e => e)))
  have HR := Lib.hid (hr.touch t0 (fun _ _ e => e))
  have hg1 : w.heap.size ≠ g := by omega
  have hr1 : r ≠ some w.heap.size := fun e => by have := hrl _ e; omega
  have HF := Lib.hid hF
  generalize encK c = E at *
  obtain ⟨cal, lv, rt, bk⟩ := c
  simp only at *
  obtain ⟨cal, rfl⟩ : ∃ k : Nat, cal = (k : Int) := ⟨cal.toNat, by omega⟩
  obtain ⟨rt, rfl⟩ : ∃ k : Nat, rt = (k : Int) := ⟨rt.toNat, by omega⟩
  obtain ⟨bk, rfl⟩ : ∃ k : Nat, bk = (k : Int) := ⟨bk.toNat, by omega⟩
  simp only [Int.toNat_natCast] at HEk
  clear h hr hF t0 hrl hgd
  have hcv : IntKind.u64.wrap ((lv.length : Nat) : Int) = ((lv.length : Nat) : Int) := IntWalk.u64_in _ (by omega)
  have hcc : IntKind.u64.wrap ((cal : Nat) : Int) = ((cal : Nat) : Int) := IntWalk.u64_in _ (by omega)
  go_enter Tryz.func14, Tryz.ntmps14
  go_wp2_with (go_at_call 41; go_must (refine (wnum_lit HG.out [cal, lv.length] _ (by simp) _ rfl 2 2 rfl (fun n hn => by simp at hn; omega) (by simp; omega)).mono ?_); rintro e w1 ⟨rfl, g1⟩; have HG1 := Lib.hid g1; have hbx := g1.blk HBx.out hg1 hr1; have q1 := hbx.cell 1; simp at q1; clear g1 hbx)
  clear q1 hcv hcc
  go_loopw [19] (fun i wr => ∃ q : Nat, q ≤ lv.length ∧ i = .int .i64 q ∧ WGo (w.alloc (.cells #[.int .i64 (cal : Int), .slice A lv.length n, .int .i64 (rt : Int), .int .i64 (bk : Int)] 24)) g r (l ++ encs [cal, lv.length] ++ encSps (lv.take q)) wr) (fun i _ => lv.length - (intOf i).toNat)
  case atStart => exact ⟨0, by omega, rfl, by simpa [encSps] using HG1.out⟩
  case round =>
    obtain ⟨q, hq, rfl, hG3⟩ := hrel
    have HG3 := Lib.hid hG3
    by_cases hqk : q < lv.length
    · have ha : lv[q]? = some (lv[q]'hqk) := List.getElem?_eq_getElem _
      obtain ⟨gb, off, e0, hgb, -, hc0, hc1⟩ := (HR.out.go hG3 HF.out).at_ ha
      have hbs := HBd.out _ (List.getElem_mem hqk)
      have HTk := Lib.hid (encSps_take lv q _ ha)
      have hl2 := encSps_len (lv.take q)
      have hl3 : (lv.take q).length ≤ 6 := by simp; omega
      generalize lv[q]'hqk = s at *
      obtain ⟨f, t⟩ := s
      simp only at hc0 hc1 hbs HTk
      obtain ⟨c1, c2, c3, c4⟩ := hbs
      obtain ⟨f, rfl⟩ : ∃ f' : Nat, f = (f' : Int) := ⟨f.toNat, by omega⟩
      obtain ⟨t, rfl⟩ : ∃ t' : Nat, t = (t' : Int) := ⟨t.toNat, by omega⟩
      have hcf : IntKind.u64.wrap ((f : Nat) : Int) = (f : Int) := IntWalk.u64_in _ (by omega)
      have hct : IntKind.u64.wrap ((t : Nat) : Int) = (t : Int) := IntWalk.u64_in _ (by omega)
      obtain ⟨Y, hY⟩ : ∃ Y, Y = l ++ encs [cal, lv.length] ++ encSps (lv.take q) := ⟨_, rfl⟩
      have hYl : Y.length ≤ 60000 := by
        have e1 := encs_len [cal, lv.length]
        rw [hY]; simp at e1 ⊢; simp at hl2; omega
      have HYe := Lib.hid hY
      rw [← hY] at HG3 hG3
      have HG3 := Lib.hid (hG3.far ((Touch.refl (fun _ => False) wr).alloc (.cells #[.int .i64 (f : Int), .int .i64 (t : Int)] 68)))
      clear hY ha hl2 hl3 hG3 HBx HG1 HG
      subst_eqs
      go_wp2_with (go_at_call 41; go_must (refine (wnum_lit HG3.out [f, t] _ (by simp) _ rfl 2 2 rfl (fun n hn => by simp at hn; omega) (by simp; omega)).mono ?_); rintro e w4 ⟨rfl, g4⟩; have HG4 := Lib.hid g4; clear g4)
      go_roundw
      case rel => exact ⟨q + 1, by omega, by go_num, by rw [HTk.out]; have := HG4.out; rw [HYe.out] at this; simpa [encS2] using this⟩
      case measure => simp [intOf]; omega
    · obtain rfl : q = lv.length := by omega
      have hG4 := hG3
      rw [List.take_length] at hG4
      obtain ⟨Y, hY⟩ : ∃ Y, Y = l ++ encs [cal, lv.length] ++ encSps lv := ⟨_, rfl⟩
      have hYl : Y.length ≤ 60000 := by
        have e1 := encs_len [cal, lv.length]
        have e2 := encSps_len lv
        rw [hY]; simp at e1 ⊢; omega
      have HYe := Lib.hid hY
      rw [← hY] at hG4
      have HG4 := Lib.hid hG4
      have hbx := hG4.blk HBx.out hg1 hr1
      have q2 := hbx.cell 2; have q3 := hbx.cell 3
      simp at q2 q3
      have hcr : IntKind.u64.wrap ((rt : Nat) : Int) = ((rt : Nat) : Int) := IntWalk.u64_in _ (by omega)
      have hcb : IntKind.u64.wrap ((bk : Nat) : Int) = ((bk : Nat) : Int) := IntWalk.u64_in _ (by omega)
      clear hG3 hG4 hbx HG3 hY HG1 HG
      go_wp2_with (go_at_call 41; go_must (refine (wnum_lit HG4.out [rt, bk] _ (by simp) _ rfl 2 2 rfl (fun n hn => by simp at hn; omega) (by simp; omega)).mono ?_); rintro e w5 ⟨rfl, g5⟩; have HG5 := Lib.hid g5; clear g5)
      go_end0
      have hG := HG5.out
      rw [HYe.out] at hG
      exact ⟨rfl, WGo.next (HT0.out.mono (fun _ _ e => e.elim)) (.inl rfl) (by rw [HEk.out]; simpa using hG)⟩
end Go.Proofs.YtlcefchbfjfifaaGreat
end

section
namespace Go.Proofs.YtlcefchbfjfifaaGreat
open Go.RowKit Cal
set_option maxHeartbeats 4000000
set_option maxRecDepth 100000
set_option linter.unusedVariables false
attribute [local irreducible] wpPlan

theorem fputk_any (c : Co) (F : Nat → Prop) (A : Option Addr) (n : Nat) (w : World) (hr : SpR w F A c.lv.length c.lv) (hgd : goodB c = true) :
    Calls Tryz.prog 18 #[.agg #[.int .i64 c.cal, .slice A c.lv.length n, .int .i64 c.rt, .int .i64 c.bk]] w (NewOwn w (encK c)) := by
  obtain ⟨b1, b2, b3, b4, b5, b6, b7, b8⟩ := good_hd hgd
  have HBd := Lib.hid (good_lv hgd)
  have HEk := Lib.hid (show encK c = encs [c.cal.toNat, c.lv.length] ++ encSps c.lv ++ encs [c.rt.toNat, c.bk.toNat] from rfl)
  have HT0 := Lib.hid ((Touch.refl (fun _ => False) w).alloc (.cells #[.int .i64 c.cal, .slice A c.lv.length n, .int .i64 c.rt, .int .i64 c.bk] 24))
  have HB0 := Lib.hid (Blk.new w 24 #[.int .i64 c.cal, .slice A c.lv.length n, .int .i64 c.rt, .int .i64 c.bk])
  have HR := Lib.hid (hr.touch HT0.out (fun _ _ e => e))
  have hpos : 0 < (encK c).length := by simp [encK, encs, encN]
  generalize encK c = E at *
  obtain ⟨cal, lv, rt, bk⟩ := c
  simp only at *
  obtain ⟨cal, rfl⟩ : ∃ k : Nat, cal = (k : Int) := ⟨cal.toNat, by omega⟩
  obtain ⟨rt, rfl⟩ : ∃ k : Nat, rt = (k : Int) := ⟨rt.toNat, by omega⟩
  obtain ⟨bk, rfl⟩ : ∃ k : Nat, bk = (k : Int) := ⟨bk.toNat, by omega⟩
  simp only [Int.toNat_natCast] at HEk
  have hcv : IntKind.u64.wrap ((lv.length : Nat) : Int) = ((lv.length : Nat) : Int) := IntWalk.u64_in _ (by omega)
  have hcc : IntKind.u64.wrap ((cal : Nat) : Int) = ((cal : Nat) : Int) := IntWalk.u64_in _ (by omega)
  have hl1 := encN_len 0 cal
  have hl2 := encN_len 0 lv.length
  have hl3 := encN_len 0 rt
  have hl4 := encN_len 0 bk
  have hl5 := encSps_len lv
  obtain ⟨W1, hW1⟩ : ∃ W1, W1 = (w.alloc (.cells #[.int .i64 (cal : Int), .slice A lv.length n, .int .i64 (rt : Int), .int .i64 (bk : Int)] 24)) := ⟨_, rfl⟩
  have hs1 : W1.heap.size = w.heap.size + 1 := by rw [hW1]; simp
  rw [← hW1] at HT0 HB0 HR
  have q0 := HB0.out.cell 0; have q1 := HB0.out.cell 1
  simp at q0 q1
  have HWW := Lib.hid hW1
  clear hr hgd hW1
  go_enter Tryz.func18, Tryz.ntmps18
  go_wp2_with fail
  rw [← HWW.out]
  go_wp2_with (first
    | (at_builtin; have HM9 := HX3; go_must (refine own_append_list rfl _ _ rfl _ _ _ _ rfl rfl HM3.out HX3.out (by (try simp); omega) ?_); intro v4 w4 h3 t3; have HM4 := Lib.hid h3; clear h3 t3)
    | (go_at_call 46; have HM9 := HM2; go_must (refine (fnum_any lv.length _ (by omega)).mono ?_); rintro e w3 h2; have hm2 := HM2.out.far h2.touch; obtain ⟨x3, rfl, hx2⟩ := OwnX.of (Touch.refl _ _) h2; have HM3 := Lib.hid hm2; have HX3 := Lib.hid hx2; clear h2 hm2 hx2)
    | (go_at_call 46; go_must (refine (fnum_any cal _ (by omega)).mono ?_); rintro e w2 h2; obtain ⟨x2, rfl, hx2⟩ := OwnX.of (Touch.refl _ _) h2; have hb2 := hx2.blk HB0.out; have HM2 := Lib.hid hx2; clear q0 q1; have q1 := hb2.cell 1; simp at q1; clear h2 hx2 hb2))
  clear q1 hcv hcc
  go_loopw [3, 4] (fun b i wr => ∃ j : Nat, j ≤ lv.length ∧ i = .int .i64 j ∧ OwnX W1 wr (encN 0 cal ++ encN 0 lv.length ++ encSps (lv.take j)) b) (fun _ i _ => lv.length - (intOf i).toNat)
  case atStart => exact ⟨0, by omega, rfl, by simpa [encSps] using HM4.out⟩
  case round =>
    obtain ⟨j, hj, rfl, hM⟩ := hrel
    have HM := Lib.hid hM
    have hbw := hM.blk HB0.out
    have y1 := hbw.cell 1; have y2 := hbw.cell 2; have y3 := hbw.cell 3
    simp at y1 y2 y3
    clear HM2 HM3 HX3 HM4
    by_cases hjk : j < lv.length
    · have ha : lv[j]? = some (lv[j]'hjk) := List.getElem?_eq_getElem _
      obtain ⟨gb, off, rfl, hgb, -, hc0, hc1⟩ := HR.out.at_ ha
      have hbs := HBd.out _ (List.getElem_mem hjk)
      have HTk := Lib.hid (encSps_take lv j _ ha)
      have hl2' := encSps_len (lv.take j)
      have hl3' : (lv.take j).length ≤ 6 := by simp; omega
      generalize lv[j]'hjk = s at *
      obtain ⟨f, t⟩ := s
      simp only at hc0 hc1 hbs HTk
      obtain ⟨c1, c2, c3, c4⟩ := hbs
      obtain ⟨f, rfl⟩ : ∃ f' : Nat, f = (f' : Int) := ⟨f.toNat, by omega⟩
      obtain ⟨t, rfl⟩ : ∃ t' : Nat, t = (t' : Int) := ⟨t.toNat, by omega⟩
      have hcf : IntKind.u64.wrap ((f : Nat) : Int) = (f : Int) := IntWalk.u64_in _ (by omega)
      have hct : IntKind.u64.wrap ((t : Nat) : Int) = (t : Int) := IntWalk.u64_in _ (by omega)
      have hl4' := encN_len 0 f
      have hl5' := encN_len 0 t
      have z0 := (hM.touch.cell (p := ⟨gb, off + j * 2, none⟩) hgb (fun e => e)).trans hc0
      clear ha hbw hM
      go_wp2_with (first
          | (at_builtin; have HM9 := HX7; go_must (refine own_append_list rfl _ _ rfl _ _ _ _ rfl rfl HM7.out HX7.out (by (try simp); omega) ?_); intro v8 w8 h3 t3; have HM8 := Lib.hid h3; clear h3 t3)
          | (go_at_call 46; have HM9 := HM6; go_must (refine (fnum_any t _ (by omega)).mono ?_); rintro e w7 h2; have hm2 := HM6.out.far h2.touch; obtain ⟨x7, rfl, hx2⟩ := OwnX.of (Touch.refl _ _) h2; have HM7 := Lib.hid hm2; have HX7 := Lib.hid hx2; clear h2 hm2 hx2)
          | (at_builtin
             have HM9 := HX5
             go_must (refine own_append_list rfl _ _ rfl _ _ _ _ rfl rfl HM5.out HX5.out (by simp; omega) ?_)
             intro v6 w6 h3 t3
             have HM6 := Lib.hid h3
             have hb6 := h3.blk HB0.out
             clear z0 y1 y2 y3
             have y1 := hb6.cell 1
             simp at y1
             have z1 := (h3.touch.cell (p := ⟨gb, off + j * 2 + 1, none⟩) hgb (fun e => e)).trans hc1
             clear h3 t3 hb6)
          | (go_at_call 46; have HM9 := HM; go_must (refine (fnum_any f _ (by omega)).mono ?_); rintro e w5 h2; have hm2 := HM.out.far h2.touch; obtain ⟨x5, rfl, hx2⟩ := OwnX.of (Touch.refl _ _) h2; have HM5 := Lib.hid hm2; have HX5 := Lib.hid hx2; clear h2 hm2 hx2))
      go_roundw
      case rel => exact ⟨j + 1, by omega, by go_num, by rw [HTk.out]; have := HM8.out; simpa [encS2, encs] using this⟩
      case measure => simp [intOf]; omega
    · obtain rfl : j = lv.length := by omega
      have hm0 := HM.out
      rw [List.take_length] at hm0
      have HM10 := Lib.hid hm0
      have hcr : IntKind.u64.wrap ((rt : Nat) : Int) = ((rt : Nat) : Int) := IntWalk.u64_in _ (by omega)
      have hcb : IntKind.u64.wrap ((bk : Nat) : Int) = ((bk : Nat) : Int) := IntWalk.u64_in _ (by omega)
      clear hm0 hbw hM
      go_wp2_with (first
          | (at_builtin; have HM9 := HX13; go_must (refine own_append_list rfl _ _ rfl _ _ _ _ rfl rfl HM13.out HX13.out (by (try simp); omega) ?_); intro v14 w14 h3 t3; have HM14 := Lib.hid h3; clear h3 t3)
          | (go_at_call 46; have HM9 := HM12; go_must (refine (fnum_any bk _ (by omega)).mono ?_); rintro e w13 h2; have hm2 := HM12.out.far h2.touch; obtain ⟨x13, rfl, hx2⟩ := OwnX.of (Touch.refl _ _) h2; have HM13 := Lib.hid hm2; have HX13 := Lib.hid hx2; clear h2 hm2 hx2)
          | (at_builtin
             have HM9 := HX11
             go_must (refine own_append_list rfl _ _ rfl _ _ _ _ rfl rfl HM11.out HX11.out (by simp; omega) ?_)
             intro v12 w12 h3 t3
             have HM12 := Lib.hid h3
             have hb6 := h3.blk HB0.out
             clear y1 y2 y3
             have y3 := hb6.cell 3
             simp at y3
             clear h3 t3 hb6)
          | (go_at_call 46; have HM9 := HM10; go_must (refine (fnum_any rt _ (by omega)).mono ?_); rintro e w11 h2; have hm2 := HM10.out.far h2.touch; obtain ⟨x11, rfl, hx2⟩ := OwnX.of (Touch.refl _ _) h2; have HM11 := Lib.hid hm2; have HX11 := Lib.hid hx2; clear h2 hm2 hx2))
      go_ret
      exact NewOwn.before HT0.out (OwnX.new (by rw [HEk.out]; have := HM14.out; simpa [encs] using this) hpos)
end Go.Proofs.YtlcefchbfjfifaaGreat
end
