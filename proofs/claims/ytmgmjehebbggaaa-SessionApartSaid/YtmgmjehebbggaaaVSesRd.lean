/- The walk of SessionReads. -/
import Derived.Test.YtmgmjehebbggaaaVSesRc
import Derived.Test.YtmgmjehebbggaaaVSesF
import Derived.Test.YtmgmjehebbggaaaVRepQ
namespace Go.Proofs.Ytmgmjehebbggaaa
open Go.RowKit Go.Maps
set_option maxHeartbeats 4000000
set_option maxRecDepth 100000
set_option linter.unusedVariables false
attribute [local irreducible] wpPlan

theorem sread_no {bad : Bool} {l : List UInt8} (hG : rdSesG (bad, l) = false) (gr : Nat) (Fr : Nat → Prop) (w : World) (h : RdAt w gr Fr l bad) (hg : gr < w.heap.size) (hF : ∀ k, Fr k → k < w.heap.size) :
    Calls Try.prog 19 #[.pointer (some ⟨gr, 0, none⟩)] w fun e w' => e = .returned (.tuple #[.pointer none, .bool false]) ∧ RdAt w' gr Fr [] true ∧ Touch (fun k => k = gr) w w' := by
  refine (sread_any gr Fr bad l w h hg hF).mono ?_
  rintro e w' ⟨-, h2, h3, h4⟩
  rw [rdSesS, if_neg (by rw [hG]; simp)] at h3
  exact ⟨h2 hG, h3, h4⟩
theorem sread_yes {bad : Bool} {l l' : List UInt8} {s : SesS} (hG : rdSesG (bad, l) = true) (hs : (rdSesX (bad, l)).s = s) (hl : rdSesS (bad, l) = (false, l')) (gr : Nat) (Fr : Nat → Prop) (w : World) (h : RdAt w gr Fr l bad) (hg : gr < w.heap.size) (hF : ∀ k, Fr k → k < w.heap.size) :
    Calls Try.prog 19 #[.pointer (some ⟨gr, 0, none⟩)] w fun e w' => ∃ g b, e = .returned (.tuple #[.pointer (some ⟨g, 0, none⟩), .bool true]) ∧ SesAt w' g b s (fun k => w.heap.size ≤ k ∧ k ≠ b) ∧ w.heap.size ≤ g ∧ w.heap.size ≤ b ∧ RdAt w' gr Fr l' false ∧ Touch (fun k => k = gr) w w' := by
  refine (sread_any gr Fr bad l w h hg hF).mono ?_
  rintro e w' ⟨h1, -, h3, h4⟩
  rw [hl] at h3
  rw [hs] at h1
  obtain ⟨g, b, he, h5, h6, h7⟩ := h1 hG
  exact ⟨g, b, he, h5, h6, h7, h3, h4⟩
theorem fread_no {bad : Bool} {l : List UInt8} (hG : rdSesG (bad, l) = false) (gr : Nat) (Fr : Nat → Prop) (w : World) (h : RfAt w gr Fr l bad) (hg : gr < w.heap.size) (hF : ∀ k, Fr k → k < w.heap.size) :
    Calls Try.prog 20 #[.pointer (some ⟨gr, 0, none⟩)] w fun e w' => (∃ T : RT, e = .returned (.tuple #[.agg T.cells, .bool false])) ∧ RfAt w' gr Fr [] true ∧ Touch (fun k => k = gr) w w' := by
  refine (fread20_any gr Fr bad l w h hg hF).mono ?_
  rintro e w' ⟨T, h1, -, h3, h4⟩
  rw [rdSesS, if_neg (by rw [hG]; simp)] at h3
  rw [hG] at h1
  exact ⟨⟨T, h1⟩, h3, h4⟩
theorem fread_yes {bad : Bool} {l l' : List UInt8} {s : SesS} (hG : rdSesG (bad, l) = true) (hs : (rdSesX (bad, l)).s = s) (hl : rdSesS (bad, l) = (false, l')) (gr : Nat) (Fr : Nat → Prop) (w : World) (h : RfAt w gr Fr l bad) (hg : gr < w.heap.size) (hF : ∀ k, Fr k → k < w.heap.size) :
    Calls Try.prog 20 #[.pointer (some ⟨gr, 0, none⟩)] w fun e w' => (∃ T : RT, e = .returned (.tuple #[.agg T.cells, .bool true]) ∧ RTs T s ∧ RTr T s w' (fun k => w.heap.size + 2 ≤ k)) ∧ RfAt w' gr Fr l' false ∧ Touch (fun k => k = gr) w w' := by
  refine (fread20_any gr Fr bad l w h hg hF).mono ?_
  rintro e w' ⟨T, h1, h2, h3, h4⟩
  rw [hl] at h3
  rw [hs] at h2
  rw [hG] at h1
  exact ⟨⟨T, h1, (h2 hG).1, (h2 hG).2⟩, h3, h4⟩
theorem rdSesX_in (st : Bool × List UInt8) : (rdSesX st).In := fRows_in (x0_in _) _
theorem walk_SessionReads {w : World} (A0 : Option Addr) (n0 c0 : Nat) (l0 : List UInt8) (e0 : l0.length = n0) (g0 : A0 = none → c0 = 0) (u0 : n0 ≤ c0) (m0 : c0 ≤ maxLen) (s0 : Rd w (fun k => k < w.heap.size) A0 n0 (l0.map B8)) :
    Calls Try.prog 5 #[.slice A0 n0 c0] w fun e w' => e = .returned (.bool true) ∧ Below w.heap.size w w' := by
  subst e0
  by_cases hbig : 3000 < l0.length
  · have hbig' : (3000 : Int) < l0.length := by omega
    clear s0
    go_enter Try.func5, Try.ntmps5
    go_wp2_with (go_at_call 8; go_must (refine (lives20_any _).mono ?_); rintro e w1 ⟨rfl, t1⟩; have HT := Lib.hid t1; clear t1)
    go_ret
    exact ⟨rfl, HT.out.below⟩
  have hbig' : ¬ (3000 : Int) < l0.length := by omega
  clear hbig
  have HS0 := Lib.hid s0
  clear s0
  obtain ⟨wa, hwa⟩ : ∃ wa, wa = (w.alloc (.cells #[.slice A0 l0.length c0, .bool false] 87)).alloc (.cells #[.slice A0 l0.length c0, .bool false] 58) := ⟨_, rfl⟩
  have HTa := Lib.hid (show Touch (fun _ => False) w wa from hwa ▸ ((Touch.refl _ w).alloc _).alloc _)
  have hza : wa.heap.size = w.heap.size + 2 := by rw [hwa]; simp
  have HD := Lib.hid (show RdAt wa w.heap.size (fun k => k < w.heap.size) l0 false from ⟨by omega, A0, c0, u0, m0, hwa ▸ (Blk.new w 87 #[.slice A0 l0.length c0, .bool false]).alloc _, HS0.out.touch HTa.out (fun _ _ e => e)⟩)
  have HE := Lib.hid (show RfAt wa (w.heap.size + 1) (fun k => k < w.heap.size) l0 false from ⟨by omega, A0, c0, u0, m0, hwa ▸ (by simpa using Blk.new (w.alloc (.cells #[.slice A0 l0.length c0, .bool false] 87)) 58 #[.slice A0 l0.length c0, .bool false]), HS0.out.touch HTa.out (fun _ _ e => e)⟩)
  have HWA := Lib.hid hwa
  have hza' : w.heap.size + 2 ≤ wa.heap.size := by omega
  clear hwa hza
  cases hG : rdSesG (false, l0)
  · have HN := Lib.hid (fun w1 h1 h2 h3 => sread_no hG w.heap.size (fun k => k < w.heap.size) w1 h1 h2 h3)
    have HM := Lib.hid (fun w1 h1 h2 h3 => fread_no hG (w.heap.size + 1) (fun k => k < w.heap.size) w1 h1 h2 h3)
    clear hG
    go_enter Try.func5, Try.ntmps5
    go_wp2_with (go_at_call 18; go_must (refine (open_any _ _ _ _).mono ?_); rintro e w1 ⟨rfl, rfl⟩)
    rw [← HWA.out]
    refine (HN.out wa (by exact HD.out) (by omega) (by intro k hk; omega)).mono ?_
    rintro e wb ⟨rfl, hdb, tb⟩
    have HEb := Lib.hid (rfAt_touch HE.out tb (by omega) (by intro k hk e; omega))
    have HDb := Lib.hid hdb
    have hzb := tb.size
    have HTb := Lib.hid (show Touch (fun _ => False) w wb from (HTa.out.trans tb (fun k hk e => by omega)))
    clear hdb tb
    go_wp2_with fail
    refine (HM.out _ (by exact HEb.out) (by omega) (by intro k hk; omega)).mono ?_
    rintro e wc ⟨⟨T, rfl⟩, hec, tc⟩
    have HDc := Lib.hid (rdAt_touch HDb.out tc (by omega) (by intro k hk e; omega))
    have HEc := Lib.hid hec
    have HTc := Lib.hid (show Touch (fun _ => False) w wc from (HTb.out.trans tc (fun k hk e => by omega)))
    have HCn := Lib.hid T.cells_size
    have HC1 := Lib.hid T.cells_one
    generalize T.cells = C at *
    clear hec tc
    go_wp2_with (refine storeC rowRt _ _ rfl rfl _ _ C rfl rfl rfl (by kernel_rfl) HCn.out HC1.out ?_)
    have HAl := Lib.hid ((Touch.refl (fun _ => False) wc).alloc (.cells C 46))
    generalize hwd : wc.alloc (.cells C 46) = wd at *
    have HDd := Lib.hid (rdAt_touch HDc.out (HAl.out.drew) (fun e => e) (fun _ _ e => e))
    obtain ⟨_, Ae, ce, hle, hme, hbe, _⟩ := rfAt_touch HEc.out (HAl.out.drew) (fun e => e) (fun _ _ e => e)
    have HTd := Lib.hid (HTc.out.trans HAl.out.drew (fun _ _ e => e))
    have y0 := hbe.cell 0; have y1 := hbe.cell 1
    simp at y0 y1
    clear hbe hle hme hwd
    refine wp_region_plan [(0, 0), (0, 1), (0, 2), (0, 3), (0, 4), (0, 5), (0, 6), (0, 7), (0, 8), (0, 9), (0, 10), (0, 11), (0, 12), (0, 13), (0, 14), (0, 15), (0, 16), (0, 17), (0, 18), (0, 19), (0, 20), (0, 21)] (fun _ => False) (by kernel_rfl) (by kernel_rfl) (fun c a d v w h => by cases d <;> exact h) ?_
    iterate 22
      refine plan_s1 rfl (by rfl) (fun Kc hKc => ?_)
      go_simp
      first
        | (refine hKc _ ?_)
        | (refine ⟨_, calls_flip (left_st w.heap.size (fun k => k < w.heap.size) [] true _ (by exact HDd.out)), hKc _ ?_⟩)
        | (refine ⟨_, calls_flip (bad_st w.heap.size (fun k => k < w.heap.size) [] true _ (by exact HDd.out)), hKc _ ?_⟩)
      clear hKc Kc
    refine plan_done ?_
    go_wp2_with (go_at_call 8; go_must (refine (lives20_any _).mono ?_); rintro e w1 ⟨rfl, t1⟩; have HT := Lib.hid (HTd.out.trans t1 (fun _ _ e => e)); clear t1)
    go_ret
    exact ⟨rfl, HT.out.below⟩
  · obtain ⟨l', hl1, -, hl2⟩ := rdSes_split hG
    simp only at hl2
    obtain ⟨s, hs⟩ : ∃ s, (rdSesX (false, l0)).s = s := ⟨_, rfl⟩
    have hgd : SesGood s := hs ▸ (rdSesX_in (false, l0)).good
    have HGd := Lib.hid hgd
    have HN := Lib.hid (fun w1 h1 h2 h3 => sread_yes hG hs hl1 w.heap.size (fun k => k < w.heap.size) w1 h1 h2 h3)
    have HM := Lib.hid (fun w1 h1 h2 h3 => fread_yes hG hs hl1 (w.heap.size + 1) (fun k => k < w.heap.size) w1 h1 h2 h3)
    rw [hs] at hl2
    have hel : (encS s).length + l'.length = l0.length := by rw [hl2]; simp
    have HTk := Lib.hid (show l0.take (encS s).length = encS s from by rw [hl2]; simp)
    clear hG hl1 hl2 hs hgd
    go_enter Try.func5, Try.ntmps5
    go_wp2_with (go_at_call 18; go_must (refine (open_any _ _ _ _).mono ?_); rintro e w1 ⟨rfl, rfl⟩)
    rw [← HWA.out]
    refine (HN.out wa (by exact HD.out) (by omega) (by intro k hk; omega)).mono ?_
    rintro e wb ⟨g, b, rfl, hsb, hgg, hgb, hdb, tb⟩
    have HEb := Lib.hid (rfAt_touch HE.out tb (by omega) (by intro k hk e; omega))
    have HDb := Lib.hid hdb
    have hzb := tb.size
    have hgl := hsb.blk.lt
    have hbl := hsb.map.choose_spec.1.lt
    have HSb := Lib.hid hsb
    have HTb := Lib.hid (show Touch (fun _ => False) w wb from (HTa.out.trans tb (fun k hk e => by omega)))
    clear hdb tb hsb
    go_wp2_with fail
    refine (HM.out _ (by exact HEb.out) (by omega) (by intro k hk; omega)).mono ?_
    rintro e wc ⟨⟨T, rfl, hT, hr⟩, hec, tc⟩
    have HDc := Lib.hid (rdAt_touch HDb.out tc (by omega) (by intro k hk e; omega))
    have HSc := Lib.hid (HSb.out.touch tc (by omega) (by omega) (fun k hk e => by have := hk.1; omega))
    have HEc := Lib.hid hec
    have HT := Lib.hid hT
    have HRr := Lib.hid hr
    have HTc := Lib.hid (show Touch (fun _ => False) w wc from (HTb.out.trans tc (fun k hk e => by omega)))
    have HCn := Lib.hid T.cells_size
    have HC1 := Lib.hid T.cells_one
    have HF := Lib.hid (fun w1 (h1 : RTr T s w1 (fun k => wb.heap.size + 2 ≤ k)) => fput20_any T s HT.out HSb.out.ok HGd.out _ w1 h1)
    generalize T.cells = C at *
    clear hec tc hT hr
    go_wp2_with (refine storeC rowRt _ _ rfl rfl _ _ C rfl rfl rfl (by kernel_rfl) HCn.out HC1.out ?_)
    have HAl := Lib.hid ((Touch.refl (fun _ => False) wc).alloc (.cells C 46))
    have HBc := Lib.hid (Blk.new wc 46 C)
    generalize hwd : wc.alloc (.cells C 46) = wd at *
    have HDd := Lib.hid (rdAt_touch HDc.out (HAl.out.drew) (fun e => e) (fun _ _ e => e))
    obtain ⟨_, Ae, ce, hle, hme, hbe, _⟩ := rfAt_touch HEc.out (HAl.out.drew) (fun e => e) (fun _ _ e => e)
    have y0 := hbe.cell 0; have y1 := hbe.cell 1
    simp at y0 y1
    clear hbe hle hme hwd
    refine wp_region_plan [(0, 0), (0, 1), (0, 2), (0, 3), (0, 4), (0, 5), (0, 6), (0, 7), (0, 8), (0, 9), (0, 10), (0, 11), (0, 12), (0, 13), (0, 14), (0, 15), (0, 16), (0, 17), (0, 18), (0, 19), (0, 20), (0, 21)] (fun _ => False) (by kernel_rfl) (by kernel_rfl) (fun c a d v w h => by cases d <;> exact h) ?_
    iterate 22
      refine plan_s1 rfl (by rfl) (fun Kc hKc => ?_)
      go_simp
      first
        | (refine hKc _ ?_)
        | (refine ⟨_, calls_flip (left_st w.heap.size (fun k => k < w.heap.size) l' false _ (by exact HDd.out)), hKc _ ?_⟩)
        | (refine ⟨_, calls_flip (bad_st w.heap.size (fun k => k < w.heap.size) l' false _ (by exact HDd.out)), hKc _ ?_⟩)
      clear hKc Kc
    refine plan_done ?_
    clear y0 y1
    have HX := Lib.hid (show Touch (fun _ => False) wc wd.drew from HAl.out.drew)
    have HBw := Lib.hid ((Touch.refl (fun _ => False) wd).drew.blk HBc.out (fun e => e))
    generalize wd.drew = we at *
    go_wp2_with fail
    have hx : Touch (fun _ => False) wc we.drew := HX.out.drew
    have HSx := Lib.hid (HSc.out.touch hx (fun e => e) (fun e => e) (fun _ _ e => e))
    have HRx := Lib.hid (HRr.out.touch hx (fun _ _ e => e))
    have HDx := Lib.hid (rdAt_touch HDc.out hx (fun e => e) (fun _ _ e => e))
    have HBx := Lib.hid ((Touch.refl (fun _ => False) we).drew.blk HBw.out (fun e => e))
    have HTx := Lib.hid (HTc.out.trans hx (fun _ _ e => e))
    have HB := Lib.hid (fun w1 (h1 : SesAt w1 g b s (fun k => wa.heap.size ≤ k ∧ k ≠ b)) => bytes20_any g b s _ w1 h1 HGd.out)
    obtain ⟨S, hS⟩ : ∃ S : ByteArray, S = ⟨(encS s).toArray⟩ := ⟨_, rfl⟩
    rw [show strS s = .string S by rw [hS]; rfl] at HB
    have hbe : (S == S) = true := by cases S with | mk d => exact beq_self_eq_true d
    have HV := Lib.hid hS
    clear hS hx
    generalize encS s = E at *
    have hsub : (l0.length : Int) - l'.length = (E.length : Nat) := by omega
    have hec : (E.length : Int) ≤ c0 := by omega
    have hwr : IntKind.i64.wrap (E.length : Int) = E.length := IntWalk.i64_in _ (by unfold maxLen at m0; omega)
    refine wp_region_plan [(0, 0), (1, 2), (1, 3), (1, 4), (1, 5), (2, 1), (0, 6), (0, 7), (0, 8), (0, 9), (0, 10), (0, 11), (0, 12), (1, 14), (2, 13), (2, 15), (0, 16), (0, 17), (0, 18), (0, 19), (2, 20), (0, 21), (0, 22)] (fun _ => False) (by kernel_rfl) (by kernel_rfl) (fun c a d v w h => by cases d <;> exact h) ?_
    iterate 1
      refine plan_s1 rfl (by rfl) (fun Kc hKc => ?_)
      go_simp
      first
        | (refine hKc _ ?_)
      clear hKc Kc
    iterate 4
      apply plan_h
      · rfl
      · rfl
      · intro wh hT
        go_simp
        try rfl
      go_frame
    refine plan_a1 rfl (by rfl) (fun Kc hKc => ?_)
    go_simp
    refine (HB.out _ (by exact HSx.out)).mono ?_
    rintro e w7 ⟨rfl, t7⟩
    refine hKc _ _ ⟨t7, ?_⟩
    clear hKc Kc
    have HS7 := Lib.hid (HSx.out.touch t7 (fun e => e) (fun e => e) (fun _ _ e => e))
    have HR7 := Lib.hid (HRx.out.touch t7 (fun _ _ e => e))
    have HD7 := Lib.hid (rdAt_touch HDx.out t7 (fun e => e) (fun _ _ e => e))
    have HB7 := Lib.hid (t7.blk HBx.out (fun e => e))
    have HT7 := Lib.hid (HTx.out.trans t7 (fun _ _ e => e))
    have hs2 := Rd.str (n := E.length) (l := E) (w := w7) (F := fun k => k < w.heap.size) (A := A0) (by have := (HS0.out.touch HT7.out (fun _ _ e => e)).take (k := E.length) (by omega); rw [← List.map_take, HTk.out] at this; exact this) c0
    rw [← HV.out] at hs2
    clear t7
    iterate 7
      refine plan_s1 rfl (by rfl) (fun Kc hKc => ?_)
      go_simp
      first
        | (refine hKc _ ?_)
        | (refine ⟨_, calls_flip (left_st w.heap.size (fun k => k < w.heap.size) l' false _ (by exact HD7.out)), hKc _ ?_⟩)
      clear hKc Kc
    refine plan_hC rowRt rfl _ rfl rfl wc.heap.size 0 rfl C HCn.out (fun wh hT => (hT.blk HB7.out (fun e => e)).whole) ?_
    go_frame
    clear hs2
    refine plan_a1 rfl (by rfl) (fun Kc hKc => ?_)
    go_simp
    refine (HB.out _ (by exact HS7.out)).mono ?_
    rintro e w8 ⟨rfl, t8⟩
    refine hKc _ _ ⟨t8, ?_⟩
    clear hKc Kc
    have HT8 := Lib.hid (HT7.out.trans t8 (fun _ _ e => e))
    refine plan_a1 rfl (by rfl) (fun Kc hKc => ?_)
    go_simp
    refine (HF.out _ (by exact HR7.out.touch t8 (fun _ _ e => e))).mono ?_
    rintro e w9 ⟨v9, k9, rfl, ho9, hk9, t9⟩
    have HT9 := Lib.hid (HT8.out.trans t9 (fun _ _ e => e))
    refine hKc _ _ ⟨t9, ?_⟩
    clear hKc Kc
    obtain ⟨A9, c9, rfl, -, -, -, hr9⟩ := ho9.rd
    have hst := Rd.str hr9 c9
    try simp only [List.length_map] at hst
    rw [← HV.out] at hst
    clear t8 t9 ho9 hr9 hk9
    try simp only [List.length_map]
    iterate 4
      refine plan_s1 rfl (by rfl) (fun Kc hKc => ?_)
      go_simp
      first
        | (refine hKc _ ?_)
      clear hKc Kc
    refine plan_a1 rfl (by rfl) (fun Kc hKc => ?_)
    go_simp
    refine (lives20_any _).mono ?_
    rintro e wh ⟨rfl, th⟩
    refine hKc _ _ ⟨th, ?_⟩
    clear hKc Kc
    have HTh := Lib.hid (HT9.out.trans th (fun _ _ e => e))
    clear th
    iterate 2
      refine plan_s1 rfl (by rfl) (fun Kc hKc => ?_)
      go_simp
      first
        | (refine hKc _ ?_)
      clear hKc Kc
    refine plan_done ?_
    go_wp2_with fail
    go_ret
    exact ⟨rfl, HTh.out.below⟩
end Go.Proofs.Ytmgmjehebbggaaa
