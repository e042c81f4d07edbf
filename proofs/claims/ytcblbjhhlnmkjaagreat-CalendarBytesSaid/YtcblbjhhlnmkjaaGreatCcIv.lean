/- CalendarBytes walked (written by genci.py). -/
import Derived.Test.YtcblbjhhlnmkjaaGreatV46
namespace Go.Proofs.YtcblbjhhlnmkjaaGreat
open Go.RowKit Cal
set_option maxHeartbeats 4000000
set_option maxRecDepth 100000
set_option linter.unusedVariables false
attribute [local irreducible] wpPlan

theorem left_st (g : Nat) (F : Nat → Prop) (l : List UInt8) (bad : Bool) (w : World) (h : RdAt w g F l bad) :
    Calls Tryz.prog 23 #[.pointer (some ⟨g, 0, none⟩)] w fun e w' => e = .returned (.int .i64 l.length) ∧ w = w' := by
  obtain ⟨_, A, cap, _, _, hb, _⟩ := h
  exact left_any g A l.length cap bad w hb
theorem bad_st (g : Nat) (F : Nat → Prop) (l : List UInt8) (bad : Bool) (w : World) (h : RdAt w g F l bad) :
    Calls Tryz.prog 24 #[.pointer (some ⟨g, 0, none⟩)] w fun e w' => e = .returned (.bool bad) ∧ w = w' := by
  obtain ⟨_, A, cap, _, _, hb, _⟩ := h
  exact bad_any g A l.length cap bad w hb
theorem Rd.insideC {w : World} {F : Nat → Prop} {A : Option Addr} {n : Nat} {xs : List Value} (h : Rd w F A n xs) : Rd w (fun k => F k ∧ k < w.heap.size) A n xs :=
  ⟨h.1, fun hn => by obtain ⟨g, off, e, hl, hf, hc⟩ := h.2 hn; exact ⟨g, off, e, hl, ⟨hf, hl⟩, hc⟩⟩
theorem encCa_len (c : Ca) (h1 : c.wk.length ≤ 60) (h2 : c.cl.length ≤ 60) : (encCa c).length ≤ 5000 := by
  have := encIs_len [c.off]; have := encRow_len c.wk; have := encRow_len c.cl
  simp [encCa] at *; omega
theorem rdRes_len (b : Bool) (l : List UInt8) : (rdRes b l).c.wk.length ≤ 32 ∧ (rdRes b l).c.cl.length ≤ 32 := by
  cases h : rdOkC b l
  · rw [rdRes, h]; simp
  · have h2 : checkE (rdCa b l) = 0 := by simp only [rdOkC, Bool.and_eq_true, decide_eq_true_eq] at h; exact h.2
    have h3 := check_ok h2
    have h4 := h3.wk.2.1
    have h5 := h3.cn
    rw [rdRes, h]; exact ⟨h4, h5⟩
theorem cb_small {w : World} (x y : Ca) (A B A' B' D : Option Addr) (n m n' m' nd cd : Nat) (hrx : CaR w (fun q => q < w.heap.size) x A B) (hry : CaR w (fun q => q < w.heap.size) y A' B')
    (hd : (decide (x.wk.length ≤ 60) && decide (x.cl.length ≤ 60)) = true) (hd' : (decide (y.wk.length ≤ 60) && decide (y.cl.length ≤ 60)) = true) (hnd : (nd : Int) ≤ 3000) (lb : List UInt8) (e1 : lb.length = nd) (u1 : nd ≤ cd) (m1 : cd ≤ maxLen) (s1 : Rd w (fun q => q < w.heap.size) D nd (lb.map B8)) :
    Calls Tryz.prog 4 #[.agg #[.int .i64 x.off, .slice A x.wk.length n, .slice B x.cl.length m], .agg #[.int .i64 y.off, .slice A' y.wk.length n', .slice B' y.cl.length m'], .slice D nd cd] w fun e w' => e = .returned (.bool true) ∧ Below w.heap.size w w' := by
  subst e1
  have HA := Lib.hid (((Touch.refl (fun _ => False) w).alloc (.cells #[.int .i64 x.off, .slice A x.wk.length n, .slice B x.cl.length m] 24)).alloc (.cells #[.int .i64 y.off, .slice A' y.wk.length n', .slice B' y.cl.length m'] 24))
  have HBx := Lib.hid (show Blk ((w.alloc (.cells #[.int .i64 x.off, .slice A x.wk.length n, .slice B x.cl.length m] 24)).alloc (.cells #[.int .i64 y.off, .slice A' y.wk.length n', .slice B' y.cl.length m'] 24)) w.heap.size 24 #[.int .i64 x.off, .slice A x.wk.length n, .slice B x.cl.length m] from (Blk.new w _ _).alloc _)
  have HBy := Lib.hid (show Blk ((w.alloc (.cells #[.int .i64 x.off, .slice A x.wk.length n, .slice B x.cl.length m] 24)).alloc (.cells #[.int .i64 y.off, .slice A' y.wk.length n', .slice B' y.cl.length m'] 24)) (w.heap.size + 1) 24 #[.int .i64 y.off, .slice A' y.wk.length n', .slice B' y.cl.length m'] by simpa using Blk.new (w.alloc (.cells #[.int .i64 x.off, .slice A x.wk.length n, .slice B x.cl.length m] 24)) 24 #[.int .i64 y.off, .slice A' y.wk.length n', .slice B' y.cl.length m'])
  have HRx := Lib.hid (hrx.touch HA.out (fun _ _ e => e))
  have HRy := Lib.hid (hry.touch HA.out (fun _ _ e => e))
  have hlx : x.wk.length ≤ 60 ∧ x.cl.length ≤ 60 := by simpa using hd
  have HSxy := Lib.hid (fun w1 h1 h2 => csame_any (fun q => q < w.heap.size) (fun q => q < w.heap.size) A B A' B' n m n' m' x y w1 h1 h2 (by omega) (by omega))
  have HFxy := Lib.hid (fun w1 h1 h2 => fcsame_any (fun q => q < w.heap.size) (fun q => q < w.heap.size) A B A' B' n m n' m' x y w1 h1 h2 (by omega) (by omega))
  have HSxx := Lib.hid (fun w1 h1 => csame_any (fun q => q < w.heap.size) (fun q => q < w.heap.size) A B A B n m n m x x w1 h1 h1 (by omega) (by omega))
  rw [sameC_self] at HSxx
  have HBb := Lib.hid (s1.touch HA.out (fun _ _ e => e))
  have HRD := Lib.hid (fun g F w1 h h1 h2 => cread_any g F false lb w1 h h1 h2)
  have HRF := Lib.hid (fun g F w1 h h1 h2 => fread10_any g F false lb w1 h h1 h2)
  have hql := rdRes_len false lb
  generalize rdRes false lb = q at *
  clear s1
  generalize sameC x y = v at *
  have HCx := Lib.hid (fun w1 h1 => fcheck_any (fun q => q < w.heap.size) A B n m x w1 h1 (by omega) (by omega))
  clear hrx hry
  have hnd2 : ¬ (3000 : Int) < lb.length := by omega
  clear hnd
  go_enter Tryz.func4, Tryz.ntmps4
  go_wp2_with (first
      | (go_at_call 13; have HM9 := HT1; go_must (refine (light10_any A' B' n' m' y.wk.length y.cl.length y.off _).mono ?_); rintro e w2 ⟨rfl, t2⟩; rw [hd']; have HT2 := Lib.hid (HT1.out.trans t2 (fun _ _ e => e)); clear t2)
      | (go_at_call 13; go_must (refine (light10_any A B n m x.wk.length x.cl.length x.off _).mono ?_); rintro e w1 ⟨rfl, t1⟩; rw [hd]; have HB1 := Lib.hid (t1.blk HBy.out (fun e => e)); have q0 := HB1.out.cell 0; have q1 := HB1.out.cell 1; have q2 := HB1.out.cell 2; simp at q0 q1 q2; have HT1 := Lib.hid t1; clear t1))
  have HTd := Lib.hid (HT2.out.trans ((Touch.refl (fun _ => False) w2).drew) (fun _ _ e => e))
  clear q0 q1 q2
  have hbx := HTd.out.blk HBx.out (fun e => e)
  have hby := HTd.out.blk HBy.out (fun e => e)
  have q0 := hbx.cell 0; have q1 := hbx.cell 1; have q2 := hbx.cell 2
  have r0 := hby.cell 0; have r1 := hby.cell 1; have r2 := hby.cell 2
  simp at q0 q1 q2 r0 r1 r2
  have hgx := hbx.lt
  have hgy := hby.lt
  clear hbx hby
  refine wp_region_plan [(0, 0), (0, 1), (1, 3), (1, 4), (2, 2), (2, 5), (0, 6), (0, 7), (0, 8), (0, 9), (2, 10), (0, 11), (0, 12)] (fun _ => False) (by kernel_rfl) (by kernel_rfl) (fun c a d v w h => by cases d <;> exact h) ?_
  iterate 2
    refine plan_s1 rfl (by rfl) (fun Kc hKc => ?_)
    go_simp
    first
      | (refine hKc _ ?_)
    clear hKc Kc
  iterate 2
    apply plan_h
    · rfl
    · rfl
    · intro wh hT
      have hf0 := (hT.cell (p := ⟨w.heap.size, 0, none⟩) hgx (fun e => e)).trans q0
      have hf1 := (hT.cell (p := ⟨w.heap.size, 1, none⟩) hgx (fun e => e)).trans q1
      have hf2 := (hT.cell (p := ⟨w.heap.size, 2, none⟩) hgx (fun e => e)).trans q2
      have hf3 := (hT.cell (p := ⟨w.heap.size + 1, 0, none⟩) hgy (fun e => e)).trans r0
      have hf4 := (hT.cell (p := ⟨w.heap.size + 1, 1, none⟩) hgy (fun e => e)).trans r1
      have hf5 := (hT.cell (p := ⟨w.heap.size + 1, 2, none⟩) hgy (fun e => e)).trans r2
      go_simp
      try rfl
    go_frame
  refine plan_a1 rfl (by rfl) (fun Kc hKc => ?_)
  go_simp
  refine (HSxy.out _ (by exact HRx.out.touch HTd.out (fun _ _ e => e)) (by exact HRy.out.touch HTd.out (fun _ _ e => e))).mono ?_
  rintro e w3 ⟨rfl, t3⟩
  refine hKc _ _ ⟨t3, ?_⟩
  clear hKc Kc
  have HT3 := Lib.hid (HTd.out.trans t3 (fun _ _ e => e))
  clear t3
  refine plan_a1 rfl (by rfl) (fun Kc hKc => ?_)
  go_simp
  refine (HFxy.out _ (by exact HRx.out.touch HT3.out (fun _ _ e => e)) (by exact HRy.out.touch HT3.out (fun _ _ e => e))).mono ?_
  rintro e w4 ⟨rfl, t4⟩
  refine hKc _ _ ⟨t4, ?_⟩
  clear hKc Kc
  have HT4 := Lib.hid (HT3.out.trans t4 (fun _ _ e => e))
  clear t4 q0 q1 q2 r0 r1 r2 hgx hgy
  have hbx := HT4.out.blk HBx.out (fun e => e)
  have q0 := hbx.cell 0; have q1 := hbx.cell 1; have q2 := hbx.cell 2
  simp at q0 q1 q2
  clear hbx
  iterate 4
    refine plan_s1 rfl (by rfl) (fun Kc hKc => ?_)
    go_simp
    first
      | (refine hKc _ ?_)
    clear hKc Kc
  refine plan_a1 rfl (by rfl) (fun Kc hKc => ?_)
  go_simp
  refine (HSxx.out _ (by exact HRx.out.touch HT4.out (fun _ _ e => e))).mono ?_
  rintro e w5 ⟨rfl, t5⟩
  refine hKc _ _ ⟨t5, ?_⟩
  clear hKc Kc
  have HT5 := Lib.hid (HT4.out.trans t5 (fun _ _ e => e))
  clear t5
  iterate 2
    refine plan_s1 rfl (by rfl) (fun Kc hKc => ?_)
    go_simp
    first
      | (refine hKc _ ?_)
    clear hKc Kc
  clear q0 q1 q2
  have hbx := HT5.out.blk HBx.out (fun e => e)
  have q0 := hbx.cell 0; have q1 := hbx.cell 1; have q2 := hbx.cell 2
  simp at q0 q1 q2
  clear hbx
  refine plan_done ?_
  by_cases hce : checkE x = 0
  rotate_left
  · generalize hcv : checkE x = cv at *
    have hne : (cv == 0) = false := by simpa using hce
    clear hcv hce hlx
    go_wp2_with (first
      | (go_at_call 7; go_must (refine (HCx.out _ (by exact HRx.out.touch HT5.out (fun _ _ e => e))).mono ?_); rintro e w6 ⟨rfl, t6⟩; have HT6 := Lib.hid (HT5.out.trans t6 (fun _ _ e => e)); clear t6 q0 q1 q2)
      | (go_at_call 19; go_must (refine (open_any _ _ _ _).mono ?_); rintro e w7 ⟨rfl, rfl⟩))
    obtain ⟨wa, hwa⟩ : ∃ wa, wa = (w6.alloc (.cells #[.slice D lb.length cd, .bool false] 114)).alloc (.cells #[.slice D lb.length cd, .bool false] 64) := ⟨_, rfl⟩
    have hTa : Touch (fun _ => False) w6 wa := hwa ▸ ((Touch.refl _ w6).alloc _).alloc _
    have hza : w6.heap.size + 2 ≤ wa.heap.size := by rw [hwa]; simp
    have HTw := Lib.hid (HT6.out.trans hTa (fun _ _ e => e))
    have hzw : w.heap.size + 2 ≤ w6.heap.size := by have := HT6.out.size; simpa using this
    have hBa : Rd wa (fun q => q < w.heap.size) D lb.length (lb.map B8) := ((HBb.out.touch HT6.out (fun _ _ e => e)).touch hTa (fun _ _ e => e))
    have HD := Lib.hid (show RdAt wa w6.heap.size (fun q => q < w.heap.size) lb false from ⟨by omega, D, cd, u1, m1, hwa ▸ (Blk.new w6 114 #[.slice D lb.length cd, .bool false]).alloc _, hBa⟩)
    have HE := Lib.hid (show RfAt wa (w6.heap.size + 1) (fun q => q < w.heap.size) lb false from ⟨by omega, D, cd, u1, m1, hwa ▸ (by simpa using Blk.new (w6.alloc (.cells #[.slice D lb.length cd, .bool false] 114)) 64 #[.slice D lb.length cd, .bool false]), hBa⟩)
    have HWA := Lib.hid hwa
    have HWz := Lib.hid hzw
    generalize w6.heap.size = g at *
    clear hwa hTa hzw hBa
    go_wp2_with fail
    rw [← HWA.out]
    clear HWA
    refine (HRD.out g (fun q => q < w.heap.size) wa (by exact HD.out) (by intro k hk; have := HWz.out; omega) (by omega)).mono ?_
    rintro e wb ⟨A2, B2, k2, m2, rfl, hrb, hdb, tb⟩
    have hzab := tb.size
    have HEb := Lib.hid (rfAt_touch HE.out tb (by omega) (by intro k hk e; have := HWz.out; omega))
    have HDb := Lib.hid hdb
    have HRb := Lib.hid hrb
    have HTb := Lib.hid (HTw.out.trans tb (fun k hk e => by have := HWz.out; simp at hk; omega))
    clear hrb hdb tb HTw HD HE
    go_wp2_with fail
    have HAl := Lib.hid ((Touch.refl (fun _ => False) wb).alloc (.cells #[.int .i64 q.c.off, .slice A2 q.c.wk.length k2, .slice B2 q.c.cl.length m2] 24))
    refine (HRF.out (g + 1) (fun q => q < w.heap.size) _ (by exact rfAt_touch HEb.out HAl.out (fun e => e) (fun _ _ e => e)) (by intro k hk; have := HWz.out; simp; omega) (by simp; omega)).mono ?_
    rintro e wc ⟨A3, B3, k3, m3, rfl, hrc, hec, tc⟩
    have hzc : wb.heap.size + 1 ≤ wc.heap.size := by have := tc.size; simpa using this
    have HBb := Lib.hid (tc.blk (Blk.new wb 24 #[.int .i64 q.c.off, .slice A2 q.c.wk.length k2, .slice B2 q.c.cl.length m2]) (by omega))
    have HDc := Lib.hid (rdAt_touch (rdAt_touch HDb.out HAl.out (fun e => e) (fun _ _ e => e)) tc (by omega) (by intro k hk e; have := HWz.out; omega))
    have HRb := Lib.hid ((HRb.out.touch HAl.out (fun _ _ e => e)).touch tc (by intro k hk e; omega))
    have HTc := Lib.hid ((HTb.out.trans HAl.out (fun _ _ e => e)).trans tc (fun k hk e => by have := HWz.out; simp at hk; omega))
    have HRc := Lib.hid hrc
    have HEc := Lib.hid hec
    clear hrc hec tc HAl HDb HEb HTb
    obtain ⟨wd, hwd⟩ : ∃ wd, wd = wc.alloc (.cells #[.int .i64 q.c.off, .slice A3 q.c.wk.length k3, .slice B3 q.c.cl.length m3] 24) := ⟨_, rfl⟩
    have HAl := Lib.hid (show Touch (fun _ => False) wc wd from hwd ▸ ((Touch.refl (fun _ => False) wc).alloc (.cells #[.int .i64 q.c.off, .slice A3 q.c.wk.length k3, .slice B3 q.c.cl.length m3] 24)))
    have HBc := Lib.hid (show Blk wd wc.heap.size 24 #[.int .i64 q.c.off, .slice A3 q.c.wk.length k3, .slice B3 q.c.cl.length m3] from hwd ▸ Blk.new wc 24 _)
    have HWD := Lib.hid hwd
    clear hwd
    go_wp2_with fail
    rw [← HWD.out]
    clear HWD
    have HBb := Lib.hid (HAl.out.blk HBb.out (fun e => e))
    have HDd := Lib.hid (rdAt_touch HDc.out HAl.out (fun e => e) (fun _ _ e => e))
    have HEd := Lib.hid (rfAt_touch HEc.out HAl.out (fun e => e) (fun _ _ e => e))
    have HRb := Lib.hid (HRb.out.touch HAl.out (fun _ _ e => e))
    have HRc := Lib.hid (HRc.out.touch HAl.out (fun _ _ e => e))
    have HTd := Lib.hid (HTc.out.trans HAl.out (fun _ _ e => e))
    have q0 := HBb.out.cell 0; have q1 := HBb.out.cell 1; have q2 := HBb.out.cell 2
    have p0 := HBc.out.cell 0; have p1 := HBc.out.cell 1; have p2 := HBc.out.cell 2
    simp at q0 q1 q2 p0 p1 p2
    refine wp_region_plan [(0, 0), (0, 1), (0, 2), (0, 3), (0, 4), (0, 5), (2, 6), (0, 7), (0, 8), (0, 9), (0, 10), (0, 11), (0, 12), (0, 13), (0, 14), (0, 15), (0, 16), (0, 17), (0, 18), (0, 19), (0, 20), (0, 21), (0, 22), (0, 23), (0, 24), (0, 25), (0, 26), (0, 27), (2, 28), (0, 29), (0, 30)] (fun _ => False) (by kernel_rfl) (by kernel_rfl) (fun c a d v w h => by cases d <;> exact h) ?_
    iterate 6
      refine plan_s1 rfl (by rfl) (fun Kc hKc => ?_)
      go_simp
      first
        | (refine hKc _ ?_)
      clear hKc Kc
    refine plan_a1 rfl (by rfl) (fun Kc hKc => ?_)
    go_simp
    refine (fcsame_any _ _ A2 B2 A3 B3 k2 m2 k3 m3 q.c q.c _ (by exact HRb.out.touch (Touch.refl (fun _ => False) wd).drew (fun _ _ e => e)) (by exact HRc.out.touch (Touch.refl (fun _ => False) wd).drew (fun _ _ e => e)) (by omega) (by omega)).mono ?_
    rintro e wf ⟨rfl, tf⟩
    rw [sameC_self]
    refine hKc _ _ ⟨tf, ?_⟩
    clear hKc Kc
    have HTf := Lib.hid (HTd.out.drew.trans tf (fun _ _ e => e))
    have HTdf := Lib.hid ((Touch.refl (fun _ => False) wd).drew.trans tf (fun _ _ e => e))
    have HDf := Lib.hid (rdAt_touch HDd.out HTdf.out (fun e => e) (fun _ _ e => e))
    obtain ⟨_, Ae, ce, hle, hme, hbe, _⟩ := rfAt_touch HEd.out HTdf.out (fun e => e) (fun _ _ e => e)
    have y0 := hbe.cell 0; have y1 := hbe.cell 1
    simp at y0 y1
    clear tf hbe hle hme q0 p0 q1 p1 q2 p2
    iterate 21
      refine plan_s1 rfl (by rfl) (fun Kc hKc => ?_)
      go_simp
      first
        | (refine hKc _ ?_)
        | (refine ⟨_, calls_flip (left_st g (fun q => q < w.heap.size) q.left q.bad _ (by exact HDf.out)), hKc _ ?_⟩)
        | (refine ⟨_, calls_flip (bad_st g (fun q => q < w.heap.size) q.left q.bad _ (by exact HDf.out)), hKc _ ?_⟩)
      clear hKc Kc
    refine plan_a1 rfl (by rfl) (fun Kc hKc => ?_)
    go_simp
    refine (lives10_any _).mono ?_
    rintro e we ⟨rfl, te⟩
    refine hKc _ _ ⟨te, ?_⟩
    clear hKc Kc
    have HTe := Lib.hid (HTf.out.trans te (fun _ _ e => e))
    clear te
    iterate 2
      refine plan_s1 rfl (by rfl) (fun Kc hKc => ?_)
      go_simp
      first
        | (refine hKc _ ?_)
      clear hKc Kc
    refine plan_done ?_
    go_wp2_with fail
    go_ret
    exact ⟨ret_bool (by simp), (HA.out.trans HTe.out (fun _ _ e => e)).below⟩
  · have hok := check_ok hce
    have hbd : ∀ s ∈ x.wk ++ x.cl, 0 ≤ s.f ∧ s.f < 9223372036854775808 ∧ 0 ≤ s.t ∧ s.t < 9223372036854775808 := by
      intro s hs
      rcases List.mem_append.1 hs with hs | hs
      · have := row_sp (Int.le_refl 0) hok.wk.1 s hs; omega
      · have := row_sp (Int.le_refl 0) hok.cl s hs; omega
    have hof := hok.off
    have hel := encCa_len x (by omega) (by omega)
    have HPut := Lib.hid (fun g w1 (hw : WAt w1 g none []) (h1 : CaR w1 (fun q => q < w.heap.size) x A B) (h2 : ∀ q, q < w.heap.size → q ≠ g) => cput_any g none [] x (fun q => q < w.heap.size) A B n m w1 hw h1 (fun q hq => ⟨h2 q hq, by simp⟩) hbd (by omega) (by omega) (by omega) (by simp))
    simp only [List.nil_append] at HPut
    have HFp := Lib.hid (fun w1 h1 => fput10_any (fun q => q < w.heap.size) A B n m x w1 h1 hbd (by omega) (by omega) (by omega))
    have HRx2 := fun g F w1 h h1 h2 => cread_any g F false (encCa x) w1 h h1 h2
    simp only [rdRes_back x hce] at HRx2
    have HRX := Lib.hid HRx2
    rw [hce] at HCx
    generalize encCa x = eb at *
    clear hok hbd hof HRx2 hce
    go_wp2_with (first
      | (go_at_call 7; go_must (refine (HCx.out _ (by exact HRx.out.touch HT5.out (fun _ _ e => e))).mono ?_); rintro e w6 ⟨rfl, t6⟩
         have HT6 := Lib.hid (HT5.out.trans t6 (fun _ _ e => e))
         have hz6 : w.heap.size + 2 ≤ w6.heap.size := by have := HT6.out.size; simpa using this
         have hne6 : ¬ w.heap.size = w6.heap.size := by omega
         have hb6 := HT6.out.blk HBx.out (fun e => e)
         clear q0 q1 q2 t6
         have q0 : (w6.alloc (.cells #[.slice none 0 0] 53)).cell? ⟨w.heap.size, 0, none⟩ = some (.int .i64 x.off) := (hb6.alloc _).cell 0
         have q1 : (w6.alloc (.cells #[.slice none 0 0] 53)).cell? ⟨w.heap.size, 1, none⟩ = some (.slice A x.wk.length n) := (hb6.alloc _).cell 1
         have q2 : (w6.alloc (.cells #[.slice none 0 0] 53)).cell? ⟨w.heap.size, 2, none⟩ = some (.slice B x.cl.length m) := (hb6.alloc _).cell 2
         have HW0 := Lib.hid (show WAt (w6.alloc (.cells #[.slice none 0 0] 53)) w6.heap.size none [] from ⟨by simp, _, Blk.new w6 53 #[.slice none 0 0], Own.nil _ _ _⟩)
         clear hb6)
      | (go_at_call 17
         go_must (refine (HPut.out w6.heap.size _ (by exact HW0.out) (by exact HRx.out.touch (HT6.out.alloc _) (fun _ _ e => e)) (by intro k hk; omega)).mono ?_)
         rintro e w7 ⟨rfl, r7, hw7, t7, hf7⟩
         have HT7 := Lib.hid ((HT6.out.alloc (.cells #[.slice none 0 0] 53)).trans t7 (fun k hk e => by rcases e with e | e; (simp at hk; omega); cases e))
         have hz7 : w6.heap.size + 1 ≤ w7.heap.size := by have := t7.size; simpa using this
         have HN7 := Lib.hid (show (∀ k, r7 = some k → k < w7.heap.size) from hw7.ltr)
         have HW7 := Lib.hid hw7
         clear t7 hw7 hf7 q0 q1 q2)
      | (go_at_call 20
         go_must (refine (wbytes_any w6.heap.size r7 eb _ (by exact HW7.out) (by omega)).mono ?_)
         rintro e w8 ⟨A8, c8, rfl, u8, m8, hr8, t8⟩
         simp only [List.length_map] at u8 hr8 ⊢
         have HU8 := Lib.hid (And.intro u8 m8)
         have hz8 : w7.heap.size ≤ w8.heap.size := t8.size
         have HR8 := Lib.hid hr8.insideC
         have HT8 := Lib.hid (HT7.out.trans t8 (fun _ _ e => e))
         have HW8 := Lib.hid (HW7.out.touch t8 (fun e => e) (fun _ _ e => e))
         clear u8 m8 hr8 t8)
      | (go_at_call 19; have HM9 := HR8; go_must (refine (open_any _ _ _ _).mono ?_); rintro e w9 ⟨rfl, rfl⟩)
      | (go_at_call 18
         go_must (refine (HRX.out w8.heap.size (fun k => w7.heap.size ≤ k ∧ k < w8.heap.size) _ (by exact ⟨fun h => by omega, A8, c8, HU8.out.1, HU8.out.2, Blk.new _ _ _, HR8.out.touch ((Touch.refl (fun _ => False) w8).alloc _) (fun _ _ e => e)⟩) (by intro k hk; simp; omega) (by simp)).mono ?_)
         rintro e w9 ⟨A9, B9, k9, m9, rfl, hr9, -, t9⟩
         simp only
         have hz9 : w8.heap.size + 1 ≤ w9.heap.size := by have := t9.size; simpa using this
         have HT9 := Lib.hid ((HT8.out.alloc (.cells #[.slice A8 eb.length c8, .bool false] 114)).trans t9 (fun k hk e => by simp at hk; omega))
         have HR9 := Lib.hid hr9
         have HW9 := Lib.hid ((HW8.out.touch ((Touch.refl (fun _ => False) w8).alloc (.cells #[.slice A8 eb.length c8, .bool false] 114)) (fun e => e) (fun _ _ e => e)).touch t9 (by omega) (fun k hk e => by have := HN7.out k hk; omega))
         clear hr9 t9))
    obtain ⟨wA, hwA⟩ : ∃ wA, wA = w9.alloc (.cells #[.int .i64 x.off, .slice A9 x.wk.length k9, .slice B9 x.cl.length m9] 24) := ⟨_, rfl⟩
    have hAl : Touch (fun _ => False) w9 wA := hwA ▸ ((Touch.refl (fun _ => False) w9).alloc (.cells #[.int .i64 x.off, .slice A9 x.wk.length k9, .slice B9 x.cl.length m9] 24))
    have HB9 := Lib.hid (show Blk wA w9.heap.size 24 #[.int .i64 x.off, .slice A9 x.wk.length k9, .slice B9 x.cl.length m9] from hwA ▸ Blk.new w9 24 _)
    have HTA := Lib.hid (HT9.out.trans hAl (fun _ _ e => e))
    have HRA := Lib.hid (HR9.out.touch hAl (fun _ _ e => e))
    have HWA := Lib.hid (HW9.out.touch hAl (fun e => e) (fun _ _ e => e))
    have HWEQ := Lib.hid hwA
    clear hwA hAl
    rw [← HWEQ.out]
    clear HWEQ HT9 HR9 HW9 HW8 HT8 HR8 HT7 HW7 HT6 HU8
    have HTd := Lib.hid (HTA.out.trans ((Touch.refl (fun _ => False) wA).drew) (fun _ _ e => e))
    have HDr := Lib.hid ((Touch.refl (fun _ => False) wA).drew)
    have hbx := HTd.out.blk HBx.out (fun e => e)
    have q0 := hbx.cell 0; have q1 := hbx.cell 1; have q2 := hbx.cell 2
    simp at q0 q1 q2
    have hgx := hbx.lt
    clear hbx
    refine wp_region_plan [(1, 2), (2, 0), (1, 1), (2, 3), (0, 4), (0, 5), (0, 6), (0, 7), (0, 8), (0, 9), (0, 10), (0, 11), (0, 12), (2, 13), (0, 14), (0, 15)] (fun _ => False) (by kernel_rfl) (by kernel_rfl) (fun c a d v w h => by cases d <;> exact h) ?_
    iterate 1
      apply plan_h
      · rfl
      · rfl
      · intro wh hT
        have hf0 := (hT.cell (p := ⟨w.heap.size, 0, none⟩) hgx (fun e => e)).trans q0
        have hf1 := (hT.cell (p := ⟨w.heap.size, 1, none⟩) hgx (fun e => e)).trans q1
        have hf2 := (hT.cell (p := ⟨w.heap.size, 2, none⟩) hgx (fun e => e)).trans q2
        go_simp
        try rfl
      go_frame
    refine plan_a1 rfl (by rfl) (fun Kc hKc => ?_)
    go_simp
    refine (wbytes_any w6.heap.size r7 eb _ (by exact HWA.out.touch HDr.out (fun e => e) (fun _ _ e => e)) (by omega)).mono ?_
    rintro e w10 ⟨A10, c10, rfl, -, -, hr10, t10⟩
    simp only [List.length_map] at hr10 ⊢
    refine hKc _ _ ⟨t10, ?_⟩
    clear hKc Kc
    have HT10 := Lib.hid (HTd.out.trans t10 (fun _ _ e => e))
    have HD10 := Lib.hid (HDr.out.trans t10 (fun _ _ e => e))
    have HR10 := Lib.hid hr10
    clear t10 hr10
    iterate 1
      apply plan_h
      · rfl
      · rfl
      · intro wh hT
        have hf0 := Rd.str (HR10.out.touch hT (fun _ _ e => e)) c10
        go_simp
        try rfl
      go_frame
    refine plan_a1 rfl (by rfl) (fun Kc hKc => ?_)
    go_simp
    refine (HFp.out _ (by exact HRx.out.touch HT10.out (fun _ _ e => e))).mono ?_
    rintro e w11 ⟨v11, k11, rfl, ho11, -, t11⟩
    obtain ⟨A11, c11, rfl, -, -, -, hr11⟩ := ho11.rd
    refine hKc _ _ ⟨t11, ?_⟩
    clear hKc Kc
    have HT11 := Lib.hid (HT10.out.trans t11 (fun _ _ e => e))
    have HD11 := Lib.hid (HD10.out.trans t11 (fun _ _ e => e))
    have hs11 := Rd.str hr11 c11
    clear t11 hr11 ho11 q0 q1 q2 hgx
    have hbx := HT11.out.blk HBx.out (fun e => e)
    have q0 := hbx.cell 0; have q1 := hbx.cell 1; have q2 := hbx.cell 2
    have hb9 := HD11.out.blk HB9.out (fun e => e)
    have r0 := hb9.cell 0; have r1 := hb9.cell 1; have r2 := hb9.cell 2
    simp at q0 q1 q2 r0 r1 r2
    clear hbx hb9
    iterate 9
      refine plan_s1 rfl (by rfl) (fun Kc hKc => ?_)
      go_simp
      first
        | (refine hKc _ ?_)
      clear hKc Kc
    refine plan_a1 rfl (by rfl) (fun Kc hKc => ?_)
    go_simp
    refine (fcsame_any _ _ A9 B9 A B k9 m9 n m x x _ (by exact HRA.out.touch HD11.out (fun _ _ e => e)) (by exact HRx.out.touch HT11.out (fun _ _ e => e)) (by omega) (by omega)).mono ?_
    rintro e w12 ⟨rfl, t12⟩
    rw [sameC_self]
    refine hKc _ _ ⟨t12, ?_⟩
    clear hKc Kc
    have HT12 := Lib.hid (HT11.out.trans t12 (fun _ _ e => e))
    clear t12 q0 q1 q2 r0 r1 r2 hs11 HD11 HD10 HT10 HT11 HTd HDr HTA HRA HWA HB9
    iterate 2
      refine plan_s1 rfl (by rfl) (fun Kc hKc => ?_)
      go_simp
      first
        | (refine hKc _ ?_)
      clear hKc Kc
    refine plan_done ?_
    go_wp2_with (go_at_call 19; go_must (refine (open_any _ _ _ _).mono ?_); rintro e w13 ⟨rfl, rfl⟩)
    obtain ⟨wa, hwa⟩ : ∃ wa, wa = (w12.alloc (.cells #[.slice D lb.length cd, .bool false] 114)).alloc (.cells #[.slice D lb.length cd, .bool false] 64) := ⟨_, rfl⟩
    have hTa : Touch (fun _ => False) w12 wa := hwa ▸ ((Touch.refl _ w12).alloc _).alloc _
    have hza : w12.heap.size + 2 ≤ wa.heap.size := by rw [hwa]; simp
    have HTw := Lib.hid (HT12.out.trans hTa (fun _ _ e => e))
    have hzw : w.heap.size + 2 ≤ w12.heap.size := by have := HT12.out.size; simpa using this
    have hBa : Rd wa (fun q => q < w.heap.size) D lb.length (lb.map B8) := ((HBb.out.touch HT12.out (fun _ _ e => e)).touch hTa (fun _ _ e => e))
    have HD := Lib.hid (show RdAt wa w12.heap.size (fun q => q < w.heap.size) lb false from ⟨by omega, D, cd, u1, m1, hwa ▸ (Blk.new w12 114 #[.slice D lb.length cd, .bool false]).alloc _, hBa⟩)
    have HE := Lib.hid (show RfAt wa (w12.heap.size + 1) (fun q => q < w.heap.size) lb false from ⟨by omega, D, cd, u1, m1, hwa ▸ (by simpa using Blk.new (w12.alloc (.cells #[.slice D lb.length cd, .bool false] 114)) 64 #[.slice D lb.length cd, .bool false]), hBa⟩)
    have HWA := Lib.hid hwa
    have HWz := Lib.hid hzw
    generalize w12.heap.size = g at *
    clear hwa hTa hzw hBa
    go_wp2_with fail
    rw [← HWA.out]
    clear HWA
    refine (HRD.out g (fun q => q < w.heap.size) wa (by exact HD.out) (by intro k hk; have := HWz.out; omega) (by omega)).mono ?_
    rintro e wb ⟨A2, B2, k2, m2, rfl, hrb, hdb, tb⟩
    have hzab := tb.size
    have HEb := Lib.hid (rfAt_touch HE.out tb (by omega) (by intro k hk e; have := HWz.out; omega))
    have HDb := Lib.hid hdb
    have HRb := Lib.hid hrb
    have HTb := Lib.hid (HTw.out.trans tb (fun k hk e => by have := HWz.out; simp at hk; omega))
    clear hrb hdb tb HTw HD HE
    go_wp2_with fail
    have HAl := Lib.hid ((Touch.refl (fun _ => False) wb).alloc (.cells #[.int .i64 q.c.off, .slice A2 q.c.wk.length k2, .slice B2 q.c.cl.length m2] 24))
    refine (HRF.out (g + 1) (fun q => q < w.heap.size) _ (by exact rfAt_touch HEb.out HAl.out (fun e => e) (fun _ _ e => e)) (by intro k hk; have := HWz.out; simp; omega) (by simp; omega)).mono ?_
    rintro e wc ⟨A3, B3, k3, m3, rfl, hrc, hec, tc⟩
    have hzc : wb.heap.size + 1 ≤ wc.heap.size := by have := tc.size; simpa using this
    have HBb := Lib.hid (tc.blk (Blk.new wb 24 #[.int .i64 q.c.off, .slice A2 q.c.wk.length k2, .slice B2 q.c.cl.length m2]) (by omega))
    have HDc := Lib.hid (rdAt_touch (rdAt_touch HDb.out HAl.out (fun e => e) (fun _ _ e => e)) tc (by omega) (by intro k hk e; have := HWz.out; omega))
    have HRb := Lib.hid ((HRb.out.touch HAl.out (fun _ _ e => e)).touch tc (by intro k hk e; omega))
    have HTc := Lib.hid ((HTb.out.trans HAl.out (fun _ _ e => e)).trans tc (fun k hk e => by have := HWz.out; simp at hk; omega))
    have HRc := Lib.hid hrc
    have HEc := Lib.hid hec
    clear hrc hec tc HAl HDb HEb HTb
    obtain ⟨wd, hwd⟩ : ∃ wd, wd = wc.alloc (.cells #[.int .i64 q.c.off, .slice A3 q.c.wk.length k3, .slice B3 q.c.cl.length m3] 24) := ⟨_, rfl⟩
    have HAl := Lib.hid (show Touch (fun _ => False) wc wd from hwd ▸ ((Touch.refl (fun _ => False) wc).alloc (.cells #[.int .i64 q.c.off, .slice A3 q.c.wk.length k3, .slice B3 q.c.cl.length m3] 24)))
    have HBc := Lib.hid (show Blk wd wc.heap.size 24 #[.int .i64 q.c.off, .slice A3 q.c.wk.length k3, .slice B3 q.c.cl.length m3] from hwd ▸ Blk.new wc 24 _)
    have HWD := Lib.hid hwd
    clear hwd
    go_wp2_with fail
    rw [← HWD.out]
    clear HWD
    have HBb := Lib.hid (HAl.out.blk HBb.out (fun e => e))
    have HDd := Lib.hid (rdAt_touch HDc.out HAl.out (fun e => e) (fun _ _ e => e))
    have HEd := Lib.hid (rfAt_touch HEc.out HAl.out (fun e => e) (fun _ _ e => e))
    have HRb := Lib.hid (HRb.out.touch HAl.out (fun _ _ e => e))
    have HRc := Lib.hid (HRc.out.touch HAl.out (fun _ _ e => e))
    have HTd := Lib.hid (HTc.out.trans HAl.out (fun _ _ e => e))
    have q0 := HBb.out.cell 0; have q1 := HBb.out.cell 1; have q2 := HBb.out.cell 2
    have p0 := HBc.out.cell 0; have p1 := HBc.out.cell 1; have p2 := HBc.out.cell 2
    simp at q0 q1 q2 p0 p1 p2
    refine wp_region_plan [(0, 0), (0, 1), (0, 2), (0, 3), (0, 4), (0, 5), (2, 6), (0, 7), (0, 8), (0, 9), (0, 10), (0, 11), (0, 12), (0, 13), (0, 14), (0, 15), (0, 16), (0, 17), (0, 18), (0, 19), (0, 20), (0, 21), (0, 22), (0, 23), (0, 24), (0, 25), (0, 26), (0, 27), (2, 28), (0, 29), (0, 30)] (fun _ => False) (by kernel_rfl) (by kernel_rfl) (fun c a d v w h => by cases d <;> exact h) ?_
    iterate 6
      refine plan_s1 rfl (by rfl) (fun Kc hKc => ?_)
      go_simp
      first
        | (refine hKc _ ?_)
      clear hKc Kc
    refine plan_a1 rfl (by rfl) (fun Kc hKc => ?_)
    go_simp
    refine (fcsame_any _ _ A2 B2 A3 B3 k2 m2 k3 m3 q.c q.c _ (by exact HRb.out.touch (Touch.refl (fun _ => False) wd).drew (fun _ _ e => e)) (by exact HRc.out.touch (Touch.refl (fun _ => False) wd).drew (fun _ _ e => e)) (by omega) (by omega)).mono ?_
    rintro e wf ⟨rfl, tf⟩
    rw [sameC_self]
    refine hKc _ _ ⟨tf, ?_⟩
    clear hKc Kc
    have HTf := Lib.hid (HTd.out.drew.trans tf (fun _ _ e => e))
    have HTdf := Lib.hid ((Touch.refl (fun _ => False) wd).drew.trans tf (fun _ _ e => e))
    have HDf := Lib.hid (rdAt_touch HDd.out HTdf.out (fun e => e) (fun _ _ e => e))
    obtain ⟨_, Ae, ce, hle, hme, hbe, _⟩ := rfAt_touch HEd.out HTdf.out (fun e => e) (fun _ _ e => e)
    have y0 := hbe.cell 0; have y1 := hbe.cell 1
    simp at y0 y1
    clear tf hbe hle hme q0 p0 q1 p1 q2 p2
    iterate 21
      refine plan_s1 rfl (by rfl) (fun Kc hKc => ?_)
      go_simp
      first
        | (refine hKc _ ?_)
        | (refine ⟨_, calls_flip (left_st g (fun q => q < w.heap.size) q.left q.bad _ (by exact HDf.out)), hKc _ ?_⟩)
        | (refine ⟨_, calls_flip (bad_st g (fun q => q < w.heap.size) q.left q.bad _ (by exact HDf.out)), hKc _ ?_⟩)
      clear hKc Kc
    refine plan_a1 rfl (by rfl) (fun Kc hKc => ?_)
    go_simp
    refine (lives10_any _).mono ?_
    rintro e we ⟨rfl, te⟩
    refine hKc _ _ ⟨te, ?_⟩
    clear hKc Kc
    have HTe := Lib.hid (HTf.out.trans te (fun _ _ e => e))
    clear te
    iterate 2
      refine plan_s1 rfl (by rfl) (fun Kc hKc => ?_)
      go_simp
      first
        | (refine hKc _ ?_)
      clear hKc Kc
    refine plan_done ?_
    go_wp2_with fail
    go_ret
    exact ⟨ret_bool (by simp), (HA.out.trans HTe.out (fun _ _ e => e)).below⟩
end Go.Proofs.YtcblbjhhlnmkjaaGreat
