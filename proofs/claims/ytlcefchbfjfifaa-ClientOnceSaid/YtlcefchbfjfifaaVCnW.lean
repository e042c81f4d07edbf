/- The reference's client: Want, all of it. The reference's client: Hear where nothing is done. The reference's client: Hear where a command is done. -/
import Derived.Test.YtlcefchbfjfifaaVCnU
import Derived.Test.YtlcefchbfjfifaaVCnI
section
namespace Go.Proofs.Ytlcefchbfjfifaa
open Go.RowKit Cal
set_option maxHeartbeats 4000000
set_option maxRecDepth 100000
set_option linter.unusedVariables false
attribute [local irreducible] wpPlan

theorem fwant_any (c : Cl) (M : RfM) (hd : M.DC.size = 13) (hd1 : M.DC.all (·.oneCell') = true) (hv : M.dv.oneCell' = true) (ok : c.Ok) (x : Cm) (hx : x.in64) (A B D : Option Addr) (k m n : Nat) (G : Nat → Prop) (w : World) (hr : CmR w G x A B D) (hl : x.cal.wk.length ≤ 60 ∧ x.cal.cl.length ≤ 60 ∧ x.tm.lv.length ≤ 60) : Calls Try.prog 27 #[.agg (rfC c M), .agg (cmA x A B D k m n)] w (FwP (c.wantE x) (c.want x) (M.want c x A B D k m n) w) := by
  by_cases hno : c.busy.isSome = true ∨ 1152921504606846976 ≤ c.req
  · exact fwant_no c M hd hd1 hv x A B D k m n w hno
  simp only [not_or] at hno
  obtain ⟨hnb, hnr⟩ := hno
  have hnb : c.busy.isSome = false := by simpa using hnb
  unfold FwP
  obtain ⟨y, hy⟩ : ∃ y, y = c.mk_ x := ⟨_, rfl⟩
  have hE : c.wantE x = if cmSound y = true ∧ ¬ (9 ≤ x.kind ∧ x.kind ≤ 11) then 0 else 2 := by rw [Cl.wantE, if_neg (by rw [hnb]; simp), if_neg hnr, hy]
  have HW := Lib.hid (show c.want x = if c.wantE x = 0 then { c with req := c.req + 1, busy := some y, waited := 0 } else c by rw [Cl.want, hy])
  have HMw := Lib.hid (show M.want c x A B D k m n = if c.wantE x = 0 then { M with DC := cmA y A B D k m n } else M by rw [RfM.want, hy])
  have HE := Lib.hid hE
  have hyk : y.kind = x.kind := by rw [hy]; rfl
  have hyq : y.req = c.req + 1 := by rw [hy]; rfl
  have hyl : y.cal.wk.length ≤ 60 ∧ y.cal.cl.length ≤ 60 ∧ y.tm.lv.length ≤ 60 := by rw [hy]; exact hl
  have hya : -9223372036854775808 ≤ y.at_ ∧ y.at_ ≤ 9223372036854775807 := by rw [hy]; exact hx.1
  have hyr : CmR w G y A B D := by rw [hy]; exact ⟨hr.cal, hr.tm⟩
  have e1 : (cmA x A B D k m n).setIfInBounds 1 (.int .u64 c.number) = cmA { x with client := c.number } A B D k m n := by simp [cmA]
  have e2 : (cmA { x with client := c.number } A B D k m n).setIfInBounds 2 (.int .u64 ((c.req : Int) + 1)) = cmA y A B D k m n := by rw [hy]; simp [cmA, Cl.mk_]
  have hwr : IntKind.u64.wrap ((c.req : Int) + 1) = (c.req : Int) + 1 := IntWalk.u64_in _ (by omega)
  have hd1' : decide ((1152921504606846976 : Int) ≤ (c.req : Int)) = false := decide_eq_false (by omega)
  have hd2' : decide (1152921504606846976 ≤ c.req) = false := decide_eq_false hnr
  have q5 := (by3X w (rfC c M) (cmA x A B D k m n) 35).cell 5
  have q2 := (by3X w (rfC c M) (cmA x A B D k m n) 35).cell 2
  have q0 := (by3X w (rfC c M) (cmA x A B D k m n) 35).cell 0
  have p2 := (by3X w (rfC c M) (cmA { x with client := c.number } A B D k m n) 35).cell 2
  rw [rfC_lo c M (by omega)] at q5 q2 q0 p2
  simp [hnb] at q5 q2 q0 p2
  have y1 := (by3Y w (rfC c M) (cmA x A B D k m n) 35).cell 1
  have y2 := (by3Y w (rfC c M) (cmA { x with client := c.number } A B D k m n) 35).cell 2
  rw [show (cmA x A B D k m n)[1]? = some (.int .u64 x.client) from rfl] at y1
  rw [show (cmA { x with client := c.number } A B D k m n)[2]? = some (.int .u64 x.req) from rfl] at y2
  have g1 := (by3Y w (rfC c M) (cmA x A B D k m n) 35).frozen 1
  have g2 := (by3Y w (rfC c M) (cmA { x with client := c.number } A B D k m n) 35).frozen 2
  have HB := Lib.hid (by3X w (rfC c M) (cmA y A B D k m n) 35)
  have HY := Lib.hid (by3Y w (rfC c M) (cmA y A B D k m n) 35)
  have HR := Lib.hid (by3Z w (rfC c M) (cmA y A B D k m n) 35)
  have HT := Lib.hid (by3T w (rfC c M) (cmA y A B D k m n) 35)
  have HRy := Lib.hid (hyr.touch HT.out (fun _ _ e => e))
  have HSo := Lib.hid (fun w1 (hr1 : CmR w1 G y A B D) => (show Calls Try.prog 36 #[.agg (cmA y A B D k m n)] w1 fun e w' => e = .returned (.bool (cmSound y)) ∧ Touch (fun _ => False) w1 w' from fcmsound_any G A B D k m n y w1 hr1 (by omega) (by omega) (by omega) hya))
  have HZn := Lib.hid (show (#[.int .u64 0, .int .i64 0, .int .u64 0, .int .i64 0, .int .i64 0, .bool false, .int .i64 0, .int .u64 0, .int .u64 0, .int .u64 0, .int .i64 0, .int .i64 0, .int .i64 0, .slice none 0 0, .slice none 0 0, .int .i64 0, .slice none 0 0, .int .i64 0, .int .i64 0, .slice none 0 0] : Array Value).size = 20 from rfl)
  have HXn := Lib.hid (rfC_size (c := c) hd)
  have HX1 := Lib.hid (rfC_one (c := c) hd1 hv)
  have HYn := Lib.hid (cmA_size y A B D k m n)
  have HY1 := Lib.hid (cmA_one y A B D k m n)
  have k0 : (cmA y A B D k m n)[0]? = some (.int .i64 x.kind) := by rw [← hyk]; rfl
  have k2 : (cmA y A B D k m n)[2]? = some (.int .u64 ((c.req : Int) + 1)) := by rw [show (cmA y A B D k m n)[2]? = some (.int .u64 y.req) from rfl, hyq]; simp
  have HK0 := Lib.hid k0
  have HK2 := Lib.hid k2
  obtain ⟨c1, hc1⟩ : ∃ c1 : Cl, c1 = { c with req := c.req + 1 } := ⟨_, rfl⟩
  obtain ⟨c2, hc2⟩ : ∃ c2 : Cl, c2 = { c with req := c.req + 1, busy := some y } := ⟨_, rfl⟩
  obtain ⟨c3, hc3⟩ : ∃ c3 : Cl, c3 = { c with req := c.req + 1, busy := some y, waited := 0 } := ⟨_, rfl⟩
  obtain ⟨M2, hM2⟩ : ∃ M2 : RfM, M2 = { M with DC := cmA y A B D k m n } := ⟨_, rfl⟩
  rw [← hc3] at HW
  rw [← hM2] at HMw
  have s1 := rfC_set c c1 M M 2 (.int .u64 ((c.req : Int) + 1)) rfl rfl (by rw [hc1]; simp) (by omega)
  have s2 := rfC_set c1 c2 M M 5 (.bool true) rfl rfl (by rw [hc1, hc2]; simp) (by omega)
  have s3 := rfC_setDC c2 M (cmA y A B D k m n) hd HYn.out
  rw [← hM2] at s3
  have s4 := rfC_set c2 c3 M2 M2 4 (.int .i64 0) rfl rfl (by rw [hc2, hc3]; simp) (by omega)
  have k4 : (rfC c2 M2)[4]? = some (.int .i64 c.waited) := by rw [rfC_lo c2 M2 (by omega), hc2]; rfl
  have k02 : (rfC c M)[2]? = some (.int .u64 c.req) := by rw [rfC_lo c M (by omega)]; rfl
  have k05 : (rfC c M)[5]? = some (.bool false) := by rw [rfC_lo c M (by omega)]; simp [hnb]
  have HFn := Lib.hid (rfC_size (c := c3) (M := M2) (by rw [hM2]; exact HYn.out))
  have HF1 := Lib.hid (rfC_one (c := c3) (M := M2) (by rw [hM2]; exact HY1.out) (by rw [hM2]; exact hv))
  have HSn := Lib.hid (rfC_size (c := c2) hd)
  have HK02 := Lib.hid k02
  have HK05 := Lib.hid k05
  have HK4 := Lib.hid k4
  have HS1 := Lib.hid s1
  have HS2 := Lib.hid s2
  have HS3 := Lib.hid s3
  have HS4 := Lib.hid s4
  clear s1 s2 s3 s4 k4 k02 k05 hc1 hc2 hc3 hM2
  obtain ⟨X0, hX0⟩ : ∃ X0, X0 = rfC c M := ⟨_, rfl⟩
  have HX0 := Lib.hid hX0
  obtain ⟨Y2, hY2⟩ : ∃ Y2, Y2 = cmA y A B D k m n := ⟨_, rfl⟩
  rw [← hX0] at q5 q2 q0 p2 y1 y2 g1 g2 HB HY HR HT HXn HX1 HS1 HRy HK02 HK05 ⊢
  rw [← hY2] at e2 HB HY HR HT HSo HYn HY1 HK0 HK2 HS3 HRy
  obtain ⟨X1, hX1⟩ : ∃ X1, X1 = rfC c1 M := ⟨_, rfl⟩
  obtain ⟨X2, hX2⟩ : ∃ X2, X2 = rfC c2 M := ⟨_, rfl⟩
  obtain ⟨X3, hX3⟩ : ∃ X3, X3 = rfC c2 M2 := ⟨_, rfl⟩
  obtain ⟨X4, hX4⟩ : ∃ X4, X4 = rfC c3 M2 := ⟨_, rfl⟩
  rw [← hX1] at HS1 HS2
  rw [← hX2] at HS2 HS3 HSn
  rw [← hX3] at HS3 HS4 HK4
  rw [← hX4] at HS4 HFn HF1
  have HX4 := Lib.hid hX4
  generalize cmA x A B D k m n = Y0 at *
  generalize cmA { x with client := c.number } A B D k m n = Y1 at *
  have hc0 : c.req ≤ 1152921504606846976 := ok.rq
  clear hX0 hX1 hX2 hX3 hX4 hY2 hE k0 k2 hyr hya hyl hr hl hx hd hd1 hv ok hy hyk hyq hnr hnb
  cases hs : cmSound y
  · have HE2 := Lib.hid (show c.wantE x = 2 by rw [HE.out, if_neg (by rw [hs]; simp)])
    rw [HW.out, HMw.out, HE2.out, if_neg (by decide), if_neg (by decide), ← HX0.out]
    rw [hs] at HSo
    clear hs
    go_enter Try.func27, Try.ntmps27
    go_wp2_with (first
      | ((with_reducible apply HY.out.ld rowCm HYn.out); exact rfl; exact rfl; exact rfl)
      | (go_at_call 36; go_must (refine (HSo.out _ (by exact HRy.out)).mono ?_); rintro e w1 ⟨rfl, t1⟩
         have HB1 := Lib.hid (t1.blk HB.out (fun e => e))
         have HR1 := Lib.hid (t1.blk HR.out (fun e => e))
         have HT1 := Lib.hid (HT.out.trans t1 (fun _ _ e => e))
         clear t1)
      | ((with_reducible apply HB1.out.ld rowRf HXn.out); exact rfl; exact rfl; exact rfl)
      | ((with_reducible apply HR1.out.st rowRf HZn.out HXn.out HX1.out); exact rfl; exact rfl; exact rfl; exact rfl
         intro w4 hb4 t4
         have HB4 := Lib.hid hb4
         have HT4 := Lib.hid (HT1.out.trans t4 (S := fun _ => False) (fun k hk e => by omega))
         clear hb4 t4))
    refine bodyPost_ret (results_cell2 4 5 rowRf HXn.out (HB4.out.whole) rfl rfl) rfl ?_
    exact ⟨rfl, HT4.out⟩
  rw [hs] at HSo
  by_cases hk : 9 ≤ x.kind ∧ x.kind ≤ 11
  · have HE2 := Lib.hid (show c.wantE x = 2 by rw [HE.out, if_neg (by rintro ⟨_, h⟩; exact h hk)])
    rw [HW.out, HMw.out, HE2.out, if_neg (by decide), if_neg (by decide), ← HX0.out]
    have hkd : x.kind = 9 ∨ x.kind = 10 ∨ x.kind = 11 := by omega
    clear hs hk HE2 HE HW HMw
    generalize x.kind = kd at *
    rcases hkd with rfl | rfl | rfl
    all_goals
      go_enter Try.func27, Try.ntmps27
      go_wp2_with (first
        | ((with_reducible apply HY.out.ld rowCm HYn.out); exact rfl; exact rfl; exact rfl)
        | (go_at_call 36; go_must (refine (HSo.out _ (by exact HRy.out)).mono ?_); rintro e w1 ⟨rfl, t1⟩
           have HB1 := Lib.hid (t1.blk HB.out (fun e => e))
           have HR1 := Lib.hid (t1.blk HR.out (fun e => e))
           have HT1 := Lib.hid (HT.out.trans t1 (fun _ _ e => e))
           have k0 := (t1.blk HY.out (fun e => e)).cell 0
           rw [HK0.out] at k0
           clear t1)
        | ((with_reducible apply HB1.out.ld rowRf HXn.out); exact rfl; exact rfl; exact rfl)
        | ((with_reducible apply HR1.out.st rowRf HZn.out HXn.out HX1.out); exact rfl; exact rfl; exact rfl; exact rfl
           intro w4 hb4 t4
           have HB4 := Lib.hid hb4
           have HT4 := Lib.hid (HT1.out.trans t4 (S := fun _ => False) (fun k hk e => by omega))
           clear hb4 t4))
      refine bodyPost_ret (results_cell2 4 5 rowRf HXn.out (HB4.out.whole) rfl rfl) rfl ?_
      exact ⟨rfl, HT4.out⟩
  · have HE2 := Lib.hid (show c.wantE x = 0 by rw [HE.out, if_pos ⟨hs, hk⟩])
    rw [HW.out, HMw.out, HE2.out, if_pos rfl, if_pos rfl, ← HX4.out]
    have hkd : ¬ 9 ≤ x.kind ∨ (9 ≤ x.kind ∧ ¬ x.kind ≤ 11) := by omega
    clear hs hk HE2 HE HW HMw
    generalize x.kind = kd at *
    have HSz := Lib.hid (show 6 + 13 ≤ X2.size by rw [HSn.out]; omega)
    rcases hkd with hk | ⟨hk, hk2⟩
    all_goals
      go_enter Try.func27, Try.ntmps27
      go_wp2_with (first
        | ((with_reducible apply HY.out.ld rowCm HYn.out); exact rfl; exact rfl; exact rfl)
        | (go_at_call 36; go_must (refine (HSo.out _ (by exact HRy.out)).mono ?_); rintro e w1 ⟨rfl, t1⟩
           have HB1 := Lib.hid (t1.blk HB.out (fun e => e))
           have HYw := Lib.hid (t1.blk HY.out (fun e => e))
           have HR1 := Lib.hid (t1.blk HR.out (fun e => e))
           have HT1 := Lib.hid (HT.out.trans t1 (fun _ _ e => e))
           have k0 := HYw.out.cell 0
           have k2 := HYw.out.cell 2
           have x2 := HB1.out.cell 2
           have x5 := HB1.out.cell 5
           have f2 := HB1.out.frozen 2
           have f5 := HB1.out.frozen 5
           rw [HK0.out] at k0
           rw [HK2.out] at k2
           rw [HK02.out] at x2
           rw [HK05.out] at x5
           have tt := ((Touch.refl (fun q => q = w.heap.size) w1).set (b := w.heap.size) (o := 2) (fun _ => rfl) (.int .u64 ((c.req : Int) + 1))).set (b := w.heap.size) (o := 5) (fun _ => rfl) (.bool true)
           have HYx := Lib.hid (tt.blk HYw.out (by omega))
           have HRx := Lib.hid (tt.blk HR1.out (by omega))
           have hbx := (HB1.out.set_ 2 (.int .u64 ((c.req : Int) + 1))).set_ 5 (.bool true)
           rw [HS1.out, HS2.out] at hbx
           have HBx := Lib.hid hbx
           have HTx := Lib.hid (HT1.out.trans tt (S := fun _ => False) (fun k hk e => by omega))
           clear t1 tt hbx)
        | ((with_reducible apply HYx.out.ld rowCm HYn.out); exact rfl; exact rfl; exact rfl)
        | ((with_reducible apply HBx.out.stp (k := 6) rowCm HSz.out HYn.out HY1.out); exact rfl; exact rfl; exact rfl; exact rfl
           intro w6 hb6 t6
           rw [HS3.out] at hb6
           have x4 := hb6.cell 4
           have f4 := hb6.frozen 4
           rw [HK4.out] at x4
           have t6' := t6.set (b := w.heap.size) (o := 4) (fun _ => rfl) (.int .i64 0)
           have HR6 := Lib.hid (t6'.blk HRx.out (by omega))
           have hb7 := hb6.set_ 4 (.int .i64 0)
           rw [HS4.out] at hb7
           have HB7 := Lib.hid hb7
           have HT6 := Lib.hid (HTx.out.trans t6' (S := fun _ => False) (fun k hk e => by omega))
           clear hb6 t6 t6' hb7)
        | ((with_reducible apply HB7.out.ld rowRf HFn.out); exact rfl; exact rfl; exact rfl)
        | ((with_reducible apply HR6.out.st rowRf HZn.out HFn.out HF1.out); exact rfl; exact rfl; exact rfl; exact rfl
           intro w8 hb8 t8
           have HB8 := Lib.hid hb8
           have HT8 := Lib.hid (HT6.out.trans t8 (S := fun _ => False) (fun k hk e => by omega))
           clear hb8 t8))
      refine bodyPost_ret (results_cell2 4 5 rowRf HFn.out (HB8.out.whole) rfl rfl) rfl ?_
      exact ⟨rfl, HT8.out⟩
end Go.Proofs.Ytlcefchbfjfifaa
end

section
namespace Go.Proofs.Ytlcefchbfjfifaa
open Go.RowKit Cal
set_option maxHeartbeats 4000000
set_option maxRecDepth 100000
set_option linter.unusedVariables false
attribute [local irreducible] wpPlan

theorem RdZ.mono' {w : World} {F F' : Nat → Prop} {sz : Nat} {A : Option Addr} {n : Nat} {xs : List Value} (h : RdZ w F sz A n xs) (hF : ∀ k, F k → F' k) : RdZ w F' sz A n xs :=
  ⟨h.1, fun hn => by obtain ⟨g, o, h1, h2, h3, h4⟩ := h.2 hn; exact ⟨g, o, h1, h2, hF _ h3, h4⟩⟩
theorem RfR.mono {w : World} {F F' : Nat → Prop} {c : Cl} {M : RfM} (h : RfR w F c M) (hF : ∀ k, F k → F' k) : RfR w F' c M := by
  refine ⟨h.dn, h.d1, fun x hx => ?_, ?_, h.eqs, fun x hx => (h.rows x hx).mono hF⟩
  · obtain ⟨A, B, D, k, m, n, e, hr⟩ := h.bu x hx
    exact ⟨A, B, D, k, m, n, e, hr.mono hF⟩
  · obtain ⟨A, cap, e, h1, h2, h3, h4⟩ := h.dv
    exact ⟨A, cap, e, h1, h2, h3, h4.mono' hF⟩
theorem RfR.dv1 {w : World} {F : Nat → Prop} {c : Cl} {M : RfM} (h : RfR w F c M) : M.dv.oneCell' = true := by
  obtain ⟨A, cap, e, -⟩ := h.dv
  rw [e]; rfl
theorem RfR.same {w : World} {F : Nat → Prop} {c c' : Cl} {M : RfM} (h : RfR w F c M) (hb : c'.busy = c.busy) (hd : c'.done = c.done) : RfR w F c' M :=
  ⟨h.dn, h.d1, fun x hx => h.bu x (hb ▸ hx), by rw [hd]; exact h.dv, by rw [hd]; exact h.eqs, h.rows⟩
theorem RfR.nxt {w : World} {F : Nat → Prop} {c : Cl} {M : RfM} (h : RfR w F c M) : RfR w F c.nxt M := h.same rfl rfl
theorem RfR.tick {w : World} {F : Nat → Prop} {c : Cl} {M : RfM} (h : RfR w F c M) : RfR w F c.tick M := by
  refine h.same ?_ ?_
  · unfold Cl.tick; split
    · split <;> rfl
    · rfl
  · unfold Cl.tick; split
    · split <;> rfl
    · rfl
theorem RfR.want {w : World} {F : Nat → Prop} {c : Cl} {M : RfM} (h : RfR w F c M) {x : Cm} {A B D : Option Addr} {k m n : Nat} (hr : CmR w F x A B D) : RfR w F (c.want x) (M.want c x A B D k m n) := by
  unfold Cl.want RfM.want
  split
  · refine ⟨cmA_size .., cmA_one .., fun y hy => ?_, h.dv, h.eqs, h.rows⟩
    simp only [Option.some.injEq] at hy
    subst hy
    exact ⟨A, B, D, k, m, n, rfl, ⟨hr.cal, hr.tm⟩⟩
  · exact h
/-- What Hear hands back. -/
def FhP (b : Bool) (c' : Cl) (F G : Nat → Prop) (w : World) (e : Ending) (w' : World) : Prop :=
  ∃ M', e = .returned (.tuple #[.agg (rfC c' M'), .bool b]) ∧ RfR w' (fun k => F k ∨ G k ∨ (w.heap.size ≤ k ∧ k < w'.heap.size)) c' M' ∧ Touch (fun _ => False) w w'
theorem FhP.of {b : Bool} {c' : Cl} {F G : Nat → Prop} {w w' : World} {M : RfM} (h : RfR w F c' M) (t : Touch (fun _ => False) w w') : FhP b c' F G w (.returned (.tuple #[.agg (rfC c' M), .bool b])) w' :=
  ⟨M, rfl, (h.touch t (fun _ _ e => e)).mono (fun k hk => .inl hk), t⟩
theorem fhear_no {w : World} {c : Cl} {M : RfM} {F : Nat → Prop} (h : RfR w F c M) (AC R : Array Value) (ac ar : Nat) (code : Int) (hA : AnC AC R ac ar code) (G : Nat → Prop) (hm : c.mine ac ar = false) :
    Calls Try.prog 25 #[.agg (rfC c M), .agg AC] w (FhP false c F G w) := by
  have HZn := Lib.hid (show (#[.int .u64 0, .int .i64 0, .int .u64 0, .int .i64 0, .int .i64 0, .bool false, .int .i64 0, .int .u64 0, .int .u64 0, .int .u64 0, .int .i64 0, .int .i64 0, .int .i64 0, .slice none 0 0, .slice none 0 0, .int .i64 0, .slice none 0 0, .int .i64 0, .int .i64 0, .slice none 0 0] : Array Value).size = 20 from rfl)
  have HXn := Lib.hid (rfC_size (c := c) h.dn)
  have HX1 := Lib.hid (rfC_one (c := c) h.d1 h.dv1)
  have HB := Lib.hid (by3X w (rfC c M) AC 81)
  have HR := Lib.hid (by3Z w (rfC c M) AC 81)
  have HT := Lib.hid (by3T w (rfC c M) AC 81)
  have q5 := HB.out.cell 5
  have q2 := HB.out.cell 2
  have q0 := HB.out.cell 0
  rw [rfC_lo c M (by omega)] at q5 q2 q0
  simp at q5 q2 q0
  have x0 := (by3Y w (rfC c M) AC 81).cell 0
  have x1 := (by3Y w (rfC c M) AC 81).cell 1
  rw [hA.k0] at x0
  rw [hA.k1] at x1
  have HF := Lib.hid (fun (w' : World) (t : Touch (fun _ => False) w w') => (FhP.of h t : FhP false c F G w _ w'))
  have hm' : c.busy.isSome = false ∨ (c.busy.isSome = true ∧ ac ≠ c.number) ∨ (c.busy.isSome = true ∧ ac = c.number ∧ ar ≠ c.req) := by
    unfold Cl.mine at hm
    cases hb : c.busy.isSome
    · exact .inl rfl
    · rw [hb] at hm
      by_cases e : ac = c.number
      · refine .inr (.inr ⟨rfl, e, fun e2 => ?_⟩)
        simp [e, e2] at hm
      · exact .inr (.inl ⟨rfl, e⟩)
  obtain ⟨X0, hX0⟩ : ∃ X0, X0 = rfC c M := ⟨_, rfl⟩
  rw [← hX0] at q5 q2 q0 x0 x1 HB HR HT HXn HX1 HF ⊢
  clear h hA hm hX0
  generalize hbs : c.busy.isSome = bs at *
  generalize c.number = nu at *
  generalize c.req = rq at *
  clear hbs
  rcases hm' with rfl | ⟨rfl, hne⟩ | ⟨rfl, rfl, hne⟩
  · go_enter Try.func25, Try.ntmps25
    go_wp2_with (first
      | ((with_reducible apply HB.out.ld rowRf HXn.out); exact rfl; exact rfl; exact rfl)
      | ((with_reducible apply HR.out.st rowRf HZn.out HXn.out HX1.out); exact rfl; exact rfl; exact rfl; exact rfl
         intro w4 hb4 t4
         have HB4 := Lib.hid hb4
         have HT4 := Lib.hid (HT.out.trans t4 (S := fun _ => False) (fun k hk e => by omega))
         clear hb4 t4))
    refine bodyPost_ret (results_cell2 4 5 rowRf HXn.out (HB4.out.whole) rfl rfl) rfl ?_
    exact HF.out _ HT4.out
  · have hb1 : ((ac : Int) != (nu : Int)) = true := by simp; omega
    go_enter Try.func25, Try.ntmps25
    go_wp2_with (first
      | ((with_reducible apply HB.out.ld rowRf HXn.out); exact rfl; exact rfl; exact rfl)
      | ((with_reducible apply HR.out.st rowRf HZn.out HXn.out HX1.out); exact rfl; exact rfl; exact rfl; exact rfl
         intro w4 hb4 t4
         have HB4 := Lib.hid hb4
         have HT4 := Lib.hid (HT.out.trans t4 (S := fun _ => False) (fun k hk e => by omega))
         clear hb4 t4))
    refine bodyPost_ret (results_cell2 4 5 rowRf HXn.out (HB4.out.whole) rfl rfl) rfl ?_
    exact HF.out _ HT4.out
  · have hb1 : ((ar : Int) != (rq : Int)) = true := by simp; omega
    go_enter Try.func25, Try.ntmps25
    go_wp2_with (first
      | ((with_reducible apply HB.out.ld rowRf HXn.out); exact rfl; exact rfl; exact rfl)
      | ((with_reducible apply HR.out.st rowRf HZn.out HXn.out HX1.out); exact rfl; exact rfl; exact rfl; exact rfl
         intro w4 hb4 t4
         have HB4 := Lib.hid hb4
         have HT4 := Lib.hid (HT.out.trans t4 (S := fun _ => False) (fun k hk e => by omega))
         clear hb4 t4))
    refine bodyPost_ret (results_cell2 4 5 rowRf HXn.out (HB4.out.whole) rfl rfl) rfl ?_
    exact HF.out _ HT4.out
/-- An answer that is no OK: the next one is asked. -/
theorem fhear_err {w : World} {c : Cl} {M : RfM} {F : Nat → Prop} (h : RfR w F c M) (ok : c.Ok) (AC R : Array Value) (code : Int) (hA : AnC AC R c.number c.req code) (G : Nat → Prop) (hb : c.busy.isSome = true) (hc : code ≠ 0) :
    Calls Try.prog 25 #[.agg (rfC c M), .agg AC] w (FhP false c.nxt F G w) := by
  have HZn := Lib.hid (show (#[.int .u64 0, .int .i64 0, .int .u64 0, .int .i64 0, .int .i64 0, .bool false, .int .i64 0, .int .u64 0, .int .u64 0, .int .u64 0, .int .i64 0, .int .i64 0, .int .i64 0, .slice none 0 0, .slice none 0 0, .int .i64 0, .slice none 0 0, .int .i64 0, .int .i64 0, .slice none 0 0] : Array Value).size = 20 from rfl)
  have HXn := Lib.hid (rfC_size (c := c) h.dn)
  have HYn := Lib.hid (rfC_size (c := c.nxt) h.dn)
  have HY1 := Lib.hid (rfC_one (c := c.nxt) h.d1 h.dv1)
  have HB := Lib.hid (by3X w (rfC c M) AC 81)
  have HR := Lib.hid (by3Z w (rfC c M) AC 81)
  have HT := Lib.hid (by3T w (rfC c M) AC 81)
  have q5 := HB.out.cell 5
  have q2 := HB.out.cell 2
  have q0 := HB.out.cell 0
  rw [rfC_lo c M (by omega)] at q5 q2 q0
  simp [hb] at q5 q2 q0
  have x0 := (by3Y w (rfC c M) AC 81).cell 0
  have x1 := (by3Y w (rfC c M) AC 81).cell 1
  have x2 := (by3Y w (rfC c M) AC 81).cell 2
  rw [hA.k0] at x0
  rw [hA.k1] at x1
  rw [hA.k2] at x2
  have HF := Lib.hid (fun (w' : World) (t : Touch (fun _ => False) w w') => (FhP.of h.nxt t : FhP false c.nxt F G w _ w'))
  have HN := Lib.hid (fun w => fnext_any c M h.dn h.d1 h.dv1 ok.at_ ok.se.2 w)
  have hcb : (code != 0) = true := by simp [hc]
  obtain ⟨X0, hX0⟩ : ∃ X0, X0 = rfC c M := ⟨_, rfl⟩
  obtain ⟨X1, hX1⟩ : ∃ X1, X1 = rfC c.nxt M := ⟨_, rfl⟩
  rw [← hX0] at q5 q2 q0 x0 x1 x2 HB HR HT HXn HN ⊢
  rw [← hX1] at HYn HY1 HN HF
  clear h hA hX0 hX1 ok hb
  generalize c.number = nu at *
  generalize c.req = rq at *
  go_enter Try.func25, Try.ntmps25
  go_wp2_with (first
    | ((with_reducible apply HB.out.ld rowRf HXn.out); exact rfl; exact rfl; exact rfl)
    | (go_at_call 50; go_must (refine (HN.out _).mono ?_); rintro e w2 ⟨rfl, t2⟩; have HT2 := Lib.hid (HT.out.trans t2 (fun _ _ e => e)); have HR2 := Lib.hid (t2.blk HR.out (fun e => e)); clear t2)
    | ((with_reducible apply HR2.out.st rowRf HZn.out HYn.out HY1.out); exact rfl; exact rfl; exact rfl; exact rfl
       intro w4 hb4 t4
       have HB4 := Lib.hid hb4
       have HT4 := Lib.hid (HT2.out.trans t4 (S := fun _ => False) (fun k hk e => by omega))
       clear hb4 t4))
  refine bodyPost_ret (results_cell2 4 5 rowRf HYn.out (HB4.out.whole) rfl rfl) rfl ?_
  exact HF.out _ HT4.out
end Go.Proofs.Ytlcefchbfjfifaa
end

section
namespace Go.Proofs.Ytlcefchbfjfifaa
open Go.RowKit Cal
set_option maxHeartbeats 4000000
set_option maxRecDepth 100000
set_option linter.unusedVariables false
attribute [local irreducible] wpPlan

theorem infoRf : (Try.prog.info? 117).map (fun i => (i.zero, i.size, i.bytes)) = some (some (.agg (#[.int .i64 0, .int .u64 0, .int .u64 0, .int .u64 0, .int .i64 0, .int .i64 0, .int .i64 0, .slice none 0 0, .slice none 0 0, .int .i64 0, .slice none 0 0, .int .i64 0, .int .i64 0, .int .i64 0, .int .i64 0, .int .u64 0, .int .i64 0, .int .i64 0, .int .i64 0, .int .u64 0, .int .i64 0, .int .i64 0, .int .i64 0, .int .i64 0, .slice none 0 0, .int .u64 0, .int .i64 0] : Array Value)), 27, 280) := by kernel_rfl
theorem RdZ.src27 {w : World} {F : Nat → Prop} {A : Option Addr} {n c : Nat} {xs : List Value} (hr : RdZ w F 27 A n xs) (hA : A = none → c = 0) (h1 : ∀ u ∈ xs, u.oneCell' = true) : Src Try.prog 27 36 (.slice A n c) n xs w := by
  rcases A with _ | ad
  · have h0 : n = 0 := by
      rcases Nat.eq_zero_or_pos n with h | h
      · exact h
      · obtain ⟨_, _, e, _⟩ := hr.2 h; cases e
    subst h0
    have hx : xs = [] := List.eq_nil_of_length_eq_zero (by have := hr.1; omega)
    subst hx
    rw [hA rfl]
    exact Src.ofNil w Try.underlying36 0
  · refine Src.ofSlice w Try.underlying36 ad _ _ _ hr.1 (fun j u hj => ?_) h1
    have hn : 0 < n := by
      have h2 := hr.1
      have h3 := (List.getElem?_eq_some_iff.1 hj).1
      rcases Nat.eq_zero_or_pos n with h | h
      · rw [h] at h2; omega
      · exact h
    obtain ⟨g, off, e, -, -, hc⟩ := hr.2 hn
    injection e with e
    subst e
    rw [addr_add]; exact hc j u hj
/-- A row of the call's own, read. -/
theorem Own.full {w : World} {T : TypeId} {v : Value} {r : Option Nat} {n sz : Nat} {xs : List Value} (h : Own w T sz v r n xs) : ∃ A c, v = .slice A n c ∧ (A = none → c = 0) ∧ n ≤ c ∧ c ≤ maxLen ∧ RdZ w (fun k => r = some k) sz A n xs := by
  rcases h.2 with ⟨hv, hn, _⟩ | ⟨g, cap, cur, hr, hv, hb, hn, hc, hs, ht⟩
  · exact ⟨none, 0, by rw [hv, hn], fun _ => rfl, by omega, by simp, h.1, fun h0 => by omega⟩
  · refine ⟨_, cap, hv, fun e => (by cases e), hn, hc, h.1, fun hpos => ⟨g, 0, rfl, hb.lt, hr, fun j u hj => ?_⟩⟩
    rw [Nat.zero_add, hb.cell]
    rw [← ht, List.getElem?_take] at hj
    split at hj
    · simpa using hj
    · cases hj
theorem flat_one (xs : List ResV) : ∀ u ∈ xs.flatMap ResV.cells, u.oneCell' = true := by
  intro u hu
  obtain ⟨x, -, hx⟩ := List.mem_flatMap.1 hu
  exact x.one_mem u hx
theorem by3d {w : World} {X Y : Array Value} {T : TypeId} : Touch (fun _ => False) w (((w.alloc (.cells X 38)).alloc (.cells Y T)).alloc (.cells #[.int .u64 0, .int .i64 0, .int .u64 0, .int .i64 0, .int .i64 0, .bool false, .int .i64 0, .int .u64 0, .int .u64 0, .int .u64 0, .int .i64 0, .int .i64 0, .int .i64 0, .slice none 0 0, .slice none 0 0, .int .i64 0, .slice none 0 0, .int .i64 0, .int .i64 0, .slice none 0 0] 38)).drew := (by3T w X Y T).drew
namespace PF
section
variable {P : Program} {ops : Array Oper} {Q : Exit → Act → World → Prop} {E : Act → World → Prop} {T : Nat → Prop}
theorem plan_b1 {i : Nat} {o : Oper} {rest : List Stp} {a : Act} {w : World} (hi : ops[i]? = some o) (hw : Region.wanted o (yielded ops a.tmps) = true)
    (h : ∀ K : Act → World → Prop, (∀ a' w', wpPlan P ops Q E T rest a' w' → K a' w') → o.wp P a w K Q) : wpPlan P ops Q E T ((3, i) :: rest) a w := by
  have h1 := h _ (fun _ _ h => h)
  simp only [wpPlan, show ¬ ((3 : Nat) = 0) by decide, show ¬ ((3 : Nat) = 1) by decide, if_false, if_true, wpOp, hi]
  rw [if_pos hw]
  exact .inl h1
end
attribute [local irreducible] wpPlan
theorem fhear_yes {w : World} {c : Cl} {M : RfM} {F : Nat → Prop} (h : RfR w F c M) (AC : Array Value) (r : RpV) (RA : Option Addr) (rn : Nat) (hA : AnC AC (rpA r RA rn) c.number c.req 0) (G : Nat → Prop) (hr : Rd w G RA r.fired.length (r.fired.map U64)) (hdl : c.done.length ≤ 100000) (hFl : ∀ q, F q → q < w.heap.size) (x : Cm) (hb : c.busy = some x) :
    Calls Try.prog 25 #[.agg (rfC c M), .agg AC] w (FhP true { c with busy := none, done := c.done ++ [(x, r)] } F G w) := by
  obtain ⟨A, B, D, k, m, n, hDC, hcm⟩ := h.bu x hb
  obtain ⟨Ad, cap, hdv, hAn, hcn, hcm2, hrd⟩ := h.dv
  obtain ⟨i0, hi, hz0, hz1, hz2⟩ := info_parts infoRf
  obtain ⟨c1, hc1⟩ : ∃ c1 : Cl, c1 = { c with busy := none } := ⟨_, rfl⟩
  have e5 := rfC_set c c1 M M 5 (.bool false) rfl rfl (by rw [hc1]; simp) (by omega)
  obtain ⟨V, hV⟩ : ∃ V : ResV, V = ⟨x, r, A, B, D, RA, k, m, n, rn⟩ := ⟨_, rfl⟩
  have HVa := Lib.hid (show V.arr = #[.int .i64 x.kind, .int .u64 x.client, .int .u64 x.req, .int .u64 x.id, .int .i64 x.con, .int .i64 x.at_, .int .i64 x.cal.off, .slice A x.cal.wk.length k, .slice B x.cal.cl.length m, .int .i64 x.tm.cal, .slice D x.tm.lv.length n, .int .i64 x.tm.rt, .int .i64 x.tm.bk, .int .i64 r.code, .int .i64 r.time, .int .u64 r.t.id, .int .i64 r.t.contract, .int .i64 r.t.state, .int .i64 r.t.level, .int .u64 r.t.gen, .int .i64 r.t.from_, .int .i64 r.t.left, .int .i64 r.t.due, .int .i64 r.t.told, .slice RA r.fired.length rn, .int .u64 r.notice, .int .i64 r.dead] by rw [hV]; rfl)
  have q5 := (by3X w (rfC c M) AC 81).cell 5
  have q2 := (by3X w (rfC c M) AC 81).cell 2
  have q0 := (by3X w (rfC c M) AC 81).cell 0
  have f5 := (by3X w (rfC c M) AC 81).frozen 5
  rw [rfC_lo c M (by omega)] at q5 q2 q0
  simp [hb] at q5 q2 q0
  have x0 := (by3Y w (rfC c M) AC 81).cell 0
  have x1 := (by3Y w (rfC c M) AC 81).cell 1
  have x2 := (by3Y w (rfC c M) AC 81).cell 2
  rw [hA.k0] at x0
  rw [hA.k1] at x1
  rw [hA.k2] at x2
  obtain ⟨W1, hW1⟩ : ∃ W1, W1 = (((w.alloc (.cells (rfC c1 M) 38)).alloc (.cells AC 81)).alloc (.cells #[.int .u64 0, .int .i64 0, .int .u64 0, .int .i64 0, .int .i64 0, .bool false, .int .i64 0, .int .u64 0, .int .u64 0, .int .u64 0, .int .i64 0, .int .i64 0, .int .i64 0, .slice none 0 0, .slice none 0 0, .int .i64 0, .slice none 0 0, .int .i64 0, .int .i64 0, .slice none 0 0] 38)) := ⟨_, rfl⟩
  obtain ⟨W2, hW2⟩ : ∃ W2, W2 = W1.drew := ⟨_, rfl⟩
  have HT := Lib.hid (show Touch (fun _ => False) w W2 from by rw [hW2, hW1]; exact by3d)
  have HB := Lib.hid (show Blk W2 w.heap.size 38 (rfC c1 M) from by rw [hW2, hW1]; exact (Touch.refl (fun _ => False) _).drew.blk (by3X w (rfC c1 M) AC 81) (fun e => e))
  have HY := Lib.hid (show Blk W2 (w.heap.size + 1) 81 AC from by rw [hW2, hW1]; exact (Touch.refl (fun _ => False) _).drew.blk (by3Y w (rfC c1 M) AC 81) (fun e => e))
  have HR2 := Lib.hid (show Blk W2 (w.heap.size + 2) 38 #[.int .u64 0, .int .i64 0, .int .u64 0, .int .i64 0, .int .i64 0, .bool false, .int .i64 0, .int .u64 0, .int .u64 0, .int .u64 0, .int .i64 0, .int .i64 0, .int .i64 0, .slice none 0 0, .slice none 0 0, .int .i64 0, .slice none 0 0, .int .i64 0, .int .i64 0, .slice none 0 0] from by rw [hW2, hW1]; exact (Touch.refl (fun _ => False) _).drew.blk (by3Z w (rfC c1 M) AC 81) (fun e => e))
  have hzW2 : w.heap.size + 3 ≤ W2.heap.size := by have := HR2.out.lt; omega
  have HW1 := Lib.hid hW1
  have HZn := Lib.hid (show (#[.int .u64 0, .int .i64 0, .int .u64 0, .int .i64 0, .int .i64 0, .bool false, .int .i64 0, .int .u64 0, .int .u64 0, .int .u64 0, .int .i64 0, .int .i64 0, .int .i64 0, .slice none 0 0, .slice none 0 0, .int .i64 0, .slice none 0 0, .int .i64 0, .int .i64 0, .slice none 0 0] : Array Value).size = 20 from rfl)
  have hk19 := rfC_dv c1 M h.dn
  rw [hdv] at hk19
  have HK19 := Lib.hid hk19
  have HDC := Lib.hid ((rfC_DC c1 M h.dn).trans hDC)
  have HRx := Lib.hid hA.r
  have hrdW := hrd.touch HT.out (fun _ _ e => e)
  have hneF : ∀ q, F q → ¬ (w.heap.size + 3 ≤ q) := fun q hq e => by have := hFl q hq; omega
  have HR := Lib.hid (show RdZ W2 (fun q => ¬ (w.heap.size + 3 ≤ q)) 27 Ad c.done.length (M.xs.flatMap ResV.cells) from hrdW.mono' hneF)
  have HAn := Lib.hid hAn
  have HXo := Lib.hid (flat_one M.xs)
  have HSW2 := Lib.hid (Touch.refl (fun q => w.heap.size + 3 ≤ q) W2)
  have HFin := Lib.hid (fun (U : World) (v9 : Value) (r9 : Option Nat) (ho : Own U 117 27 v9 r9 (c.done.length + 1) (M.xs.flatMap ResV.cells ++ V.cells)) (hk : ∀ q, r9 = some q → w.heap.size + 3 ≤ q) (hs : Touch (fun q => w.heap.size + 3 ≤ q) W2 U) =>
    (show Blk (U.setCell ⟨w.heap.size, 19, none⟩ v9) w.heap.size 38 (rfC { c with busy := none, done := c.done ++ [(x, r)] } { M with dv := v9, xs := M.xs ++ [V] }) ∧ Blk (U.setCell ⟨w.heap.size, 19, none⟩ v9) (w.heap.size + 2) 38 #[.int .u64 0, .int .i64 0, .int .u64 0, .int .i64 0, .int .i64 0, .bool false, .int .i64 0, .int .u64 0, .int .u64 0, .int .u64 0, .int .i64 0, .int .i64 0, .int .i64 0, .slice none 0 0, .slice none 0 0, .int .i64 0, .slice none 0 0, .int .i64 0, .int .i64 0, .slice none 0 0] ∧ (rfC { c with busy := none, done := c.done ++ [(x, r)] } { M with dv := v9, xs := M.xs ++ [V] }).size = 20 ∧ (rfC { c with busy := none, done := c.done ++ [(x, r)] } { M with dv := v9, xs := M.xs ++ [V] }).all (·.oneCell') = true ∧ ∀ w4, Touch (fun q => q = w.heap.size + 2) (U.setCell ⟨w.heap.size, 19, none⟩ v9) w4 → FhP true { c with busy := none, done := c.done ++ [(x, r)] } F G w (.returned (.tuple #[.agg (rfC { c with busy := none, done := c.done ++ [(x, r)] } { M with dv := v9, xs := M.xs ++ [V] }), .bool true])) w4 from by
      obtain ⟨A9, c9, hv9, g1, g2, g3, g4⟩ := ho.full
      have hone : v9.oneCell' = true := by rw [hv9]; rfl
      have ts : Touch (fun q => q = w.heap.size) U (U.setCell ⟨w.heap.size, 19, none⟩ v9) := (Touch.refl (fun q => q = w.heap.size) U).set (b := w.heap.size) (o := 19) (fun _ => rfl) v9
      refine ⟨?_, ts.blk (hs.blk HR2.out (by omega)) (by omega), rfC_size h.dn, rfC_one h.d1 hone, fun w4 t4 => ?_⟩
      · have := (hs.blk HB.out (by omega)).set_ 19 v9
        rw [rfC_setdv c1 M v9 h.dn, hc1] at this
        exact this
      · have tw : Touch (fun _ => False) w w4 := ((HT.out.trans hs (S := fun _ => False) (fun q hq e => by omega)).trans ts (fun q hq e => by omega)).trans t4 (fun q hq e => by omega)
        have t2 : Touch (fun q => q = w.heap.size ∨ q = w.heap.size + 2) U w4 := (ts.mono (fun _ _ e => .inl e)).trans t4 (fun _ _ e => .inr e)
        refine ⟨{ M with dv := v9, xs := M.xs ++ [V] }, rfl, ⟨h.dn, h.d1, fun y hy => (by cases hy), ?_, ?_, ?_⟩, tw⟩
        · have e1 : (c.done ++ [(x, r)]).length = c.done.length + 1 := by simp
          simp only [e1]
          refine ⟨A9, c9, hv9, g1, g2, g3, ?_⟩
          have := (g4.touch t2 (fun q hq e => by have := hk q hq; omega)).mono' (F' := fun q => F q ∨ G q ∨ (w.heap.size ≤ q ∧ q < w4.heap.size)) (fun q hq => .inr (.inr ⟨by have := hk q hq; omega, ?_⟩))
          · simpa using this
          · have h1 := hk q hq
            obtain ⟨g, hg⟩ : ∃ g, r9 = some g := ⟨q, hq⟩
            have := ho.lt q hq
            have := t2.size
            omega
        · simp only [List.map_append, h.eqs, List.map_cons, List.map_nil, hV]; rfl
        · intro z hz
          rcases List.mem_append.1 hz with hz | hz
          · exact ((h.rows z hz).touch tw (fun _ _ e => e)).mono (fun q hq => .inl hq)
          · obtain rfl : z = V := by simpa using hz
            subst hV
            exact ⟨(hcm.touch tw (fun _ _ e => e)).mono (fun q hq => .inl hq), (hr.touch tw (fun _ _ e => e)).mono (fun q hq => .inr (.inl hq))⟩))
  have HXs := Lib.hid (show (rfC c1 M).size = 20 from rfC_size h.dn)
  have HRn := Lib.hid (rpA_size r RA rn)
  have HCn := Lib.hid (cmA_size x A B D k m n)
  obtain ⟨R14, hR14⟩ : ∃ X, X = rpA r RA rn := ⟨_, rfl⟩
  obtain ⟨X13, hX13⟩ : ∃ X, X = cmA x A B D k m n := ⟨_, rfl⟩
  rw [← hR14] at HRx HRn
  rw [← hX13] at HDC HCn
  have HR14 := Lib.hid hR14
  have HX13 := Lib.hid hX13
  generalize rfC c M = XA at *
  obtain ⟨XB, hXB⟩ : ∃ XB, XB = rfC c1 M := ⟨_, rfl⟩
  rw [← hXB] at HB HK19 HDC e5 HW1 HXs
  clear h hA hr hb hFl hDC hcm hdv hAn hrd hc1 hV hW1 hk19 hrdW hneF hXB hR14 hX13
  go_enter Try.func25, Try.ntmps25
  go_wp2_with fail
  rw [← HW1.out]
  clear q5 q2 q0 f5 x0 x1 x2
  refine wp_region_tree (.fork [(1, 1), (1, 2), (1, 4), (1, 5), (1, 6), (1, 7), (1, 8)] 0 9 (.fork [] 3 9 (.fin [(2, 9), (2, 10), (1, 11), (3, 12)]) (.fin [(2, 3), (2, 10), (1, 11), (3, 12)])) (.fin [(2, 0), (2, 3), (2, 10), (1, 11), (3, 12)])) (fun q => w.heap.size + 3 ≤ q) (by kernel_rfl) (by kernel_rfl) (fun c a d v w h => by cases d <;> exact h) ?_
  refine treeFork ?_
  rw [← hW2]
  iterate 1
    apply plan_h
    · rfl
    · rfl
    · intro wh hT
      go_simp
      try rfl
    go_frame
  iterate 1
    apply plan_h
    · rfl
    · rfl
    · intro wh hT
      have hf0 := show wh.cell? ⟨w.heap.size, 19, none⟩ = some (.slice Ad c.done.length cap) from ((hT.blk HB.out (by omega)).cell 19).trans HK19.out
      go_simp
      try rfl
    go_frame
  iterate 1
    apply plan_h
    · rfl
    · rfl
    · intro wh hT
      go_simp
      try rfl
    go_frame
  ((with_reducible apply plan_hC rowCm (x := _) (T := fun q => w.heap.size + 3 ≤ q) w.heap.size 6 X13 HCn.out (fun wh hT => by
    have := (hT.blk HB.out (by omega)).range 6 13
    rw [HDC.out] at this; exact this)); exact rfl; exact rfl; exact rfl; exact rfl; go_frame)
  iterate 1
    apply plan_h
    · rfl
    · rfl
    · intro wh hT
      go_simp
      try rfl
    go_frame
  ((with_reducible apply plan_hC rowRy (x := _) (T := fun q => w.heap.size + 3 ≤ q) (w.heap.size + 1) 3 R14 HRn.out (fun wh hT => by
    have := (hT.blk HY.out (by omega)).range 3 14
    rw [HRx.out] at this; exact this)); exact rfl; exact rfl; exact rfl; exact rfl; go_frame)
  rw [HX13.out, HR14.out]
  simp only [cmA, rpA]
  iterate 1
    apply plan_h
    · rfl
    · rfl
    · intro wh hT
      go_simp
      try rfl
    go_frame
  clear hW2
  apply tree_
  · rfl
  · rfl
  · rfl
  · rfl
  · intro Kc hKc
    go_simp
    refine hKc _ _ ⟨(Touch.refl _ W2).alloc _, ?_⟩
    clear hKc Kc
    have ta := (Touch.refl (fun _ => False) W2).alloc (.cells #[] 117)
    have ho := (show Own (W2.alloc (.cells #[] 117)) 117 27 (.slice (some ⟨W2.heap.size, 0, none⟩) 0 0) (some W2.heap.size) 0 [] from Own.lit W2 117 27 #[] 0 (by simp) rfl)
    obtain ⟨u1, hu⟩ : ∃ u1, u1 = W2.alloc (.cells #[] 117) := ⟨_, rfl⟩
    rw [← hu] at ta ho ⊢
    have HOu1 := Lib.hid ho
    have HSu1 := Lib.hid (HSW2.out.trans ta (fun _ _ e => e.elim))
    have hzu1 : W2.heap.size < u1.heap.size := by rw [hu]; simp
    clear ta hu ho
    refine treeFork ?_
    apply tree_
    · rfl
    · rfl
    · rfl
    · rfl
    · intro Kc hKc
      have hsr := (HR.out.touch HSu1.out (fun q hq e => hq e)).src27 HAn.out HXo.out (c := cap)
      refine wp_own_append _ _ 36 36 rfl 117 i0 _ 27 280 Try.underlying36 hi hz0 hz1 hz2 rfl _ _ 0 [] rfl (by exact HOu1.out) (.slice Ad c.done.length cap) c.done.length (M.xs.flatMap ResV.cells) rfl (by exact hsr) (by simp only [maxLen]; omega) (by omega) ?_
      intro v8 r8 u2 ho8 t8 hr8
      simp only [Nat.zero_add, List.nil_append] at ho8
      refine hKc _ _ ⟨t8.mono (fun q _ e => by injection e with e; omega), ?_⟩
      clear hKc Kc hsr
      have HOu2 := Lib.hid ho8
      have HSu2 := Lib.hid (HSu1.out.trans t8 (fun q _ e => by injection e with e; omega))
      have hzu2 : u1.heap.size ≤ u2.heap.size := t8.size
      have hrk : ∀ q, r8 = some q → q = W2.heap.size ∨ u1.heap.size ≤ q := by
        intro q hq
        rcases hr8 with e | ⟨q', e, hq'⟩
        · rw [e] at hq; injection hq with hq; exact .inl hq.symm
        · rw [e] at hq; injection hq with hq; subst hq; exact .inr hq'
      have HRk := Lib.hid hrk
      obtain ⟨A8, c8, hv8, -⟩ := ho8.form
      subst hv8
      clear ho8 t8 hr8 hrk
      go_simp
      refine treeFin ?_
      refine plan_a1 rfl (by rfl) (fun Kc hKc => ?_)
      go_simp
      refine hKc _ _ ⟨(Touch.refl _ u2).alloc _, ?_⟩
      clear hKc Kc
      have ta := (Touch.refl (fun _ => False) u2).alloc (.cells #[.int .i64 x.kind, .int .u64 x.client, .int .u64 x.req, .int .u64 x.id, .int .i64 x.con, .int .i64 x.at_, .int .i64 x.cal.off, .slice A x.cal.wk.length k, .slice B x.cal.cl.length m, .int .i64 x.tm.cal, .slice D x.tm.lv.length n, .int .i64 x.tm.rt, .int .i64 x.tm.bk, .int .i64 r.code, .int .i64 r.time, .int .u64 r.t.id, .int .i64 r.t.contract, .int .i64 r.t.state, .int .i64 r.t.level, .int .u64 r.t.gen, .int .i64 r.t.from_, .int .i64 r.t.left, .int .i64 r.t.due, .int .i64 r.t.told, .slice RA r.fired.length rn, .int .u64 r.notice, .int .i64 r.dead] 117)
      have hb := (show Blk (u2.alloc (.cells #[.int .i64 x.kind, .int .u64 x.client, .int .u64 x.req, .int .u64 x.id, .int .i64 x.con, .int .i64 x.at_, .int .i64 x.cal.off, .slice A x.cal.wk.length k, .slice B x.cal.cl.length m, .int .i64 x.tm.cal, .slice D x.tm.lv.length n, .int .i64 x.tm.rt, .int .i64 x.tm.bk, .int .i64 r.code, .int .i64 r.time, .int .u64 r.t.id, .int .i64 r.t.contract, .int .i64 r.t.state, .int .i64 r.t.level, .int .u64 r.t.gen, .int .i64 r.t.from_, .int .i64 r.t.left, .int .i64 r.t.due, .int .i64 r.t.told, .slice RA r.fired.length rn, .int .u64 r.notice, .int .i64 r.dead] 117)) u2.heap.size 117 V.arr from HVa.out ▸ Blk.new u2 117 V.arr)
      obtain ⟨u3, hu⟩ : ∃ u3, u3 = u2.alloc (.cells #[.int .i64 x.kind, .int .u64 x.client, .int .u64 x.req, .int .u64 x.id, .int .i64 x.con, .int .i64 x.at_, .int .i64 x.cal.off, .slice A x.cal.wk.length k, .slice B x.cal.cl.length m, .int .i64 x.tm.cal, .slice D x.tm.lv.length n, .int .i64 x.tm.rt, .int .i64 x.tm.bk, .int .i64 r.code, .int .i64 r.time, .int .u64 r.t.id, .int .i64 r.t.contract, .int .i64 r.t.state, .int .i64 r.t.level, .int .u64 r.t.gen, .int .i64 r.t.from_, .int .i64 r.t.left, .int .i64 r.t.due, .int .i64 r.t.told, .slice RA r.fired.length rn, .int .u64 r.notice, .int .i64 r.dead] 117) := ⟨_, rfl⟩
      rw [← hu] at ta hb ⊢
      have HLu3 := Lib.hid hb
      have HSu3 := Lib.hid (HSu2.out.trans ta (fun _ _ e => e.elim))
      have hzu3 : u2.heap.size < u3.heap.size := by rw [hu]; simp
      have HOu3 := Lib.hid (HOu2.out.touch ta (fun _ _ e => e))
      clear ta hu hb
      refine plan_a1 rfl (by rfl) (fun Kc hKc => ?_)
      refine wp_own_append _ _ 36 36 rfl 117 i0 _ 27 280 Try.underlying36 hi hz0 hz1 hz2 rfl _ _ c.done.length (M.xs.flatMap ResV.cells) rfl (by exact HOu3.out) (.slice (some ⟨u2.heap.size, 0, none⟩) 1 1) 1 V.cells rfl (by exact Src.lit Try.underlying36 u2.heap.size 1 1 117 V.arr HLu3.out V.len V.one_mem) (by simp only [maxLen]; omega) (by omega) ?_
      intro v9 r9 u4 ho9 t9 hr9
      have hrk : ∀ q, r9 = some q → w.heap.size + 3 ≤ q := by
        intro q hq
        rcases hr9 with e | ⟨q', e, hq'⟩
        · rw [e] at hq; have := HRk.out q hq; omega
        · rw [e] at hq; injection hq with hq; subst hq; omega
      refine hKc _ _ ⟨t9.mono (fun q _ e => by have := HRk.out q e; omega), ?_⟩
      clear hKc Kc
      have hsz := t9.size
      have HSu4 := Lib.hid (HSu3.out.trans t9 (fun q _ e => by have := HRk.out q e; omega))
      have HOu4 := Lib.hid ho9
      have HRk9 := Lib.hid hrk
      obtain ⟨A9, c9, hv9, -⟩ := ho9.form
      subst hv9
      have hb9 := HSu4.out.blk HB.out (by omega)
      have f19 := hb9.frozen 19
      have q19 := hb9.cell 19
      rw [HK19.out] at q19
      clear ho9 t9 hr9 hrk hb9
      go_simp
      iterate 1
        apply plan_h
        · rfl
        · rfl
        · intro wh hT
          go_simp
          try rfl
        go_frame
      refine plan_b1 rfl (by rfl) (fun Kc hKc => ?_)
      go_simp
      refine hKc _ _ ?_
      clear hKc Kc
      refine plan_done ?_
      obtain ⟨v9, hv9⟩ : ∃ v9, v9 = Value.slice A9 (c.done.length + 1) c9 := ⟨_, rfl⟩
      have HEnd := HFin.out u4 v9 r9 (hv9 ▸ HOu4.out) HRk9.out HSu4.out
      rw [← hv9]
      obtain ⟨uz, huz⟩ : ∃ uz, uz = u4.setCell ⟨w.heap.size, 19, none⟩ v9 := ⟨_, rfl⟩
      rw [← huz] at HEnd ⊢
      obtain ⟨hbX, hbR, hXn, hX1, hEnd⟩ := HEnd
      have HBX := Lib.hid hbX
      have HBR := Lib.hid hbR
      have HXn := Lib.hid hXn
      have HX1 := Lib.hid hX1
      have HEnd := Lib.hid hEnd
      clear hbX hbR hXn hX1 hEnd huz hv9 q19 f19
      generalize rfC { c with busy := none, done := c.done ++ [(x, r)] } _ = XF at *
      go_wp2_with (first
        | ((with_reducible apply HBX.out.ld rowRf HXn.out); exact rfl; exact rfl; exact rfl)
        | ((with_reducible apply HBR.out.st rowRf HZn.out HXn.out HX1.out); exact rfl; exact rfl; exact rfl; exact rfl
           intro w4 hb4 t4
           have HB4 := Lib.hid hb4
           have HT4 := Lib.hid t4
           clear hb4 t4))
      refine bodyPost_ret (results_cell2 4 5 rowRf HXn.out (HB4.out.whole) rfl rfl) rfl ?_
      exact HEnd.out _ HT4.out
    · intro Kc hKc
      go_simp
      refine hKc _ _ ⟨(Touch.refl _ u1).alloc _, ?_⟩
      clear hKc Kc
      have ta := (Touch.refl (fun _ => False) u1).alloc (.cells #[.int .i64 x.kind, .int .u64 x.client, .int .u64 x.req, .int .u64 x.id, .int .i64 x.con, .int .i64 x.at_, .int .i64 x.cal.off, .slice A x.cal.wk.length k, .slice B x.cal.cl.length m, .int .i64 x.tm.cal, .slice D x.tm.lv.length n, .int .i64 x.tm.rt, .int .i64 x.tm.bk, .int .i64 r.code, .int .i64 r.time, .int .u64 r.t.id, .int .i64 r.t.contract, .int .i64 r.t.state, .int .i64 r.t.level, .int .u64 r.t.gen, .int .i64 r.t.from_, .int .i64 r.t.left, .int .i64 r.t.due, .int .i64 r.t.told, .slice RA r.fired.length rn, .int .u64 r.notice, .int .i64 r.dead] 117)
      have hb := (show Blk (u1.alloc (.cells #[.int .i64 x.kind, .int .u64 x.client, .int .u64 x.req, .int .u64 x.id, .int .i64 x.con, .int .i64 x.at_, .int .i64 x.cal.off, .slice A x.cal.wk.length k, .slice B x.cal.cl.length m, .int .i64 x.tm.cal, .slice D x.tm.lv.length n, .int .i64 x.tm.rt, .int .i64 x.tm.bk, .int .i64 r.code, .int .i64 r.time, .int .u64 r.t.id, .int .i64 r.t.contract, .int .i64 r.t.state, .int .i64 r.t.level, .int .u64 r.t.gen, .int .i64 r.t.from_, .int .i64 r.t.left, .int .i64 r.t.due, .int .i64 r.t.told, .slice RA r.fired.length rn, .int .u64 r.notice, .int .i64 r.dead] 117)) u1.heap.size 117 V.arr from HVa.out ▸ Blk.new u1 117 V.arr)
      obtain ⟨u5, hu⟩ : ∃ u5, u5 = u1.alloc (.cells #[.int .i64 x.kind, .int .u64 x.client, .int .u64 x.req, .int .u64 x.id, .int .i64 x.con, .int .i64 x.at_, .int .i64 x.cal.off, .slice A x.cal.wk.length k, .slice B x.cal.cl.length m, .int .i64 x.tm.cal, .slice D x.tm.lv.length n, .int .i64 x.tm.rt, .int .i64 x.tm.bk, .int .i64 r.code, .int .i64 r.time, .int .u64 r.t.id, .int .i64 r.t.contract, .int .i64 r.t.state, .int .i64 r.t.level, .int .u64 r.t.gen, .int .i64 r.t.from_, .int .i64 r.t.left, .int .i64 r.t.due, .int .i64 r.t.told, .slice RA r.fired.length rn, .int .u64 r.notice, .int .i64 r.dead] 117) := ⟨_, rfl⟩
      rw [← hu] at ta hb ⊢
      have HLu5 := Lib.hid hb
      have HSu5 := Lib.hid (HSu1.out.trans ta (fun _ _ e => e.elim))
      have hzu5 : u1.heap.size < u5.heap.size := by rw [hu]; simp
      have HOu5 := Lib.hid (HOu1.out.touch ta (fun _ _ e => e))
      clear ta hu hb
      refine treeFin ?_
      refine plan_a1 rfl (by rfl) (fun Kc hKc => ?_)
      have hsr := (HR.out.touch HSu5.out (fun q hq e => hq e)).src27 HAn.out HXo.out (c := cap)
      refine wp_own_append _ _ 36 36 rfl 117 i0 _ 27 280 Try.underlying36 hi hz0 hz1 hz2 rfl _ _ 0 [] rfl (by exact HOu5.out) (.slice Ad c.done.length cap) c.done.length (M.xs.flatMap ResV.cells) rfl (by exact hsr) (by simp only [maxLen]; omega) (by omega) ?_
      intro v8 r8 u6 ho8 t8 hr8
      simp only [Nat.zero_add, List.nil_append] at ho8
      refine hKc _ _ ⟨t8.mono (fun q _ e => by injection e with e; omega), ?_⟩
      clear hKc Kc hsr
      have HOu6 := Lib.hid ho8
      have HSu6 := Lib.hid (HSu5.out.trans t8 (fun q _ e => by injection e with e; omega))
      have hzu6 : u5.heap.size ≤ u6.heap.size := t8.size
      have hrk : ∀ q, r8 = some q → q = W2.heap.size ∨ u5.heap.size ≤ q := by
        intro q hq
        rcases hr8 with e | ⟨q', e, hq'⟩
        · rw [e] at hq; injection hq with hq; exact .inl hq.symm
        · rw [e] at hq; injection hq with hq; subst hq; exact .inr hq'
      have HRk := Lib.hid hrk
      obtain ⟨A8, c8, hv8, -⟩ := ho8.form
      subst hv8
      have HLu6 := Lib.hid (t8.blk HLu5.out (fun e => by injection e with e; omega))
      clear ho8 t8 hr8 hrk
      go_simp
      refine plan_a1 rfl (by rfl) (fun Kc hKc => ?_)
      refine wp_own_append _ _ 36 36 rfl 117 i0 _ 27 280 Try.underlying36 hi hz0 hz1 hz2 rfl _ _ c.done.length (M.xs.flatMap ResV.cells) rfl (by exact HOu6.out) (.slice (some ⟨u1.heap.size, 0, none⟩) 1 1) 1 V.cells rfl (by exact Src.lit Try.underlying36 u1.heap.size 1 1 117 V.arr HLu6.out V.len V.one_mem) (by simp only [maxLen]; omega) (by omega) ?_
      intro v9 r9 u7 ho9 t9 hr9
      have hrk : ∀ q, r9 = some q → w.heap.size + 3 ≤ q := by
        intro q hq
        rcases hr9 with e | ⟨q', e, hq'⟩
        · rw [e] at hq; have := HRk.out q hq; omega
        · rw [e] at hq; injection hq with hq; subst hq; omega
      refine hKc _ _ ⟨t9.mono (fun q _ e => by have := HRk.out q e; omega), ?_⟩
      clear hKc Kc
      have hsz := t9.size
      have HSu7 := Lib.hid (HSu6.out.trans t9 (fun q _ e => by have := HRk.out q e; omega))
      have HOu7 := Lib.hid ho9
      have HRk9 := Lib.hid hrk
      obtain ⟨A9, c9, hv9, -⟩ := ho9.form
      subst hv9
      have hb9 := HSu7.out.blk HB.out (by omega)
      have f19 := hb9.frozen 19
      have q19 := hb9.cell 19
      rw [HK19.out] at q19
      clear ho9 t9 hr9 hrk hb9
      go_simp
      iterate 1
        apply plan_h
        · rfl
        · rfl
        · intro wh hT
          go_simp
          try rfl
        go_frame
      refine plan_b1 rfl (by rfl) (fun Kc hKc => ?_)
      go_simp
      refine hKc _ _ ?_
      clear hKc Kc
      refine plan_done ?_
      obtain ⟨v9, hv9⟩ : ∃ v9, v9 = Value.slice A9 (c.done.length + 1) c9 := ⟨_, rfl⟩
      have HEnd := HFin.out u7 v9 r9 (hv9 ▸ HOu7.out) HRk9.out HSu7.out
      rw [← hv9]
      obtain ⟨uz, huz⟩ : ∃ uz, uz = u7.setCell ⟨w.heap.size, 19, none⟩ v9 := ⟨_, rfl⟩
      rw [← huz] at HEnd ⊢
      obtain ⟨hbX, hbR, hXn, hX1, hEnd⟩ := HEnd
      have HBX := Lib.hid hbX
      have HBR := Lib.hid hbR
      have HXn := Lib.hid hXn
      have HX1 := Lib.hid hX1
      have HEnd := Lib.hid hEnd
      clear hbX hbR hXn hX1 hEnd huz hv9 q19 f19
      generalize rfC { c with busy := none, done := c.done ++ [(x, r)] } _ = XF at *
      go_wp2_with (first
        | ((with_reducible apply HBX.out.ld rowRf HXn.out); exact rfl; exact rfl; exact rfl)
        | ((with_reducible apply HBR.out.st rowRf HZn.out HXn.out HX1.out); exact rfl; exact rfl; exact rfl; exact rfl
           intro w4 hb4 t4
           have HB4 := Lib.hid hb4
           have HT4 := Lib.hid t4
           clear hb4 t4))
      refine bodyPost_ret (results_cell2 4 5 rowRf HXn.out (HB4.out.whole) rfl rfl) rfl ?_
      exact HEnd.out _ HT4.out
  · intro Kc hKc
    go_simp
    refine hKc _ _ ⟨(Touch.refl _ W2).alloc _, ?_⟩
    clear hKc Kc
    have ta := (Touch.refl (fun _ => False) W2).alloc (.cells #[.int .i64 x.kind, .int .u64 x.client, .int .u64 x.req, .int .u64 x.id, .int .i64 x.con, .int .i64 x.at_, .int .i64 x.cal.off, .slice A x.cal.wk.length k, .slice B x.cal.cl.length m, .int .i64 x.tm.cal, .slice D x.tm.lv.length n, .int .i64 x.tm.rt, .int .i64 x.tm.bk, .int .i64 r.code, .int .i64 r.time, .int .u64 r.t.id, .int .i64 r.t.contract, .int .i64 r.t.state, .int .i64 r.t.level, .int .u64 r.t.gen, .int .i64 r.t.from_, .int .i64 r.t.left, .int .i64 r.t.due, .int .i64 r.t.told, .slice RA r.fired.length rn, .int .u64 r.notice, .int .i64 r.dead] 117)
    have hb := (show Blk (W2.alloc (.cells #[.int .i64 x.kind, .int .u64 x.client, .int .u64 x.req, .int .u64 x.id, .int .i64 x.con, .int .i64 x.at_, .int .i64 x.cal.off, .slice A x.cal.wk.length k, .slice B x.cal.cl.length m, .int .i64 x.tm.cal, .slice D x.tm.lv.length n, .int .i64 x.tm.rt, .int .i64 x.tm.bk, .int .i64 r.code, .int .i64 r.time, .int .u64 r.t.id, .int .i64 r.t.contract, .int .i64 r.t.state, .int .i64 r.t.level, .int .u64 r.t.gen, .int .i64 r.t.from_, .int .i64 r.t.left, .int .i64 r.t.due, .int .i64 r.t.told, .slice RA r.fired.length rn, .int .u64 r.notice, .int .i64 r.dead] 117)) W2.heap.size 117 V.arr from HVa.out ▸ Blk.new W2 117 V.arr)
    obtain ⟨u8, hu⟩ : ∃ u8, u8 = W2.alloc (.cells #[.int .i64 x.kind, .int .u64 x.client, .int .u64 x.req, .int .u64 x.id, .int .i64 x.con, .int .i64 x.at_, .int .i64 x.cal.off, .slice A x.cal.wk.length k, .slice B x.cal.cl.length m, .int .i64 x.tm.cal, .slice D x.tm.lv.length n, .int .i64 x.tm.rt, .int .i64 x.tm.bk, .int .i64 r.code, .int .i64 r.time, .int .u64 r.t.id, .int .i64 r.t.contract, .int .i64 r.t.state, .int .i64 r.t.level, .int .u64 r.t.gen, .int .i64 r.t.from_, .int .i64 r.t.left, .int .i64 r.t.due, .int .i64 r.t.told, .slice RA r.fired.length rn, .int .u64 r.notice, .int .i64 r.dead] 117) := ⟨_, rfl⟩
    rw [← hu] at ta hb ⊢
    have HLu8 := Lib.hid hb
    have HSu8 := Lib.hid (HSW2.out.trans ta (fun _ _ e => e.elim))
    have hzu8 : W2.heap.size < u8.heap.size := by rw [hu]; simp
    clear ta hu hb
    refine treeFin ?_
    refine plan_a1 rfl (by rfl) (fun Kc hKc => ?_)
    go_simp
    refine hKc _ _ ⟨(Touch.refl _ u8).alloc _, ?_⟩
    clear hKc Kc
    have ta := (Touch.refl (fun _ => False) u8).alloc (.cells #[] 117)
    have ho := (show Own (u8.alloc (.cells #[] 117)) 117 27 (.slice (some ⟨u8.heap.size, 0, none⟩) 0 0) (some u8.heap.size) 0 [] from Own.lit u8 117 27 #[] 0 (by simp) rfl)
    obtain ⟨u9, hu⟩ : ∃ u9, u9 = u8.alloc (.cells #[] 117) := ⟨_, rfl⟩
    rw [← hu] at ta ho ⊢
    have HOu9 := Lib.hid ho
    have HSu9 := Lib.hid (HSu8.out.trans ta (fun _ _ e => e.elim))
    have hzu9 : u8.heap.size < u9.heap.size := by rw [hu]; simp
    have HLu9 := Lib.hid (ta.blk HLu8.out (fun e => e))
    clear ta hu ho
    refine plan_a1 rfl (by rfl) (fun Kc hKc => ?_)
    have hsr := (HR.out.touch HSu9.out (fun q hq e => hq e)).src27 HAn.out HXo.out (c := cap)
    refine wp_own_append _ _ 36 36 rfl 117 i0 _ 27 280 Try.underlying36 hi hz0 hz1 hz2 rfl _ _ 0 [] rfl (by exact HOu9.out) (.slice Ad c.done.length cap) c.done.length (M.xs.flatMap ResV.cells) rfl (by exact hsr) (by simp only [maxLen]; omega) (by omega) ?_
    intro v8 r8 u10 ho8 t8 hr8
    simp only [Nat.zero_add, List.nil_append] at ho8
    refine hKc _ _ ⟨t8.mono (fun q _ e => by injection e with e; omega), ?_⟩
    clear hKc Kc hsr
    have HOu10 := Lib.hid ho8
    have HSu10 := Lib.hid (HSu9.out.trans t8 (fun q _ e => by injection e with e; omega))
    have hzu10 : u9.heap.size ≤ u10.heap.size := t8.size
    have hrk : ∀ q, r8 = some q → q = u8.heap.size ∨ u9.heap.size ≤ q := by
      intro q hq
      rcases hr8 with e | ⟨q', e, hq'⟩
      · rw [e] at hq; injection hq with hq; exact .inl hq.symm
      · rw [e] at hq; injection hq with hq; subst hq; exact .inr hq'
    have HRk := Lib.hid hrk
    obtain ⟨A8, c8, hv8, -⟩ := ho8.form
    subst hv8
    have HLu10 := Lib.hid (t8.blk HLu9.out (fun e => by injection e with e; omega))
    clear ho8 t8 hr8 hrk
    go_simp
    refine plan_a1 rfl (by rfl) (fun Kc hKc => ?_)
    refine wp_own_append _ _ 36 36 rfl 117 i0 _ 27 280 Try.underlying36 hi hz0 hz1 hz2 rfl _ _ c.done.length (M.xs.flatMap ResV.cells) rfl (by exact HOu10.out) (.slice (some ⟨W2.heap.size, 0, none⟩) 1 1) 1 V.cells rfl (by exact Src.lit Try.underlying36 W2.heap.size 1 1 117 V.arr HLu10.out V.len V.one_mem) (by simp only [maxLen]; omega) (by omega) ?_
    intro v9 r9 u11 ho9 t9 hr9
    have hrk : ∀ q, r9 = some q → w.heap.size + 3 ≤ q := by
      intro q hq
      rcases hr9 with e | ⟨q', e, hq'⟩
      · rw [e] at hq; have := HRk.out q hq; omega
      · rw [e] at hq; injection hq with hq; subst hq; omega
    refine hKc _ _ ⟨t9.mono (fun q _ e => by have := HRk.out q e; omega), ?_⟩
    clear hKc Kc
    have hsz := t9.size
    have HSu11 := Lib.hid (HSu10.out.trans t9 (fun q _ e => by have := HRk.out q e; omega))
    have HOu11 := Lib.hid ho9
    have HRk9 := Lib.hid hrk
    obtain ⟨A9, c9, hv9, -⟩ := ho9.form
    subst hv9
    have hb9 := HSu11.out.blk HB.out (by omega)
    have f19 := hb9.frozen 19
    have q19 := hb9.cell 19
    rw [HK19.out] at q19
    clear ho9 t9 hr9 hrk hb9
    go_simp
    iterate 1
      apply plan_h
      · rfl
      · rfl
      · intro wh hT
        go_simp
        try rfl
      go_frame
    refine plan_b1 rfl (by rfl) (fun Kc hKc => ?_)
    go_simp
    refine hKc _ _ ?_
    clear hKc Kc
    refine plan_done ?_
    obtain ⟨v9, hv9⟩ : ∃ v9, v9 = Value.slice A9 (c.done.length + 1) c9 := ⟨_, rfl⟩
    have HEnd := HFin.out u11 v9 r9 (hv9 ▸ HOu11.out) HRk9.out HSu11.out
    rw [← hv9]
    obtain ⟨uz, huz⟩ : ∃ uz, uz = u11.setCell ⟨w.heap.size, 19, none⟩ v9 := ⟨_, rfl⟩
    rw [← huz] at HEnd ⊢
    obtain ⟨hbX, hbR, hXn, hX1, hEnd⟩ := HEnd
    have HBX := Lib.hid hbX
    have HBR := Lib.hid hbR
    have HXn := Lib.hid hXn
    have HX1 := Lib.hid hX1
    have HEnd := Lib.hid hEnd
    clear hbX hbR hXn hX1 hEnd huz hv9 q19 f19
    generalize rfC { c with busy := none, done := c.done ++ [(x, r)] } _ = XF at *
    go_wp2_with (first
      | ((with_reducible apply HBX.out.ld rowRf HXn.out); exact rfl; exact rfl; exact rfl)
      | ((with_reducible apply HBR.out.st rowRf HZn.out HXn.out HX1.out); exact rfl; exact rfl; exact rfl; exact rfl
         intro w4 hb4 t4
         have HB4 := Lib.hid hb4
         have HT4 := Lib.hid t4
         clear hb4 t4))
    refine bodyPost_ret (results_cell2 4 5 rowRf HXn.out (HB4.out.whole) rfl rfl) rfl ?_
    exact HEnd.out _ HT4.out
end PF
end Go.Proofs.Ytlcefchbfjfifaa
end
