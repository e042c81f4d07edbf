/- Package calendar: Check, none, instant, weekly, Open. -/
import Derived.Test.YtcblbjhhlnmkjaaGreatCalV
namespace Go.Proofs.YtcblbjhhlnmkjaaGreat
open Go.RowKit Cal
set_option maxHeartbeats 4000000
set_option maxRecDepth 100000
set_option linter.unusedVariables false
attribute [local irreducible] wpPlan

theorem ccheck_any (F : Nat → Prop) (A B : Option Addr) (k m : Nat) (c : Ca) (w : World) (hr : CaR w F c A B) (h1 : c.wk.length ≤ 1000000) (h2 : c.cl.length ≤ 1000000) :
    Calls Tryz.prog 58 #[.agg #[.int .i64 c.off, .slice A c.wk.length k, .slice B c.cl.length m]] w fun e w' => e = .returned (.int .i64 (checkE c)) ∧ Touch (fun _ => False) w w' := by
  have HT := Lib.hid ((Touch.refl (fun _ => False) w).alloc (.cells #[.int .i64 c.off, .slice A c.wk.length k, .slice B c.cl.length m] 24))
  have HR := Lib.hid hr
  by_cases hc : checkE c = 0
  · have HN := Lib.hid (fun w1 hr => cnew_yes F A B k m c w1 hr (check_ok hc))
    rw [hc]
    clear hr hc
    obtain ⟨off, wk, cl⟩ := c
    simp only at *
    go_enter Tryz.func58, Tryz.ntmps58
    go_wp2_with (go_at_call 9; go_must (refine (HN.out _ (by exact HR.out.touch HT.out (fun _ _ e => e))).mono ?_); rintro e w0 ⟨k0, a0, p0, b0, rfl, -, -, -, t0⟩; have HT0 := Lib.hid (HT.out.trans t0 (fun _ _ e => e)); clear t0)
    go_ret
    exact ⟨rfl, HT0.out⟩
  · have HN := Lib.hid (fun w1 hr => cnew_bad F A B k m c w1 hr h1 h2 hc)
    generalize checkE c = v at *
    clear hr hc
    obtain ⟨off, wk, cl⟩ := c
    simp only at *
    go_enter Tryz.func58, Tryz.ntmps58
    go_wp2_with (go_at_call 9; go_must (refine (HN.out _ (by exact HR.out.touch HT.out (fun _ _ e => e))).mono ?_); rintro e w0 ⟨rfl, t0⟩; have HT0 := Lib.hid (HT.out.trans t0 (fun _ _ e => e)); clear t0)
    go_ret
    exact ⟨rfl, HT0.out⟩
theorem cnone_any (k a p b : Nat) (c : Ca) (G : Nat → Prop) (w : World) (h : CkAt w k a p b c G) :
    Calls Tryz.prog 47 #[.pointer (some ⟨k, 0, none⟩)] w fun e w' => e = .returned (.bool false) ∧ w = w' := by
  have q := h.blk.cell 1
  simp at q
  clear h
  go_enter Tryz.func47, Tryz.ntmps47
  go_wp2
  go_ret
  exact ⟨rfl, rfl⟩
theorem cinstant_any (t : Int) (w : World) : Calls Tryz.prog 48 #[.int .i64 t] w fun e w' => e = .returned (.bool (instB t)) ∧ w = w' := by
  go_enter Tryz.func48, Tryz.ntmps48
  go_wp2
  all_goals go_ret
  all_goals exact ⟨ret_bool (by unfold instB; simp <;> omega), rfl⟩
def CkV (k a p b : Nat) (c : Ca) (G : Nat → Prop) (v : Value) (w : World) (e : Ending) (w' : World) : Prop :=
  e = .returned v ∧ CkAt w' k a p b c (More G w w') ∧ Touch (fun q => q = b) w w'
theorem cweekly_any (k a p b : Nat) (c : Ca) (G : Nat → Prop) (x y : Int) (w : World) (h : CkAt w k a p b c G) (h0 : 0 ≤ x) (h1 : x ≤ 1125899906842624) (h2 : 0 ≤ y) (h3 : y ≤ 1125899906842624) :
    Calls Tryz.prog 49 #[.pointer (some ⟨k, 0, none⟩), .int .i64 x, .int .i64 y] w (CkV k a p b c G (.int .i64 (c.weekly x y)) w) := by
  have q0 := h.blk.cell 0; have q1 := h.blk.cell 1; have q2 := h.blk.cell 2
  simp at q0 q1 q2
  have hoff := h.ok.off
  have HH := Lib.hid h
  have HB := Lib.hid (fun w1 G (hh : PnAt w1 p c.wk b G) => between_any p c.wk b G (x + (604800 - c.off)) (y + (604800 - c.off)) w1 hh (by omega) (by omega) (by omega) (by omega))
  have HV := Lib.hid (show c.weekly x y = max (U c.wk (y + (604800 - c.off)) - U c.wk (x + (604800 - c.off))) 0 from rfl)
  generalize c.weekly x y = v at *
  have hs : 0 ≤ 604800 - c.off ∧ 604800 - c.off ≤ 604800 := by omega
  generalize 604800 - c.off = s at *
  clear h hoff
  have hw1 : IntKind.i64.wrap (x + s) = x + s := IntWalk.i64_in _ (by omega)
  have hw2 : IntKind.i64.wrap (y + s) = y + s := IntWalk.i64_in _ (by omega)
  go_enter Tryz.func49, Tryz.ntmps49
  go_wp2_with fail
  refine wp_region_plan [(0, 0), (0, 1), (0, 2), (0, 3), (0, 4), (0, 5), (0, 6), (0, 7), (0, 8), (0, 9), (0, 10), (0, 11), (0, 12), (0, 13), (0, 14), (0, 15), (2, 16), (0, 17)] (fun q => q = b) (by kernel_rfl) (by kernel_rfl) (fun c a d v w h => by cases d <;> exact h) ?_
  iterate 16
    refine plan_s1 rfl (by rfl) (fun Kc hKc => ?_)
    go_simp
    first
      | (refine hKc _ ?_)
    clear hKc Kc
  refine plan_a1 rfl (by rfl) (fun Kc hKc => ?_)
  go_simp
  refine (HB.out _ _ (by exact HH.out.pn.drew)).mono ?_
  rintro e w1 ⟨rfl, p1, t1⟩
  refine hKc _ _ ⟨t1, ?_⟩
  clear hKc Kc
  have HP1 := Lib.hid p1
  have HT1 := Lib.hid t1
  clear p1 t1
  iterate 1
    refine plan_s1 rfl (by rfl) (fun Kc hKc => ?_)
    go_simp
    first
      | (refine hKc _ ?_)
    clear hKc Kc
  refine plan_done ?_
  clear hw1 hw2
  go_wp2
  go_ret
  have ht := (Touch.refl (fun q => q = b) w).drew.trans HT1.out (fun _ _ e => e)
  exact ⟨ret_int HV.out.symm, HH.out.get ht HP1.out, ht⟩
end Go.Proofs.YtcblbjhhlnmkjaaGreat
