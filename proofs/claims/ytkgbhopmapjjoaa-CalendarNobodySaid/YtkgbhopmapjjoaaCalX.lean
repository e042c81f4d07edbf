/- Package calendar: Open. -/
import Derived.Test.YtkgbhopmapjjoaaCalW
namespace Go.Proofs.Ytkgbhopmapjjoaa
open Go.RowKit Cal
set_option maxHeartbeats 4000000
set_option maxRecDepth 100000
set_option linter.unusedVariables false
attribute [local irreducible] wpPlan

theorem copen_any (k a p b : Nat) (c : Ca) (G : Nat → Prop) (t : Int) (w : World) (h : CkAt w k a p b c G) :
    Calls Try.prog 16 #[.pointer (some ⟨k, 0, none⟩), .int .i64 t] w fun e w' => e = .returned (.bool (openV c t)) ∧ Touch (fun _ => False) w w' := by
  have q0 := h.blk.cell 0; have q1 := h.blk.cell 1; have q2 := h.blk.cell 2
  simp at q0 q1 q2
  have hkl := h.blk.lt
  have hoff := h.ok.off
  have HN := Lib.hid (fun w1 (hh : CkAt w1 k a p b c G) => cnone_any k a p b c G w1 hh)
  have HI := Lib.hid (cinstant_any t)
  have HH := Lib.hid h
  by_cases hin : 0 ≤ t ∧ t < 1125899906842624
  · obtain ⟨h0, h1⟩ := hin
    have hi : instB t = true := instB_of h0 (by omega)
    rw [hi] at HI
    have HC := Lib.hid (fun w1 B m (hh : AlAt w1 a c.cl B m G) => closed_any a c.cl B m G t w1 hh h.ok.rowc)
    have HO := Lib.hid (fun w1 A m (hh : PlAt w1 p c.wk A m b G) => wopen_any p c.wk A m b G (t + (604800 - c.off)) w1 hh h.ok.wk (by omega) (by omega))
    have HV := Lib.hid (show openV c t = (!hasB c.cl t && hasB c.wk ((t + (604800 - c.off)) % 604800)) by
      unfold openV Ca.op Ca.wkB; simp [h0, h1])
    generalize openV c t = v at *
    generalize hasB c.wk ((t + (604800 - c.off)) % 604800) = x at *
    generalize hasB c.cl t = y at *
    have hs : 0 ≤ 604800 - c.off ∧ 604800 - c.off ≤ 604800 := by omega
    generalize 604800 - c.off = s at *
    have hw1 : IntKind.i64.wrap (t + s) = t + s := IntWalk.i64_in _ (by omega)
    clear h hoff hi
    cases y
    · go_enter Try.func16, Try.ntmps16
      go_wp2_with fail
      refine wp_region_plan [(0, 0), (2, 1), (0, 2), (0, 3), (0, 4), (2, 5), (0, 6), (0, 7), (0, 8), (0, 9), (0, 10), (0, 11), (0, 12), (0, 13), (0, 14), (0, 15), (0, 16), (2, 17), (0, 18), (0, 19), (0, 20), (0, 21), (0, 22), (0, 23), (0, 24), (0, 25), (0, 26), (0, 27), (0, 28), (0, 29), (0, 30), (2, 31), (0, 32), (0, 33)] (fun _ => False) (by kernel_rfl) (by kernel_rfl) (fun c a d v w h => by cases d <;> exact h) ?_
      iterate 1
        refine plan_s1 rfl (by rfl) (fun Kc hKc => ?_)
        go_simp
        first
          | (refine hKc _ ?_)
        clear hKc Kc
      refine plan_a1 rfl (by rfl) (fun Kc hKc => ?_)
      go_simp
      refine (HN.out _ (by exact HH.out.none ((Touch.refl _ _).drew))).mono ?_
      rintro e w1 ⟨rfl, rfl⟩
      refine hKc _ _ ⟨Touch.refl _ _, ?_⟩
      clear hKc Kc
      iterate 3
        refine plan_s1 rfl (by rfl) (fun Kc hKc => ?_)
        go_simp
        first
          | (refine hKc _ ?_)
        clear hKc Kc
      refine plan_a1 rfl (by rfl) (fun Kc hKc => ?_)
      go_simp
      refine (HI.out _).mono ?_
      rintro e w1 ⟨rfl, rfl⟩
      refine hKc _ _ ⟨Touch.refl _ _, ?_⟩
      clear hKc Kc
      iterate 11
        refine plan_s1 rfl (by rfl) (fun Kc hKc => ?_)
        go_simp
        first
          | (refine hKc _ ?_)
        clear hKc Kc
      obtain ⟨B1, m1, hal⟩ := HH.out.al
      have HAl := Lib.hid hal
      clear hal
      refine plan_a1 rfl (by rfl) (fun Kc hKc => ?_)
      go_simp
      refine (HC.out _ _ _ (by exact HAl.out.touch ((Touch.refl (fun _ => False) _).drew) (fun e => e) (fun _ _ e => e))).mono ?_
      rintro e w2 ⟨rfl, t2⟩
      refine hKc _ _ ⟨t2, ?_⟩
      clear hKc Kc
      have r0 := (t2.cell (p := ⟨k, 0, none⟩) hkl (fun e => e)).trans q0
      have r1 := (t2.cell (p := ⟨k, 1, none⟩) hkl (fun e => e)).trans q1
      have r2 := (t2.cell (p := ⟨k, 2, none⟩) hkl (fun e => e)).trans q2
      have HT2 := Lib.hid t2
      clear t2
      iterate 13
        refine plan_s1 rfl (by rfl) (fun Kc hKc => ?_)
        go_simp
        first
          | (refine hKc _ ?_)
        clear hKc Kc
      obtain ⟨A1, n1, hpl⟩ := (HH.out.none ((Touch.refl (fun _ => False) w).drew.trans HT2.out (fun _ _ e => e))).pn.pl
      have HPl := Lib.hid hpl
      clear hpl
      refine plan_a1 rfl (by rfl) (fun Kc hKc => ?_)
      go_simp
      refine (HO.out _ _ _ (by exact HPl.out)).mono ?_
      rintro e w3 ⟨rfl, t3⟩
      refine hKc _ _ ⟨t3, ?_⟩
      clear hKc Kc
      have HT3 := Lib.hid t3
      clear t3
      iterate 2
        refine plan_s1 rfl (by rfl) (fun Kc hKc => ?_)
        go_simp
        first
          | (refine hKc _ ?_)
        clear hKc Kc
      refine plan_done ?_
      clear hw1
      go_wp2
      go_ret
      exact ⟨ret_bool (by rw [HV.out]; try rfl), ((Touch.refl (fun _ => False) w).drew.trans HT2.out (fun _ _ e => e)).trans HT3.out (fun _ _ e => e)⟩
    · go_enter Try.func16, Try.ntmps16
      go_wp2_with fail
      refine wp_region_plan [(0, 0), (2, 1), (0, 2), (0, 3), (0, 4), (2, 5), (0, 6), (0, 7), (0, 8), (0, 9), (0, 10), (0, 11), (0, 12), (0, 13), (0, 14), (0, 15), (0, 16), (2, 17), (0, 18), (0, 19), (0, 20), (0, 21), (0, 22), (0, 23), (0, 24), (0, 25), (0, 26), (0, 27), (0, 28), (0, 29), (0, 30), (2, 31), (0, 32), (0, 33)] (fun _ => False) (by kernel_rfl) (by kernel_rfl) (fun c a d v w h => by cases d <;> exact h) ?_
      iterate 1
        refine plan_s1 rfl (by rfl) (fun Kc hKc => ?_)
        go_simp
        first
          | (refine hKc _ ?_)
        clear hKc Kc
      refine plan_a1 rfl (by rfl) (fun Kc hKc => ?_)
      go_simp
      refine (HN.out _ (by exact HH.out.none ((Touch.refl _ _).drew))).mono ?_
      rintro e w1 ⟨rfl, rfl⟩
      refine hKc _ _ ⟨Touch.refl _ _, ?_⟩
      clear hKc Kc
      iterate 3
        refine plan_s1 rfl (by rfl) (fun Kc hKc => ?_)
        go_simp
        first
          | (refine hKc _ ?_)
        clear hKc Kc
      refine plan_a1 rfl (by rfl) (fun Kc hKc => ?_)
      go_simp
      refine (HI.out _).mono ?_
      rintro e w1 ⟨rfl, rfl⟩
      refine hKc _ _ ⟨Touch.refl _ _, ?_⟩
      clear hKc Kc
      iterate 11
        refine plan_s1 rfl (by rfl) (fun Kc hKc => ?_)
        go_simp
        first
          | (refine hKc _ ?_)
        clear hKc Kc
      obtain ⟨B1, m1, hal⟩ := HH.out.al
      have HAl := Lib.hid hal
      clear hal
      refine plan_a1 rfl (by rfl) (fun Kc hKc => ?_)
      go_simp
      refine (HC.out _ _ _ (by exact HAl.out.touch ((Touch.refl (fun _ => False) _).drew) (fun e => e) (fun _ _ e => e))).mono ?_
      rintro e w2 ⟨rfl, t2⟩
      refine hKc _ _ ⟨t2, ?_⟩
      clear hKc Kc
      have HT2 := Lib.hid t2
      clear t2
      iterate 13
        refine plan_s rfl fun Kc hKc => ?_
        go_simp
        first
          | (refine hKc _ ?_)
        clear hKc Kc
      refine plan_a rfl fun Kc hKc => ?_
      go_simp
      refine hKc _ _ ⟨Touch.refl _ _, ?_⟩
      clear hKc Kc
      iterate 2
        refine plan_s rfl fun Kc hKc => ?_
        go_simp
        first
          | (refine hKc _ ?_)
        clear hKc Kc
      refine plan_done ?_
      clear hw1
      go_wp2
      go_ret
      exact ⟨ret_bool (by rw [HV.out]; try rfl), (Touch.refl (fun _ => False) w).drew.trans HT2.out (fun _ _ e => e)⟩
  · have HV := Lib.hid (show openV c t = false by unfold openV; simp; intro h1 h2; omega)
    generalize openV c t = v at *
    generalize 604800 - c.off = s at *
    have hcase : instB t = false ∨ (instB t = true ∧ ¬ t < 1125899906842624 ∧ 0 ≤ t) := by
      cases hi : instB t
      · exact .inl rfl
      · have := instB_true hi; exact .inr ⟨rfl, by omega, by omega⟩
    clear h hoff hin
    rcases hcase with hi | ⟨hi, hlt, h0⟩
    rotate_left
    · have hd : decide (t < 1125899906842624) = false := by simp; omega
      clear hlt
      rw [hi] at HI
      clear hi
      go_enter Try.func16, Try.ntmps16
      go_wp2_with fail
      refine wp_region_plan [(0, 0), (2, 1), (0, 2), (0, 3), (0, 4), (2, 5), (0, 6), (0, 7), (0, 8), (0, 9), (0, 10), (0, 11), (0, 12), (0, 13), (0, 14), (0, 15), (0, 16), (2, 17), (0, 18), (0, 19), (0, 20), (0, 21), (0, 22), (0, 23), (0, 24), (0, 25), (0, 26), (0, 27), (0, 28), (0, 29), (0, 30), (2, 31), (0, 32), (0, 33)] (fun _ => False) (by kernel_rfl) (by kernel_rfl) (fun c a d v w h => by cases d <;> exact h) ?_
      iterate 1
        refine plan_s1 rfl (by rfl) (fun Kc hKc => ?_)
        go_simp
        first
          | (refine hKc _ ?_)
        clear hKc Kc
      refine plan_a1 rfl (by rfl) (fun Kc hKc => ?_)
      go_simp
      refine (HN.out _ (by exact HH.out.none ((Touch.refl _ _).drew))).mono ?_
      rintro e w1 ⟨rfl, rfl⟩
      refine hKc _ _ ⟨Touch.refl _ _, ?_⟩
      clear hKc Kc
      iterate 3
        refine plan_s1 rfl (by rfl) (fun Kc hKc => ?_)
        go_simp
        first
          | (refine hKc _ ?_)
        clear hKc Kc
      refine plan_a1 rfl (by rfl) (fun Kc hKc => ?_)
      go_simp
      refine (HI.out _).mono ?_
      rintro e w1 ⟨rfl, rfl⟩
      refine hKc _ _ ⟨Touch.refl _ _, ?_⟩
      clear hKc Kc
      iterate 4
        refine plan_s1 rfl (by rfl) (fun Kc hKc => ?_)
        go_simp
        first
          | (refine hKc _ ?_)
        clear hKc Kc
      trace_state
      iterate 7
        refine plan_s rfl fun Kc hKc => ?_
        go_simp
        first
          | (refine hKc _ ?_)
        clear hKc Kc
      refine plan_a rfl fun Kc hKc => ?_
      go_simp
      refine hKc _ _ ⟨Touch.refl _ _, ?_⟩
      clear hKc Kc
      iterate 13
        refine plan_s rfl fun Kc hKc => ?_
        go_simp
        first
          | (refine hKc _ ?_)
        clear hKc Kc
      refine plan_a rfl fun Kc hKc => ?_
      go_simp
      refine hKc _ _ ⟨Touch.refl _ _, ?_⟩
      clear hKc Kc
      iterate 2
        refine plan_s rfl fun Kc hKc => ?_
        go_simp
        first
          | (refine hKc _ ?_)
        clear hKc Kc
      refine plan_done ?_
      go_wp2
      go_ret
      exact ⟨ret_bool (by rw [HV.out]; try rfl), (Touch.refl (fun _ => False) w).drew⟩
    all_goals
      rw [hi] at HI
      clear hi
      go_enter Try.func16, Try.ntmps16
      go_wp2_with fail
      refine wp_region_plan [(0, 0), (2, 1), (0, 2), (0, 3), (0, 4), (2, 5), (0, 6), (0, 7), (0, 8), (0, 9), (0, 10), (0, 11), (0, 12), (0, 13), (0, 14), (0, 15), (0, 16), (2, 17), (0, 18), (0, 19), (0, 20), (0, 21), (0, 22), (0, 23), (0, 24), (0, 25), (0, 26), (0, 27), (0, 28), (0, 29), (0, 30), (2, 31), (0, 32), (0, 33)] (fun _ => False) (by kernel_rfl) (by kernel_rfl) (fun c a d v w h => by cases d <;> exact h) ?_
      iterate 1
        refine plan_s1 rfl (by rfl) (fun Kc hKc => ?_)
        go_simp
        first
          | (refine hKc _ ?_)
        clear hKc Kc
      refine plan_a1 rfl (by rfl) (fun Kc hKc => ?_)
      go_simp
      refine (HN.out _ (by exact HH.out.none ((Touch.refl _ _).drew))).mono ?_
      rintro e w1 ⟨rfl, rfl⟩
      refine hKc _ _ ⟨Touch.refl _ _, ?_⟩
      clear hKc Kc
      iterate 3
        refine plan_s1 rfl (by rfl) (fun Kc hKc => ?_)
        go_simp
        first
          | (refine hKc _ ?_)
        clear hKc Kc
      refine plan_a1 rfl (by rfl) (fun Kc hKc => ?_)
      go_simp
      refine (HI.out _).mono ?_
      rintro e w1 ⟨rfl, rfl⟩
      refine hKc _ _ ⟨Touch.refl _ _, ?_⟩
      clear hKc Kc
      iterate 11
        refine plan_s rfl fun Kc hKc => ?_
        go_simp
        first
          | (refine hKc _ ?_)
        clear hKc Kc
      refine plan_a rfl fun Kc hKc => ?_
      go_simp
      refine hKc _ _ ⟨Touch.refl _ _, ?_⟩
      clear hKc Kc
      iterate 13
        refine plan_s rfl fun Kc hKc => ?_
        go_simp
        first
          | (refine hKc _ ?_)
        clear hKc Kc
      refine plan_a rfl fun Kc hKc => ?_
      go_simp
      refine hKc _ _ ⟨Touch.refl _ _, ?_⟩
      clear hKc Kc
      iterate 2
        refine plan_s rfl fun Kc hKc => ?_
        go_simp
        first
          | (refine hKc _ ?_)
        clear hKc Kc
      refine plan_done ?_
      go_wp2
      go_ret
      exact ⟨ret_bool (by rw [HV.out]; try rfl), (Touch.refl (fun _ => False) w).drew⟩
end Go.Proofs.Ytkgbhopmapjjoaa
