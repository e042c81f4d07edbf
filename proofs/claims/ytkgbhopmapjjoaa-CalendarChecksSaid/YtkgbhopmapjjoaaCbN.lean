/- law10.CalendarChecks walked (written by genlaw10.py) -/
import Derived.Test.YtkgbhopmapjjoaaCbL
namespace Go.Proofs.Ytkgbhopmapjjoaa
open Go.RowKit Cal
set_option maxHeartbeats 4000000
set_option maxRecDepth 100000
set_option linter.unusedVariables false
attribute [local irreducible] wpPlan

theorem walk_CalendarChecks {w : World} (x : Ca) (A B : Option Addr) (n m : Nat) (hr : CaR w (fun q => q < w.heap.size) x A B) (hx : -9223372036854775808 ≤ x.off ∧ x.off ≤ 9223372036854775807) (a1 : Int) (ha1 : -9223372036854775808 ≤ a1 ∧ a1 ≤ 9223372036854775807) :
    Calls Try.prog 4 #[.agg #[.int .i64 x.off, .slice A x.wk.length n, .slice B x.cl.length m], .int .i64 a1] w fun e w' => e = .returned (.bool true) ∧ Below w.heap.size w w' := by
  have HA := Lib.hid ((Touch.refl (fun _ => False) w).alloc (.cells #[.int .i64 x.off, .slice A x.wk.length n, .slice B x.cl.length m] 24))
  have HB := Lib.hid (Blk.new w 24 #[.int .i64 x.off, .slice A x.wk.length n, .slice B x.cl.length m])
  have HR := Lib.hid (show CaR (w.alloc (.cells #[.int .i64 x.off, .slice A x.wk.length n, .slice B x.cl.length m] 24)) (fun q => q < (w.alloc (.cells #[.int .i64 x.off, .slice A x.wk.length n, .slice B x.cl.length m] 24)).heap.size) x A B from ⟨(hr.touch HA.out (fun _ _ e => e)).wk.mono (fun q hq => by simp; omega), (hr.touch HA.out (fun _ _ e => e)).cl.mono (fun q hq => by simp; omega)⟩)
  by_cases hlt : (decide (x.wk.length ≤ 60) && decide (x.cl.length ≤ 60)) = true
  rotate_left
  · have hd : (decide (x.wk.length ≤ 60) && decide (x.cl.length ≤ 60)) = false := by simpa using hlt
    clear hlt
    go_enter Try.func4, Try.ntmps4
    go_wp2_with (first
          | (go_at_call 10; go_must (refine (light10_any A B n m x.wk.length x.cl.length x.off _).mono ?_); rintro e wl ⟨rfl, tl⟩; rw [hd]; have HTl := Lib.hid tl; have HBl := Lib.hid (tl.blk HB.out (fun e => e)); have q0 := HBl.out.cell 0; have q1 := HBl.out.cell 1; have q2 := HBl.out.cell 2; simp at q0 q1 q2; clear tl)
          | (go_at_call 12; go_must (refine (lives10_any _).mono ?_); rintro e we ⟨rfl, te⟩; have HTe := Lib.hid (HTl.out.trans te (fun _ _ e => e)); clear te))
    go_ret
    exact ⟨rfl, (HA.out.trans HTe.out (fun _ _ e => e)).below⟩
  have hd := hlt
  have hlen : x.wk.length ≤ 60 ∧ x.cl.length ≤ 60 := by simpa using hlt
  clear hlt
  have HC := Lib.hid (fun w1 hr => fcheck_any (fun q => q < (w.alloc (.cells #[.int .i64 x.off, .slice A x.wk.length n, .slice B x.cl.length m] 24)).heap.size) A B n m x w1 hr (by omega) (by omega))
  have HCC := Lib.hid (fun w1 hr => ccheck_any (fun q => q < (w.alloc (.cells #[.int .i64 x.off, .slice A x.wk.length n, .slice B x.cl.length m] 24)).heap.size) A B n m x w1 hr (by omega) (by omega))
  by_cases hce : checkE x = 0
  rotate_left
  · have hne : (checkE x != 0) = true := by simpa using hce
    have HNB := Lib.hid (fun w1 hr => cnew_bad (fun q => q < (w.alloc (.cells #[.int .i64 x.off, .slice A x.wk.length n, .slice B x.cl.length m] 24)).heap.size) A B n m x w1 hr (by omega) (by omega) hce)
    generalize checkE x = v at *
    clear hlen hce
    go_enter Try.func4, Try.ntmps4
    go_wp2_with (first
          | (go_at_call 10; go_must (refine (light10_any A B n m x.wk.length x.cl.length x.off _).mono ?_); rintro e wl ⟨rfl, tl⟩; rw [hd]; have HTl := Lib.hid tl; have HBl := Lib.hid (tl.blk HB.out (fun e => e)); have q0 := HBl.out.cell 0; have q1 := HBl.out.cell 1; have q2 := HBl.out.cell 2; simp at q0 q1 q2; clear tl)
          | (go_at_call 13; go_must (refine (HNB.out _ (by exact HR.out.touch HTl.out (fun _ _ e => e))).mono ?_); rintro e w0 ⟨rfl, t0⟩; have HT0 := Lib.hid (HTl.out.trans t0 (fun _ _ e => e)); have HB0 := Lib.hid (t0.blk HBl.out (fun e => e)); clear t0 q0 q1 q2; have q0 := HB0.out.cell 0; have q1 := HB0.out.cell 1; have q2 := HB0.out.cell 2; simp at q0 q1 q2)
          | (go_at_call 11; go_must (refine (HC.out _ (by exact HR.out.touch HT0.out (fun _ _ e => e))).mono ?_); rintro e w1 ⟨rfl, t1⟩; have HT1 := Lib.hid (HT0.out.trans t1 (fun _ _ e => e)); have HB1 := Lib.hid (t1.blk HB0.out (fun e => e)); clear t1 q0 q1 q2; have q0 := HB1.out.cell 0; have q1 := HB1.out.cell 1; have q2 := HB1.out.cell 2; simp at q0 q1 q2)
          | (go_at_call 15; go_must (refine (HCC.out _ (by exact HR.out.touch HT1.out (fun _ _ e => e))).mono ?_); rintro e w2 ⟨rfl, t2⟩; have HTc := Lib.hid (HT1.out.trans t2 (fun _ _ e => e)); clear t2)
          | (go_at_call 12; go_must (refine (lives10_any _).mono ?_); rintro e we ⟨rfl, te⟩; have HTe := Lib.hid (HTc.out.trans te (fun _ _ e => e)); clear te))
    go_ret
    exact ⟨rfl, (HA.out.trans HTe.out (fun _ _ e => e)).below⟩
  have hok := check_ok hce
  have HN := Lib.hid (fun w1 hr => cnew_yes (fun q => q < (w.alloc (.cells #[.int .i64 x.off, .slice A x.wk.length n, .slice B x.cl.length m] 24)).heap.size) A B n m x w1 hr hok)
  rw [hce] at HC HCC
  have HO := Lib.hid (fun k a p b G w1 hh => copen_any k a p b x G a1 w1 hh)
  have HFO := Lib.hid (fun w1 hr => fopen_any (fun q => q < (w.alloc (.cells #[.int .i64 x.off, .slice A x.wk.length n, .slice B x.cl.length m] 24)).heap.size) A B n m x a1 w1 hr hok)
  have HP := Lib.hid (fun k a p b G w1 hh => cplain_any k a p b x G w1 hh)
  have HSm := Lib.hid (fun F' A' B' k' m' w1 hr1 hr2 => (sameC_self x ▸ fcsame_any F' (fun q => q < (w.alloc (.cells #[.int .i64 x.off, .slice A x.wk.length n, .slice B x.cl.length m] 24)).heap.size) A' B' A B k' m' n m x x w1 hr1 hr2 (by omega) (by omega) : Calls Try.prog 18 #[.agg #[.int .i64 x.off, .slice A' x.wk.length k', .slice B' x.cl.length m'], .agg #[.int .i64 x.off, .slice A x.wk.length n, .slice B x.cl.length m]] w1 fun e w' => e = .returned (.bool true) ∧ Touch (fun _ => False) w1 w'))
  clear hlen hce hr hok
  generalize openV x a1 = v at *
  go_enter Try.func4, Try.ntmps4
  go_wp2_with (first
        | (go_at_call 10; go_must (refine (light10_any A B n m x.wk.length x.cl.length x.off _).mono ?_); rintro e wl ⟨rfl, tl⟩; rw [hd]; have HTl := Lib.hid tl; have HBl := Lib.hid (tl.blk HB.out (fun e => e)); have q0 := HBl.out.cell 0; have q1 := HBl.out.cell 1; have q2 := HBl.out.cell 2; simp at q0 q1 q2; clear tl)
        | (go_at_call 13; go_must (refine (HN.out _ (by exact HR.out.touch HTl.out (fun _ _ e => e))).mono ?_); rintro e w0 ⟨k, a, p, b, rfl, ck, b1, b2, t1⟩; have HL0 := Lib.hid (LawC.start HTl.out HB.out HR.out ck b1 t1); clear ck t1 b1 b2 q0 q1 q2; obtain ⟨q0, q1, q2⟩ := HL0.out.cells)
        | (go_at_call 11; go_must (refine (HC.out _ (by exact HL0.out.calr)).mono ?_); rintro e w1 ⟨rfl, t⟩; have HL1 := Lib.hid (HL0.out.none t); clear t q0 q1 q2; obtain ⟨q0, q1, q2⟩ := HL1.out.cells)
        | (go_at_call 15; go_must (refine (HCC.out _ (by exact HL1.out.calr)).mono ?_); rintro e w2 ⟨rfl, t⟩; have HL2 := Lib.hid (HL1.out.none t); clear t q0 q1 q2; obtain ⟨q0, q1, q2⟩ := HL2.out.cells))
  have HLd := Lib.hid (HL2.out.none ((Touch.refl (fun _ => False) w2).drew))
  clear q0 q1 q2
  obtain ⟨q0, q1, q2⟩ := HLd.out.cells
  have hgl := HLd.out.bx.lt
  refine wp_region_plan [(0, 0), (0, 1), (1, 3), (1, 4), (2, 2), (2, 5), (0, 6), (0, 7), (0, 8), (1, 10), (2, 9), (2, 11), (0, 12), (0, 13), (2, 14), (0, 15), (0, 16)] (fun _ => False) (by kernel_rfl) (by kernel_rfl) (fun c a d v w h => by cases d <;> exact h) ?_
  iterate 2
    refine plan_s1 rfl (by rfl) (fun Kc hKc => ?_)
    go_simp
    first
      | (refine hKc _ ?_)
    clear hKc Kc
  iterate 2
    apply plan_h
    · rfl
    · rfl
    · intro wh hT
      have hf0 := (hT.cell (p := ⟨w.heap.size, 0, none⟩) hgl (fun e => e)).trans q0
      have hf1 := (hT.cell (p := ⟨w.heap.size, 1, none⟩) hgl (fun e => e)).trans q1
      have hf2 := (hT.cell (p := ⟨w.heap.size, 2, none⟩) hgl (fun e => e)).trans q2
      go_simp
      try rfl
    go_frame
  refine plan_a1 rfl (by rfl) (fun Kc hKc => ?_)
  go_simp
  refine (HO.out _ _ _ _ _ _ (by exact HLd.out.ck)).mono ?_
  rintro e w3 ⟨rfl, t3⟩
  refine hKc _ _ ⟨t3, ?_⟩
  clear hKc Kc
  have HL3 := Lib.hid (HLd.out.none t3)
  clear t3
  refine plan_a1 rfl (by rfl) (fun Kc hKc => ?_)
  go_simp
  refine (HFO.out _ (by exact HL3.out.calr)).mono ?_
  rintro e w4 ⟨rfl, t4⟩
  refine hKc _ _ ⟨t4, ?_⟩
  clear hKc Kc
  have HL4 := Lib.hid (HL3.out.none t4)
  clear t4 q0 q1 q2 hgl
  obtain ⟨q0, q1, q2⟩ := HL4.out.cells
  have hgl := HL4.out.bx.lt
  iterate 3
    refine plan_s1 rfl (by rfl) (fun Kc hKc => ?_)
    go_simp
    first
      | (refine hKc _ ?_)
    clear hKc Kc
  iterate 1
    apply plan_h
    · rfl
    · rfl
    · intro wh hT
      have hf0 := (hT.cell (p := ⟨w.heap.size, 0, none⟩) hgl (fun e => e)).trans q0
      have hf1 := (hT.cell (p := ⟨w.heap.size, 1, none⟩) hgl (fun e => e)).trans q1
      have hf2 := (hT.cell (p := ⟨w.heap.size, 2, none⟩) hgl (fun e => e)).trans q2
      go_simp
      try rfl
    go_frame
  refine plan_a1 rfl (by rfl) (fun Kc hKc => ?_)
  go_simp
  refine (HP.out _ _ _ _ _ _ (by exact HL4.out.ck)).mono ?_
  rintro e w5 ⟨A5, n5, B5, m5, rfl, c5, t5⟩
  refine hKc _ _ ⟨t5, ?_⟩
  clear hKc Kc
  have HL5 := Lib.hid (HL4.out.none t5)
  have HC5 := Lib.hid c5
  clear t5 c5
  refine plan_a1 rfl (by rfl) (fun Kc hKc => ?_)
  go_simp
  refine (HSm.out _ _ _ _ _ _ (by exact HC5.out) (by exact HL5.out.calr)).mono ?_
  rintro e w6 ⟨rfl, t6⟩
  refine hKc _ _ ⟨t6, ?_⟩
  clear hKc Kc
  have HL6 := Lib.hid (HL5.out.none t6)
  clear t6
  iterate 2
    refine plan_s1 rfl (by rfl) (fun Kc hKc => ?_)
    go_simp
    first
      | (refine hKc _ ?_)
    clear hKc Kc
  refine plan_a1 rfl (by rfl) (fun Kc hKc => ?_)
  go_simp
  refine (lives10_any _).mono ?_
  rintro e w7 ⟨rfl, t7⟩
  refine hKc _ _ ⟨t7, ?_⟩
  clear hKc Kc
  have HL7 := Lib.hid (HL6.out.none t7)
  clear t7
  iterate 2
    refine plan_s1 rfl (by rfl) (fun Kc hKc => ?_)
    go_simp
    first
      | (refine hKc _ ?_)
    clear hKc Kc
  refine plan_done ?_
  go_wp2
  go_ret
  exact ⟨rfl, (HA.out.trans HL7.out.t (fun _ _ e => e)).below⟩
end Go.Proofs.Ytkgbhopmapjjoaa
