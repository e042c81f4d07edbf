/- law10.CalendarLeast walked (written by genlaw10.py) -/
import Derived.Test.YtkgbhopmapjjoaaCbG
namespace Go.Proofs.Ytkgbhopmapjjoaa
open Go.RowKit Cal
set_option maxHeartbeats 4000000
set_option maxRecDepth 100000
set_option linter.unusedVariables false

theorem walk_CalendarLeast {w : World} (x : Ca) (A B : Option Addr) (n m : Nat) (hr : CaR w (fun q => q < w.heap.size) x A B) (hx : -9223372036854775808 ≤ x.off ∧ x.off ≤ 9223372036854775807) (a1 : Int) (ha1 : -9223372036854775808 ≤ a1 ∧ a1 ≤ 9223372036854775807) (a2 : Int) (ha2 : -9223372036854775808 ≤ a2 ∧ a2 ≤ 9223372036854775807) :
    Calls Try.prog 8 #[.agg #[.int .i64 x.off, .slice A x.wk.length n, .slice B x.cl.length m], .int .i64 a1, .int .i64 a2] w fun e w' => e = .returned (.bool true) ∧ Below w.heap.size w w' := by
  have HA := Lib.hid ((Touch.refl (fun _ => False) w).alloc (.cells #[.int .i64 x.off, .slice A x.wk.length n, .slice B x.cl.length m] 24))
  have HB := Lib.hid (Blk.new w 24 #[.int .i64 x.off, .slice A x.wk.length n, .slice B x.cl.length m])
  have HR := Lib.hid (show CaR (w.alloc (.cells #[.int .i64 x.off, .slice A x.wk.length n, .slice B x.cl.length m] 24)) (fun q => q < (w.alloc (.cells #[.int .i64 x.off, .slice A x.wk.length n, .slice B x.cl.length m] 24)).heap.size) x A B from ⟨(hr.touch HA.out (fun _ _ e => e)).wk.mono (fun q hq => by simp; omega), (hr.touch HA.out (fun _ _ e => e)).cl.mono (fun q hq => by simp; omega)⟩)
  by_cases hlt : (decide (x.wk.length ≤ 60) && decide (x.cl.length ≤ 60)) = true
  rotate_left
  · have hd : (decide (x.wk.length ≤ 60) && decide (x.cl.length ≤ 60)) = false := by simpa using hlt
    clear hlt
    go_enter Try.func8, Try.ntmps8
    go_wp2_with (first
          | (go_at_call 10; go_must (refine (light10_any A B n m x.wk.length x.cl.length x.off _).mono ?_); rintro e wl ⟨rfl, tl⟩; rw [hd]; have HTl := Lib.hid tl; have HBl := Lib.hid (tl.blk HB.out (fun e => e)); have q0 := HBl.out.cell 0; have q1 := HBl.out.cell 1; have q2 := HBl.out.cell 2; simp at q0 q1 q2; clear tl)
          | (go_at_call 12; go_must (refine (lives10_any _).mono ?_); rintro e we ⟨rfl, te⟩; have HTe := Lib.hid (HTl.out.trans te (fun _ _ e => e)); clear te))
    go_ret
    exact ⟨rfl, (HA.out.trans HTe.out (fun _ _ e => e)).below⟩
  have hd := hlt
  have hlen : x.wk.length ≤ 60 ∧ x.cl.length ≤ 60 := by simpa using hlt
  clear hlt
  have HC := Lib.hid (fun w1 hr => fcheck_any (fun q => q < (w.alloc (.cells #[.int .i64 x.off, .slice A x.wk.length n, .slice B x.cl.length m] 24)).heap.size) A B n m x w1 hr (by omega) (by omega))
  by_cases hce : checkE x = 0
  rotate_left
  · have hne : (checkE x != 0) = true := by simpa using hce
    generalize checkE x = v at *
    clear hlen
    go_enter Try.func8, Try.ntmps8
    go_wp2_with (first
          | (go_at_call 10; go_must (refine (light10_any A B n m x.wk.length x.cl.length x.off _).mono ?_); rintro e wl ⟨rfl, tl⟩; rw [hd]; have HTl := Lib.hid tl; have HBl := Lib.hid (tl.blk HB.out (fun e => e)); have q0 := HBl.out.cell 0; have q1 := HBl.out.cell 1; have q2 := HBl.out.cell 2; simp at q0 q1 q2; clear tl)
          | (go_at_call 11; go_must (refine (HC.out _ (by exact HR.out.touch HTl.out (fun _ _ e => e))).mono ?_); rintro e wc ⟨rfl, tc⟩; have HTc := Lib.hid (HTl.out.trans tc (fun _ _ e => e)); have HBc := Lib.hid (tc.blk HBl.out (fun e => e)); clear q0 q1 q2; have q0 := HBc.out.cell 0; have q1 := HBc.out.cell 1; have q2 := HBc.out.cell 2; simp at q0 q1 q2; clear tc)
          | (go_at_call 12; go_must (refine (lives10_any _).mono ?_); rintro e we ⟨rfl, te⟩; have HTe := Lib.hid (HTc.out.trans te (fun _ _ e => e)); clear te))
    go_ret
    exact ⟨rfl, (HA.out.trans HTe.out (fun _ _ e => e)).below⟩
  have hok := check_ok hce
  have HN := Lib.hid (fun w1 hr => cnew_yes (fun q => q < (w.alloc (.cells #[.int .i64 x.off, .slice A x.wk.length n, .slice B x.cl.length m] 24)).heap.size) A B n m x w1 hr hok)
  rw [hce] at HC
  clear hlen hce hr
  by_cases hb0 : a1 < 0
  · clear hok HN
    go_enter Try.func8, Try.ntmps8
    go_wp2_with (first
          | (go_at_call 10; go_must (refine (light10_any A B n m x.wk.length x.cl.length x.off _).mono ?_); rintro e wl ⟨rfl, tl⟩; rw [hd]; have HTl := Lib.hid tl; have HBl := Lib.hid (tl.blk HB.out (fun e => e)); have q0 := HBl.out.cell 0; have q1 := HBl.out.cell 1; have q2 := HBl.out.cell 2; simp at q0 q1 q2; clear tl)
          | (go_at_call 11; go_must (refine (HC.out _ (by exact HR.out.touch HTl.out (fun _ _ e => e))).mono ?_); rintro e wc ⟨rfl, tc⟩; have HTc := Lib.hid (HTl.out.trans tc (fun _ _ e => e)); have HBc := Lib.hid (tc.blk HBl.out (fun e => e)); clear q0 q1 q2; have q0 := HBc.out.cell 0; have q1 := HBc.out.cell 1; have q2 := HBc.out.cell 2; simp at q0 q1 q2; clear tc)
          | (go_at_call 12; go_must (refine (lives10_any _).mono ?_); rintro e we ⟨rfl, te⟩; have HTe := Lib.hid (HTc.out.trans te (fun _ _ e => e)); clear te))
    go_ret
    exact ⟨rfl, (HA.out.trans HTe.out (fun _ _ e => e)).below⟩
  by_cases hb1 : 1125899906842624 < a1
  · clear hok HN
    go_enter Try.func8, Try.ntmps8
    go_wp2_with (first
          | (go_at_call 10; go_must (refine (light10_any A B n m x.wk.length x.cl.length x.off _).mono ?_); rintro e wl ⟨rfl, tl⟩; rw [hd]; have HTl := Lib.hid tl; have HBl := Lib.hid (tl.blk HB.out (fun e => e)); have q0 := HBl.out.cell 0; have q1 := HBl.out.cell 1; have q2 := HBl.out.cell 2; simp at q0 q1 q2; clear tl)
          | (go_at_call 11; go_must (refine (HC.out _ (by exact HR.out.touch HTl.out (fun _ _ e => e))).mono ?_); rintro e wc ⟨rfl, tc⟩; have HTc := Lib.hid (HTl.out.trans tc (fun _ _ e => e)); have HBc := Lib.hid (tc.blk HBl.out (fun e => e)); clear q0 q1 q2; have q0 := HBc.out.cell 0; have q1 := HBc.out.cell 1; have q2 := HBc.out.cell 2; simp at q0 q1 q2; clear tc)
          | (go_at_call 12; go_must (refine (lives10_any _).mono ?_); rintro e we ⟨rfl, te⟩; have HTe := Lib.hid (HTc.out.trans te (fun _ _ e => e)); clear te))
    go_ret
    exact ⟨rfl, (HA.out.trans HTe.out (fun _ _ e => e)).below⟩
  by_cases hb2 : a2 < 1
  · clear hok HN
    go_enter Try.func8, Try.ntmps8
    go_wp2_with (first
          | (go_at_call 10; go_must (refine (light10_any A B n m x.wk.length x.cl.length x.off _).mono ?_); rintro e wl ⟨rfl, tl⟩; rw [hd]; have HTl := Lib.hid tl; have HBl := Lib.hid (tl.blk HB.out (fun e => e)); have q0 := HBl.out.cell 0; have q1 := HBl.out.cell 1; have q2 := HBl.out.cell 2; simp at q0 q1 q2; clear tl)
          | (go_at_call 11; go_must (refine (HC.out _ (by exact HR.out.touch HTl.out (fun _ _ e => e))).mono ?_); rintro e wc ⟨rfl, tc⟩; have HTc := Lib.hid (HTl.out.trans tc (fun _ _ e => e)); have HBc := Lib.hid (tc.blk HBl.out (fun e => e)); clear q0 q1 q2; have q0 := HBc.out.cell 0; have q1 := HBc.out.cell 1; have q2 := HBc.out.cell 2; simp at q0 q1 q2; clear tc)
          | (go_at_call 12; go_must (refine (lives10_any _).mono ?_); rintro e we ⟨rfl, te⟩; have HTe := Lib.hid (HTc.out.trans te (fun _ _ e => e)); clear te))
    go_ret
    exact ⟨rfl, (HA.out.trans HTe.out (fun _ _ e => e)).below⟩
  have HD := Lib.hid (fun k a p b G w1 hh => cdue_any k a p b x G a1 a2 w1 hh (by omega))
  by_cases he : (x.due a1 a2).2 = 0
  · obtain ⟨d, e1, e2, e3, e4, e5, e6⟩ := least_yes hok (by omega) he
    have HE1 := Lib.hid (fun k a p b G w1 hh => elapsed_any k a p b x G a1 d w1 hh)
    have HE2 := Lib.hid (fun k a p b G w1 hh => elapsed_any k a p b x G a1 (d - 1) w1 hh)
    have HO := Lib.hid (fun k a p b G w1 hh => copen_any k a p b x G (d - 1) w1 hh)
    rw [e1] at HD
    rw [e4] at HE1
    rw [e5] at HE2
    rw [e6] at HO
    clear hok he e1 e4 e5 e6
    go_enter Try.func8, Try.ntmps8
    go_wp2_with (first
          | (go_at_call 10; go_must (refine (light10_any A B n m x.wk.length x.cl.length x.off _).mono ?_); rintro e wl ⟨rfl, tl⟩; rw [hd]; have HTl := Lib.hid tl; have HBl := Lib.hid (tl.blk HB.out (fun e => e)); have q0 := HBl.out.cell 0; have q1 := HBl.out.cell 1; have q2 := HBl.out.cell 2; simp at q0 q1 q2; clear tl)
          | (go_at_call 11; go_must (refine (HC.out _ (by exact HR.out.touch HTl.out (fun _ _ e => e))).mono ?_); rintro e wc ⟨rfl, tc⟩; have HTc := Lib.hid (HTl.out.trans tc (fun _ _ e => e)); have HBc := Lib.hid (tc.blk HBl.out (fun e => e)); clear q0 q1 q2; have q0 := HBc.out.cell 0; have q1 := HBc.out.cell 1; have q2 := HBc.out.cell 2; simp at q0 q1 q2; clear tc)
          | (go_at_call 13; go_must (refine (HN.out _ (by exact HR.out.touch HTc.out (fun _ _ e => e))).mono ?_); rintro e w0 ⟨k, a, p, b, rfl, ck, b1, b2, t1⟩; have HL0 := Lib.hid (LawC.start HTc.out HB.out HR.out ck b1 t1); clear ck t1 b1 b2 q0 q1 q2; obtain ⟨q0, q1, q2⟩ := HL0.out.cells)
          | (go_at_call 12; go_must (refine (lives10_any _).mono ?_); rintro e we ⟨rfl, te⟩; have HTe := Lib.hid (HL4.out.t.trans te (fun _ _ e => e)); clear te)
          | (go_at_call 16; have HM4 := HL3; go_must (refine (HO.out _ _ _ _ _ _ (by exact HL3.out.ck)).mono ?_); rintro e w4 ⟨rfl, t⟩; have HL4 := Lib.hid (HL3.out.none t); clear t q0 q1 q2; obtain ⟨q0, q1, q2⟩ := HL4.out.cells)
          | (go_at_call 20; have HM3 := HL2; go_must (refine (HE2.out _ _ _ _ _ _ (by exact HL2.out.ck)).mono ?_); rintro e w3 ⟨rfl, ck, t⟩; have HL3 := Lib.hid (HL2.out.get ck t); clear ck t q0 q1 q2; obtain ⟨q0, q1, q2⟩ := HL3.out.cells)
          | (go_at_call 20; have HM2 := HL1; go_must (refine (HE1.out _ _ _ _ _ _ (by exact HL1.out.ck)).mono ?_); rintro e w2 ⟨rfl, ck, t⟩; have HL2 := Lib.hid (HL1.out.get ck t); clear ck t q0 q1 q2; obtain ⟨q0, q1, q2⟩ := HL2.out.cells)
          | (go_at_call 14; have HM1 := HL0; go_must (refine (HD.out _ _ _ _ _ _ (by exact HL0.out.ck)).mono ?_); rintro e w1 ⟨rfl, ck, t⟩; have HL1 := Lib.hid (HL0.out.get ck t); clear ck t q0 q1 q2; obtain ⟨q0, q1, q2⟩ := HL1.out.cells))
    go_ret
    exact ⟨rfl, (HA.out.trans HTe.out (fun _ _ e => e)).below⟩
  · obtain ⟨g1, g2, g3, g4⟩ := least_no hok (instB_of (by omega) (by omega)) (by omega) he
    have HE := Lib.hid (fun k a p b G w1 hh => elapsed_any k a p b x G a1 1125899906842624 w1 hh)
    generalize x.due a1 a2 = r1 at *
    generalize x.el a1 1125899906842624 = r2 at *
    obtain ⟨r1, s1⟩ := r1
    obtain ⟨r2, s2⟩ := r2
    simp only at g1 g2 g3 g4 he
    subst g1 g2
    clear hok
    rcases g4 with g4 | ⟨g4, g5⟩
    · subst g4
      go_enter Try.func8, Try.ntmps8
      go_wp2_with (first
            | (go_at_call 10; go_must (refine (light10_any A B n m x.wk.length x.cl.length x.off _).mono ?_); rintro e wl ⟨rfl, tl⟩; rw [hd]; have HTl := Lib.hid tl; have HBl := Lib.hid (tl.blk HB.out (fun e => e)); have q0 := HBl.out.cell 0; have q1 := HBl.out.cell 1; have q2 := HBl.out.cell 2; simp at q0 q1 q2; clear tl)
            | (go_at_call 11; go_must (refine (HC.out _ (by exact HR.out.touch HTl.out (fun _ _ e => e))).mono ?_); rintro e wc ⟨rfl, tc⟩; have HTc := Lib.hid (HTl.out.trans tc (fun _ _ e => e)); have HBc := Lib.hid (tc.blk HBl.out (fun e => e)); clear q0 q1 q2; have q0 := HBc.out.cell 0; have q1 := HBc.out.cell 1; have q2 := HBc.out.cell 2; simp at q0 q1 q2; clear tc)
            | (go_at_call 13; go_must (refine (HN.out _ (by exact HR.out.touch HTc.out (fun _ _ e => e))).mono ?_); rintro e w0 ⟨k, a, p, b, rfl, ck, b1, b2, t1⟩; have HL0 := Lib.hid (LawC.start HTc.out HB.out HR.out ck b1 t1); clear ck t1 b1 b2 q0 q1 q2; obtain ⟨q0, q1, q2⟩ := HL0.out.cells)
            | (go_at_call 12; go_must (refine (lives10_any _).mono ?_); rintro e we ⟨rfl, te⟩; have HTe := Lib.hid (HL2.out.t.trans te (fun _ _ e => e)); clear te)
            | (go_at_call 20; have HM2 := HL1; go_must (refine (HE.out _ _ _ _ _ _ (by exact HL1.out.ck)).mono ?_); rintro e w2 ⟨rfl, ck, t⟩; have HL2 := Lib.hid (HL1.out.get ck t); clear ck t q0 q1 q2; obtain ⟨q0, q1, q2⟩ := HL2.out.cells)
            | (go_at_call 14; have HM1 := HL0; go_must (refine (HD.out _ _ _ _ _ _ (by exact HL0.out.ck)).mono ?_); rintro e w1 ⟨rfl, ck, t⟩; have HL1 := Lib.hid (HL0.out.get ck t); clear ck t q0 q1 q2; obtain ⟨q0, q1, q2⟩ := HL1.out.cells))
      go_ret
      exact ⟨rfl, (HA.out.trans HTe.out (fun _ _ e => e)).below⟩
    · subst g4
      have hz : ((x.wk.length : Int) == 0) = true := by simp [g5]
      clear g5
      go_enter Try.func8, Try.ntmps8
      go_wp2_with (first
            | (go_at_call 10; go_must (refine (light10_any A B n m x.wk.length x.cl.length x.off _).mono ?_); rintro e wl ⟨rfl, tl⟩; rw [hd]; have HTl := Lib.hid tl; have HBl := Lib.hid (tl.blk HB.out (fun e => e)); have q0 := HBl.out.cell 0; have q1 := HBl.out.cell 1; have q2 := HBl.out.cell 2; simp at q0 q1 q2; clear tl)
            | (go_at_call 11; go_must (refine (HC.out _ (by exact HR.out.touch HTl.out (fun _ _ e => e))).mono ?_); rintro e wc ⟨rfl, tc⟩; have HTc := Lib.hid (HTl.out.trans tc (fun _ _ e => e)); have HBc := Lib.hid (tc.blk HBl.out (fun e => e)); clear q0 q1 q2; have q0 := HBc.out.cell 0; have q1 := HBc.out.cell 1; have q2 := HBc.out.cell 2; simp at q0 q1 q2; clear tc)
            | (go_at_call 13; go_must (refine (HN.out _ (by exact HR.out.touch HTc.out (fun _ _ e => e))).mono ?_); rintro e w0 ⟨k, a, p, b, rfl, ck, b1, b2, t1⟩; have HL0 := Lib.hid (LawC.start HTc.out HB.out HR.out ck b1 t1); clear ck t1 b1 b2 q0 q1 q2; obtain ⟨q0, q1, q2⟩ := HL0.out.cells)
            | (go_at_call 12; go_must (refine (lives10_any _).mono ?_); rintro e we ⟨rfl, te⟩; have HTe := Lib.hid (HL2.out.t.trans te (fun _ _ e => e)); clear te)
            | (go_at_call 20; have HM2 := HL1; go_must (refine (HE.out _ _ _ _ _ _ (by exact HL1.out.ck)).mono ?_); rintro e w2 ⟨rfl, ck, t⟩; have HL2 := Lib.hid (HL1.out.get ck t); clear ck t q0 q1 q2; obtain ⟨q0, q1, q2⟩ := HL2.out.cells)
            | (go_at_call 14; have HM1 := HL0; go_must (refine (HD.out _ _ _ _ _ _ (by exact HL0.out.ck)).mono ?_); rintro e w1 ⟨rfl, ck, t⟩; have HL1 := Lib.hid (HL0.out.get ck t); clear ck t q0 q1 q2; obtain ⟨q0, q1, q2⟩ := HL1.out.cells))
      go_ret
      exact ⟨rfl, (HA.out.trans HTe.out (fun _ _ e => e)).below⟩
end Go.Proofs.Ytkgbhopmapjjoaa
