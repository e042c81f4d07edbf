/- law10.CalendarAdds walked (written by genlaw10.py) -/
import Derived.Test.YtkgbhopmapjjoaaCbG
namespace Go.Proofs.Ytkgbhopmapjjoaa
open Go.RowKit Cal
set_option maxHeartbeats 4000000
set_option maxRecDepth 100000
set_option linter.unusedVariables false

theorem walk_CalendarAdds {w : World} (x : Ca) (A B : Option Addr) (n m : Nat) (hr : CaR w (fun q => q < w.heap.size) x A B) (hx : -9223372036854775808 ≤ x.off ∧ x.off ≤ 9223372036854775807) (a1 : Int) (ha1 : -9223372036854775808 ≤ a1 ∧ a1 ≤ 9223372036854775807) (a2 : Int) (ha2 : -9223372036854775808 ≤ a2 ∧ a2 ≤ 9223372036854775807) (a3 : Int) (ha3 : -9223372036854775808 ≤ a3 ∧ a3 ≤ 9223372036854775807) (a4 : Int) (ha4 : -9223372036854775808 ≤ a4 ∧ a4 ≤ 9223372036854775807) :
    Calls Try.prog 6 #[.agg #[.int .i64 x.off, .slice A x.wk.length n, .slice B x.cl.length m], .int .i64 a1, .int .i64 a2, .int .i64 a3, .int .i64 a4] w fun e w' => e = .returned (.bool true) ∧ Below w.heap.size w w' := by
  have HA := Lib.hid ((Touch.refl (fun _ => False) w).alloc (.cells #[.int .i64 x.off, .slice A x.wk.length n, .slice B x.cl.length m] 24))
  have HB := Lib.hid (Blk.new w 24 #[.int .i64 x.off, .slice A x.wk.length n, .slice B x.cl.length m])
  have HR := Lib.hid (show CaR (w.alloc (.cells #[.int .i64 x.off, .slice A x.wk.length n, .slice B x.cl.length m] 24)) (fun q => q < (w.alloc (.cells #[.int .i64 x.off, .slice A x.wk.length n, .slice B x.cl.length m] 24)).heap.size) x A B from ⟨(hr.touch HA.out (fun _ _ e => e)).wk.mono (fun q hq => by simp; omega), (hr.touch HA.out (fun _ _ e => e)).cl.mono (fun q hq => by simp; omega)⟩)
  by_cases hlt : (decide (x.wk.length ≤ 60) && decide (x.cl.length ≤ 60)) = true
  rotate_left
  · have hd : (decide (x.wk.length ≤ 60) && decide (x.cl.length ≤ 60)) = false := by simpa using hlt
    clear hlt
    go_enter Try.func6, Try.ntmps6
    go_wp2_with (first
          | (go_at_call 10; go_must (refine (light10_any A B n m x.wk.length x.cl.length x.off _).mono ?_); rintro e wl ⟨rfl, tl⟩; rw [hd]; have HTl := Lib.hid tl; have HBl := Lib.hid (tl.blk HB.out (fun e => e)); have q0 := HBl.out.cell 0; have q1 := HBl.out.cell 1; have q2 := HBl.out.cell 2; simp at q0 q1 q2; clear tl)
          | (go_at_call 12; go_must (refine (lives10_any _).mono ?_); rintro e we ⟨rfl, te⟩; have HTe := Lib.hid (HTl.out.trans te (fun _ _ e => e)); clear te))
    go_ret
    exact ⟨rfl, (HA.out.trans HTe.out (fun _ _ e => e)).below⟩
  have hd := hlt
  have hlen : x.wk.length ≤ 60 ∧ x.cl.length ≤ 60 := by simpa using hlt
  clear hlt
  have HC := Lib.hid (fun w1 hr => fcheck_any (fun q => q < (w.alloc (.cells #[.int .i64 x.off, .slice A x.wk.length n, .slice B x.cl.length m] 24)).heap.size) A B n m x w1 hr (by omega) (by omega))
  by_cases hce : checkE x = 0
  rotate_left
  · have hne : (checkE x != 0) = true := by simpa using hce
    generalize checkE x = v at *
    clear hlen
    go_enter Try.func6, Try.ntmps6
    go_wp2_with (first
          | (go_at_call 10; go_must (refine (light10_any A B n m x.wk.length x.cl.length x.off _).mono ?_); rintro e wl ⟨rfl, tl⟩; rw [hd]; have HTl := Lib.hid tl; have HBl := Lib.hid (tl.blk HB.out (fun e => e)); have q0 := HBl.out.cell 0; have q1 := HBl.out.cell 1; have q2 := HBl.out.cell 2; simp at q0 q1 q2; clear tl)
          | (go_at_call 11; go_must (refine (HC.out _ (by exact HR.out.touch HTl.out (fun _ _ e => e))).mono ?_); rintro e wc ⟨rfl, tc⟩; have HTc := Lib.hid (HTl.out.trans tc (fun _ _ e => e)); have HBc := Lib.hid (tc.blk HBl.out (fun e => e)); clear q0 q1 q2; have q0 := HBc.out.cell 0; have q1 := HBc.out.cell 1; have q2 := HBc.out.cell 2; simp at q0 q1 q2; clear tc)
          | (go_at_call 12; go_must (refine (lives10_any _).mono ?_); rintro e we ⟨rfl, te⟩; have HTe := Lib.hid (HTc.out.trans te (fun _ _ e => e)); clear te))
    go_ret
    exact ⟨rfl, (HA.out.trans HTe.out (fun _ _ e => e)).below⟩
  have hok := check_ok hce
  have HN := Lib.hid (fun w1 hr => cnew_yes (fun q => q < (w.alloc (.cells #[.int .i64 x.off, .slice A x.wk.length n, .slice B x.cl.length m] 24)).heap.size) A B n m x w1 hr hok)
  rw [hce] at HC
  clear hlen hce hr
  by_cases hb0 : a2 < 0
  · clear hok HN
    go_enter Try.func6, Try.ntmps6
    go_wp2_with (first
          | (go_at_call 10; go_must (refine (light10_any A B n m x.wk.length x.cl.length x.off _).mono ?_); rintro e wl ⟨rfl, tl⟩; rw [hd]; have HTl := Lib.hid tl; have HBl := Lib.hid (tl.blk HB.out (fun e => e)); have q0 := HBl.out.cell 0; have q1 := HBl.out.cell 1; have q2 := HBl.out.cell 2; simp at q0 q1 q2; clear tl)
          | (go_at_call 11; go_must (refine (HC.out _ (by exact HR.out.touch HTl.out (fun _ _ e => e))).mono ?_); rintro e wc ⟨rfl, tc⟩; have HTc := Lib.hid (HTl.out.trans tc (fun _ _ e => e)); have HBc := Lib.hid (tc.blk HBl.out (fun e => e)); clear q0 q1 q2; have q0 := HBc.out.cell 0; have q1 := HBc.out.cell 1; have q2 := HBc.out.cell 2; simp at q0 q1 q2; clear tc)
          | (go_at_call 12; go_must (refine (lives10_any _).mono ?_); rintro e we ⟨rfl, te⟩; have HTe := Lib.hid (HTc.out.trans te (fun _ _ e => e)); clear te))
    go_ret
    exact ⟨rfl, (HA.out.trans HTe.out (fun _ _ e => e)).below⟩
  by_cases hb1 : a3 < 0
  · clear hok HN
    go_enter Try.func6, Try.ntmps6
    go_wp2_with (first
          | (go_at_call 10; go_must (refine (light10_any A B n m x.wk.length x.cl.length x.off _).mono ?_); rintro e wl ⟨rfl, tl⟩; rw [hd]; have HTl := Lib.hid tl; have HBl := Lib.hid (tl.blk HB.out (fun e => e)); have q0 := HBl.out.cell 0; have q1 := HBl.out.cell 1; have q2 := HBl.out.cell 2; simp at q0 q1 q2; clear tl)
          | (go_at_call 11; go_must (refine (HC.out _ (by exact HR.out.touch HTl.out (fun _ _ e => e))).mono ?_); rintro e wc ⟨rfl, tc⟩; have HTc := Lib.hid (HTl.out.trans tc (fun _ _ e => e)); have HBc := Lib.hid (tc.blk HBl.out (fun e => e)); clear q0 q1 q2; have q0 := HBc.out.cell 0; have q1 := HBc.out.cell 1; have q2 := HBc.out.cell 2; simp at q0 q1 q2; clear tc)
          | (go_at_call 12; go_must (refine (lives10_any _).mono ?_); rintro e we ⟨rfl, te⟩; have HTe := Lib.hid (HTc.out.trans te (fun _ _ e => e)); clear te))
    go_ret
    exact ⟨rfl, (HA.out.trans HTe.out (fun _ _ e => e)).below⟩
  by_cases hb2 : 4503599627370496 < a2
  · clear hok HN
    go_enter Try.func6, Try.ntmps6
    go_wp2_with (first
          | (go_at_call 10; go_must (refine (light10_any A B n m x.wk.length x.cl.length x.off _).mono ?_); rintro e wl ⟨rfl, tl⟩; rw [hd]; have HTl := Lib.hid tl; have HBl := Lib.hid (tl.blk HB.out (fun e => e)); have q0 := HBl.out.cell 0; have q1 := HBl.out.cell 1; have q2 := HBl.out.cell 2; simp at q0 q1 q2; clear tl)
          | (go_at_call 11; go_must (refine (HC.out _ (by exact HR.out.touch HTl.out (fun _ _ e => e))).mono ?_); rintro e wc ⟨rfl, tc⟩; have HTc := Lib.hid (HTl.out.trans tc (fun _ _ e => e)); have HBc := Lib.hid (tc.blk HBl.out (fun e => e)); clear q0 q1 q2; have q0 := HBc.out.cell 0; have q1 := HBc.out.cell 1; have q2 := HBc.out.cell 2; simp at q0 q1 q2; clear tc)
          | (go_at_call 12; go_must (refine (lives10_any _).mono ?_); rintro e we ⟨rfl, te⟩; have HTe := Lib.hid (HTc.out.trans te (fun _ _ e => e)); clear te))
    go_ret
    exact ⟨rfl, (HA.out.trans HTe.out (fun _ _ e => e)).below⟩
  by_cases hb3 : 4503599627370496 < a3
  · clear hok HN
    go_enter Try.func6, Try.ntmps6
    go_wp2_with (first
          | (go_at_call 10; go_must (refine (light10_any A B n m x.wk.length x.cl.length x.off _).mono ?_); rintro e wl ⟨rfl, tl⟩; rw [hd]; have HTl := Lib.hid tl; have HBl := Lib.hid (tl.blk HB.out (fun e => e)); have q0 := HBl.out.cell 0; have q1 := HBl.out.cell 1; have q2 := HBl.out.cell 2; simp at q0 q1 q2; clear tl)
          | (go_at_call 11; go_must (refine (HC.out _ (by exact HR.out.touch HTl.out (fun _ _ e => e))).mono ?_); rintro e wc ⟨rfl, tc⟩; have HTc := Lib.hid (HTl.out.trans tc (fun _ _ e => e)); have HBc := Lib.hid (tc.blk HBl.out (fun e => e)); clear q0 q1 q2; have q0 := HBc.out.cell 0; have q1 := HBc.out.cell 1; have q2 := HBc.out.cell 2; simp at q0 q1 q2; clear tc)
          | (go_at_call 12; go_must (refine (lives10_any _).mono ?_); rintro e we ⟨rfl, te⟩; have HTe := Lib.hid (HTc.out.trans te (fun _ _ e => e)); clear te))
    go_ret
    exact ⟨rfl, (HA.out.trans HTe.out (fun _ _ e => e)).below⟩
  have HD1 := Lib.hid (fun k a p b G w1 hh => cdue_any k a p b x G a1 (a2 + a3) w1 hh (by omega))
  by_cases he : (x.due a1 (a2 + a3)).2 = 0
  rotate_left
  · have hne : ((x.due a1 (a2 + a3)).2 != 0) = true := by simpa using he
    generalize x.due a1 (a2 + a3) = r1 at *
    obtain ⟨r1, s1⟩ := r1
    simp only at hne
    clear hok he
    go_enter Try.func6, Try.ntmps6
    go_wp2_with (first
          | (go_at_call 10; go_must (refine (light10_any A B n m x.wk.length x.cl.length x.off _).mono ?_); rintro e wl ⟨rfl, tl⟩; rw [hd]; have HTl := Lib.hid tl; have HBl := Lib.hid (tl.blk HB.out (fun e => e)); have q0 := HBl.out.cell 0; have q1 := HBl.out.cell 1; have q2 := HBl.out.cell 2; simp at q0 q1 q2; clear tl)
          | (go_at_call 11; go_must (refine (HC.out _ (by exact HR.out.touch HTl.out (fun _ _ e => e))).mono ?_); rintro e wc ⟨rfl, tc⟩; have HTc := Lib.hid (HTl.out.trans tc (fun _ _ e => e)); have HBc := Lib.hid (tc.blk HBl.out (fun e => e)); clear q0 q1 q2; have q0 := HBc.out.cell 0; have q1 := HBc.out.cell 1; have q2 := HBc.out.cell 2; simp at q0 q1 q2; clear tc)
          | (go_at_call 13; go_must (refine (HN.out _ (by exact HR.out.touch HTc.out (fun _ _ e => e))).mono ?_); rintro e w0 ⟨k, a, p, b, rfl, ck, b1, b2, t1⟩; have HL0 := Lib.hid (LawC.start HTc.out HB.out HR.out ck b1 t1); clear ck t1 b1 b2 q0 q1 q2; obtain ⟨q0, q1, q2⟩ := HL0.out.cells)
          | (go_at_call 12; go_must (refine (lives10_any _).mono ?_); rintro e we ⟨rfl, te⟩; have HTe := Lib.hid (HL1.out.t.trans te (fun _ _ e => e)); clear te)
          | (go_at_call 14; have HM1 := HL0; go_must (refine (HD1.out _ _ _ _ _ _ (by exact HL0.out.ck)).mono ?_); rintro e w1 ⟨rfl, ck, t⟩; have HL1 := Lib.hid (HL0.out.get ck t); clear ck t q0 q1 q2; obtain ⟨q0, q1, q2⟩ := HL1.out.cells))
    go_ret
    exact ⟨rfl, (HA.out.trans HTe.out (fun _ _ e => e)).below⟩
  obtain ⟨g1, g2, g3, g4, g5⟩ := adds1 hok (by omega) (by omega) he
  have HR5 := Lib.hid (fun h1 h2 => adds2 hok (x := a4) he h1 h2)
  have HD2 := Lib.hid (fun k a p b G w1 hh => cdue_any k a p b x G a1 a2 w1 hh (by omega))
  have HD3 := Lib.hid (fun y k a p b G w1 hh => cdue_any k a p b x G y a3 w1 hh (by omega))
  generalize x.due a1 (a2 + a3) = r1 at *
  obtain ⟨d, s1⟩ := r1
  simp only at he g1 g2 g3 g4 g5 HR5
  subst he
  generalize x.due a1 a2 = r2 at *
  obtain ⟨d1, s2⟩ := r2
  simp only at g1 g2 g3 g4 g5
  subst g1
  have HD3 := Lib.hid (HD3.out d1)
  generalize x.due d1 a3 = r3 at *
  obtain ⟨d2, s3⟩ := r3
  simp only at g3 g4 g5
  subst g3
  clear hok
  by_cases hz : a3 = 0
  · obtain rfl : d2 = d1 := g5 hz
    have hz1 : decide (0 < a3) = false := by simp; omega
    have hz2 : (a3 == 0) = true := by simp [hz]
    have hz3 : a3 ≤ 0 := by omega
    clear g4 g5 hz
    by_cases ha : a4 < a1
    · clear HR5
      go_enter Try.func6, Try.ntmps6
      go_wp2_with (first
            | (go_at_call 10; go_must (refine (light10_any A B n m x.wk.length x.cl.length x.off _).mono ?_); rintro e wl ⟨rfl, tl⟩; rw [hd]; have HTl := Lib.hid tl; have HBl := Lib.hid (tl.blk HB.out (fun e => e)); have q0 := HBl.out.cell 0; have q1 := HBl.out.cell 1; have q2 := HBl.out.cell 2; simp at q0 q1 q2; clear tl)
            | (go_at_call 11; go_must (refine (HC.out _ (by exact HR.out.touch HTl.out (fun _ _ e => e))).mono ?_); rintro e wc ⟨rfl, tc⟩; have HTc := Lib.hid (HTl.out.trans tc (fun _ _ e => e)); have HBc := Lib.hid (tc.blk HBl.out (fun e => e)); clear q0 q1 q2; have q0 := HBc.out.cell 0; have q1 := HBc.out.cell 1; have q2 := HBc.out.cell 2; simp at q0 q1 q2; clear tc)
            | (go_at_call 13; go_must (refine (HN.out _ (by exact HR.out.touch HTc.out (fun _ _ e => e))).mono ?_); rintro e w0 ⟨k, a, p, b, rfl, ck, b1, b2, t1⟩; have HL0 := Lib.hid (LawC.start HTc.out HB.out HR.out ck b1 t1); clear ck t1 b1 b2 q0 q1 q2; obtain ⟨q0, q1, q2⟩ := HL0.out.cells)
            | (go_at_call 12; go_must (refine (lives10_any _).mono ?_); rintro e we ⟨rfl, te⟩; have HTe := Lib.hid (HL3.out.t.trans te (fun _ _ e => e)); clear te)
            | (go_at_call 14; have HM3 := HL2; go_must (refine (HD3.out _ _ _ _ _ _ (by exact HL2.out.ck)).mono ?_); rintro e w3 ⟨rfl, ck, t⟩; have HL3 := Lib.hid (HL2.out.get ck t); clear ck t q0 q1 q2; obtain ⟨q0, q1, q2⟩ := HL3.out.cells)
            | (go_at_call 14; have HM2 := HL1; go_must (refine (HD2.out _ _ _ _ _ _ (by exact HL1.out.ck)).mono ?_); rintro e w2 ⟨rfl, ck, t⟩; have HL2 := Lib.hid (HL1.out.get ck t); clear ck t q0 q1 q2; obtain ⟨q0, q1, q2⟩ := HL2.out.cells)
            | (go_at_call 14; have HM1 := HL0; go_must (refine (HD1.out _ _ _ _ _ _ (by exact HL0.out.ck)).mono ?_); rintro e w1 ⟨rfl, ck, t⟩; have HL1 := Lib.hid (HL0.out.get ck t); clear ck t q0 q1 q2; obtain ⟨q0, q1, q2⟩ := HL1.out.cells))
      go_ret
      exact ⟨rfl, (HA.out.trans HTe.out (fun _ _ e => e)).below⟩
    by_cases hb : d ≤ a4
    · clear HR5
      go_enter Try.func6, Try.ntmps6
      go_wp2_with (first
            | (go_at_call 10; go_must (refine (light10_any A B n m x.wk.length x.cl.length x.off _).mono ?_); rintro e wl ⟨rfl, tl⟩; rw [hd]; have HTl := Lib.hid tl; have HBl := Lib.hid (tl.blk HB.out (fun e => e)); have q0 := HBl.out.cell 0; have q1 := HBl.out.cell 1; have q2 := HBl.out.cell 2; simp at q0 q1 q2; clear tl)
            | (go_at_call 11; go_must (refine (HC.out _ (by exact HR.out.touch HTl.out (fun _ _ e => e))).mono ?_); rintro e wc ⟨rfl, tc⟩; have HTc := Lib.hid (HTl.out.trans tc (fun _ _ e => e)); have HBc := Lib.hid (tc.blk HBl.out (fun e => e)); clear q0 q1 q2; have q0 := HBc.out.cell 0; have q1 := HBc.out.cell 1; have q2 := HBc.out.cell 2; simp at q0 q1 q2; clear tc)
            | (go_at_call 13; go_must (refine (HN.out _ (by exact HR.out.touch HTc.out (fun _ _ e => e))).mono ?_); rintro e w0 ⟨k, a, p, b, rfl, ck, b1, b2, t1⟩; have HL0 := Lib.hid (LawC.start HTc.out HB.out HR.out ck b1 t1); clear ck t1 b1 b2 q0 q1 q2; obtain ⟨q0, q1, q2⟩ := HL0.out.cells)
            | (go_at_call 12; go_must (refine (lives10_any _).mono ?_); rintro e we ⟨rfl, te⟩; have HTe := Lib.hid (HL3.out.t.trans te (fun _ _ e => e)); clear te)
            | (go_at_call 14; have HM3 := HL2; go_must (refine (HD3.out _ _ _ _ _ _ (by exact HL2.out.ck)).mono ?_); rintro e w3 ⟨rfl, ck, t⟩; have HL3 := Lib.hid (HL2.out.get ck t); clear ck t q0 q1 q2; obtain ⟨q0, q1, q2⟩ := HL3.out.cells)
            | (go_at_call 14; have HM2 := HL1; go_must (refine (HD2.out _ _ _ _ _ _ (by exact HL1.out.ck)).mono ?_); rintro e w2 ⟨rfl, ck, t⟩; have HL2 := Lib.hid (HL1.out.get ck t); clear ck t q0 q1 q2; obtain ⟨q0, q1, q2⟩ := HL2.out.cells)
            | (go_at_call 14; have HM1 := HL0; go_must (refine (HD1.out _ _ _ _ _ _ (by exact HL0.out.ck)).mono ?_); rintro e w1 ⟨rfl, ck, t⟩; have HL1 := Lib.hid (HL0.out.get ck t); clear ck t q0 q1 q2; obtain ⟨q0, q1, q2⟩ := HL1.out.cells))
      go_ret
      exact ⟨rfl, (HA.out.trans HTe.out (fun _ _ e => e)).below⟩
    obtain ⟨u1, u2, u3, u4⟩ := HR5.out (by omega) (by omega)
    have HS := Lib.hid (fun k a p b G w1 hh => crest_any k a p b x G a1 (a2 + a3) a4 w1 hh (by omega))
    generalize x.rest a1 (a2 + a3) a4 = r4 at *
    obtain ⟨r4, s4⟩ := r4
    simp only at u1 u2 u3 u4
    subst u1
    have HD4 := Lib.hid (fun k a p b G w1 hh => cdue_any k a p b x G a4 r4 w1 hh (by omega))
    rw [u4] at HD4
    clear u4 HR5
    go_enter Try.func6, Try.ntmps6
    go_wp2_with (first
          | (go_at_call 10; go_must (refine (light10_any A B n m x.wk.length x.cl.length x.off _).mono ?_); rintro e wl ⟨rfl, tl⟩; rw [hd]; have HTl := Lib.hid tl; have HBl := Lib.hid (tl.blk HB.out (fun e => e)); have q0 := HBl.out.cell 0; have q1 := HBl.out.cell 1; have q2 := HBl.out.cell 2; simp at q0 q1 q2; clear tl)
          | (go_at_call 11; go_must (refine (HC.out _ (by exact HR.out.touch HTl.out (fun _ _ e => e))).mono ?_); rintro e wc ⟨rfl, tc⟩; have HTc := Lib.hid (HTl.out.trans tc (fun _ _ e => e)); have HBc := Lib.hid (tc.blk HBl.out (fun e => e)); clear q0 q1 q2; have q0 := HBc.out.cell 0; have q1 := HBc.out.cell 1; have q2 := HBc.out.cell 2; simp at q0 q1 q2; clear tc)
          | (go_at_call 13; go_must (refine (HN.out _ (by exact HR.out.touch HTc.out (fun _ _ e => e))).mono ?_); rintro e w0 ⟨k, a, p, b, rfl, ck, b1, b2, t1⟩; have HL0 := Lib.hid (LawC.start HTc.out HB.out HR.out ck b1 t1); clear ck t1 b1 b2 q0 q1 q2; obtain ⟨q0, q1, q2⟩ := HL0.out.cells)
          | (go_at_call 12; go_must (refine (lives10_any _).mono ?_); rintro e we ⟨rfl, te⟩; have HTe := Lib.hid (HL5.out.t.trans te (fun _ _ e => e)); clear te)
          | (go_at_call 14; have HM5 := HL4; go_must (refine (HD4.out _ _ _ _ _ _ (by exact HL4.out.ck)).mono ?_); rintro e w5 ⟨rfl, ck, t⟩; have HL5 := Lib.hid (HL4.out.get ck t); clear ck t q0 q1 q2; obtain ⟨q0, q1, q2⟩ := HL5.out.cells)
          | (go_at_call 23; have HM4 := HL3; go_must (refine (HS.out _ _ _ _ _ _ (by exact HL3.out.ck)).mono ?_); rintro e w4 ⟨rfl, ck, t⟩; have HL4 := Lib.hid (HL3.out.get ck t); clear ck t q0 q1 q2; obtain ⟨q0, q1, q2⟩ := HL4.out.cells)
          | (go_at_call 14; have HM3 := HL2; go_must (refine (HD3.out _ _ _ _ _ _ (by exact HL2.out.ck)).mono ?_); rintro e w3 ⟨rfl, ck, t⟩; have HL3 := Lib.hid (HL2.out.get ck t); clear ck t q0 q1 q2; obtain ⟨q0, q1, q2⟩ := HL3.out.cells)
          | (go_at_call 14; have HM2 := HL1; go_must (refine (HD2.out _ _ _ _ _ _ (by exact HL1.out.ck)).mono ?_); rintro e w2 ⟨rfl, ck, t⟩; have HL2 := Lib.hid (HL1.out.get ck t); clear ck t q0 q1 q2; obtain ⟨q0, q1, q2⟩ := HL2.out.cells)
          | (go_at_call 14; have HM1 := HL0; go_must (refine (HD1.out _ _ _ _ _ _ (by exact HL0.out.ck)).mono ?_); rintro e w1 ⟨rfl, ck, t⟩; have HL1 := Lib.hid (HL0.out.get ck t); clear ck t q0 q1 q2; obtain ⟨q0, q1, q2⟩ := HL1.out.cells))
    go_ret
    exact ⟨rfl, (HA.out.trans HTe.out (fun _ _ e => e)).below⟩
  · obtain rfl : d = d2 := (g4 (by omega)).symm
    have hz1 : 0 < a3 := by omega
    have hz2 : (a3 == 0) = false := by simp [hz]
    clear g4 g5 hz
    by_cases ha : a4 < a1
    · clear HR5
      go_enter Try.func6, Try.ntmps6
      go_wp2_with (first
            | (go_at_call 10; go_must (refine (light10_any A B n m x.wk.length x.cl.length x.off _).mono ?_); rintro e wl ⟨rfl, tl⟩; rw [hd]; have HTl := Lib.hid tl; have HBl := Lib.hid (tl.blk HB.out (fun e => e)); have q0 := HBl.out.cell 0; have q1 := HBl.out.cell 1; have q2 := HBl.out.cell 2; simp at q0 q1 q2; clear tl)
            | (go_at_call 11; go_must (refine (HC.out _ (by exact HR.out.touch HTl.out (fun _ _ e => e))).mono ?_); rintro e wc ⟨rfl, tc⟩; have HTc := Lib.hid (HTl.out.trans tc (fun _ _ e => e)); have HBc := Lib.hid (tc.blk HBl.out (fun e => e)); clear q0 q1 q2; have q0 := HBc.out.cell 0; have q1 := HBc.out.cell 1; have q2 := HBc.out.cell 2; simp at q0 q1 q2; clear tc)
            | (go_at_call 13; go_must (refine (HN.out _ (by exact HR.out.touch HTc.out (fun _ _ e => e))).mono ?_); rintro e w0 ⟨k, a, p, b, rfl, ck, b1, b2, t1⟩; have HL0 := Lib.hid (LawC.start HTc.out HB.out HR.out ck b1 t1); clear ck t1 b1 b2 q0 q1 q2; obtain ⟨q0, q1, q2⟩ := HL0.out.cells)
            | (go_at_call 12; go_must (refine (lives10_any _).mono ?_); rintro e we ⟨rfl, te⟩; have HTe := Lib.hid (HL3.out.t.trans te (fun _ _ e => e)); clear te)
            | (go_at_call 14; have HM3 := HL2; go_must (refine (HD3.out _ _ _ _ _ _ (by exact HL2.out.ck)).mono ?_); rintro e w3 ⟨rfl, ck, t⟩; have HL3 := Lib.hid (HL2.out.get ck t); clear ck t q0 q1 q2; obtain ⟨q0, q1, q2⟩ := HL3.out.cells)
            | (go_at_call 14; have HM2 := HL1; go_must (refine (HD2.out _ _ _ _ _ _ (by exact HL1.out.ck)).mono ?_); rintro e w2 ⟨rfl, ck, t⟩; have HL2 := Lib.hid (HL1.out.get ck t); clear ck t q0 q1 q2; obtain ⟨q0, q1, q2⟩ := HL2.out.cells)
            | (go_at_call 14; have HM1 := HL0; go_must (refine (HD1.out _ _ _ _ _ _ (by exact HL0.out.ck)).mono ?_); rintro e w1 ⟨rfl, ck, t⟩; have HL1 := Lib.hid (HL0.out.get ck t); clear ck t q0 q1 q2; obtain ⟨q0, q1, q2⟩ := HL1.out.cells))
      go_ret
      exact ⟨rfl, (HA.out.trans HTe.out (fun _ _ e => e)).below⟩
    by_cases hb : d ≤ a4
    · clear HR5
      go_enter Try.func6, Try.ntmps6
      go_wp2_with (first
            | (go_at_call 10; go_must (refine (light10_any A B n m x.wk.length x.cl.length x.off _).mono ?_); rintro e wl ⟨rfl, tl⟩; rw [hd]; have HTl := Lib.hid tl; have HBl := Lib.hid (tl.blk HB.out (fun e => e)); have q0 := HBl.out.cell 0; have q1 := HBl.out.cell 1; have q2 := HBl.out.cell 2; simp at q0 q1 q2; clear tl)
            | (go_at_call 11; go_must (refine (HC.out _ (by exact HR.out.touch HTl.out (fun _ _ e => e))).mono ?_); rintro e wc ⟨rfl, tc⟩; have HTc := Lib.hid (HTl.out.trans tc (fun _ _ e => e)); have HBc := Lib.hid (tc.blk HBl.out (fun e => e)); clear q0 q1 q2; have q0 := HBc.out.cell 0; have q1 := HBc.out.cell 1; have q2 := HBc.out.cell 2; simp at q0 q1 q2; clear tc)
            | (go_at_call 13; go_must (refine (HN.out _ (by exact HR.out.touch HTc.out (fun _ _ e => e))).mono ?_); rintro e w0 ⟨k, a, p, b, rfl, ck, b1, b2, t1⟩; have HL0 := Lib.hid (LawC.start HTc.out HB.out HR.out ck b1 t1); clear ck t1 b1 b2 q0 q1 q2; obtain ⟨q0, q1, q2⟩ := HL0.out.cells)
            | (go_at_call 12; go_must (refine (lives10_any _).mono ?_); rintro e we ⟨rfl, te⟩; have HTe := Lib.hid (HL3.out.t.trans te (fun _ _ e => e)); clear te)
            | (go_at_call 14; have HM3 := HL2; go_must (refine (HD3.out _ _ _ _ _ _ (by exact HL2.out.ck)).mono ?_); rintro e w3 ⟨rfl, ck, t⟩; have HL3 := Lib.hid (HL2.out.get ck t); clear ck t q0 q1 q2; obtain ⟨q0, q1, q2⟩ := HL3.out.cells)
            | (go_at_call 14; have HM2 := HL1; go_must (refine (HD2.out _ _ _ _ _ _ (by exact HL1.out.ck)).mono ?_); rintro e w2 ⟨rfl, ck, t⟩; have HL2 := Lib.hid (HL1.out.get ck t); clear ck t q0 q1 q2; obtain ⟨q0, q1, q2⟩ := HL2.out.cells)
            | (go_at_call 14; have HM1 := HL0; go_must (refine (HD1.out _ _ _ _ _ _ (by exact HL0.out.ck)).mono ?_); rintro e w1 ⟨rfl, ck, t⟩; have HL1 := Lib.hid (HL0.out.get ck t); clear ck t q0 q1 q2; obtain ⟨q0, q1, q2⟩ := HL1.out.cells))
      go_ret
      exact ⟨rfl, (HA.out.trans HTe.out (fun _ _ e => e)).below⟩
    obtain ⟨u1, u2, u3, u4⟩ := HR5.out (by omega) (by omega)
    have HS := Lib.hid (fun k a p b G w1 hh => crest_any k a p b x G a1 (a2 + a3) a4 w1 hh (by omega))
    generalize x.rest a1 (a2 + a3) a4 = r4 at *
    obtain ⟨r4, s4⟩ := r4
    simp only at u1 u2 u3 u4
    subst u1
    have HD4 := Lib.hid (fun k a p b G w1 hh => cdue_any k a p b x G a4 r4 w1 hh (by omega))
    rw [u4] at HD4
    clear u4 HR5
    go_enter Try.func6, Try.ntmps6
    go_wp2_with (first
          | (go_at_call 10; go_must (refine (light10_any A B n m x.wk.length x.cl.length x.off _).mono ?_); rintro e wl ⟨rfl, tl⟩; rw [hd]; have HTl := Lib.hid tl; have HBl := Lib.hid (tl.blk HB.out (fun e => e)); have q0 := HBl.out.cell 0; have q1 := HBl.out.cell 1; have q2 := HBl.out.cell 2; simp at q0 q1 q2; clear tl)
          | (go_at_call 11; go_must (refine (HC.out _ (by exact HR.out.touch HTl.out (fun _ _ e => e))).mono ?_); rintro e wc ⟨rfl, tc⟩; have HTc := Lib.hid (HTl.out.trans tc (fun _ _ e => e)); have HBc := Lib.hid (tc.blk HBl.out (fun e => e)); clear q0 q1 q2; have q0 := HBc.out.cell 0; have q1 := HBc.out.cell 1; have q2 := HBc.out.cell 2; simp at q0 q1 q2; clear tc)
          | (go_at_call 13; go_must (refine (HN.out _ (by exact HR.out.touch HTc.out (fun _ _ e => e))).mono ?_); rintro e w0 ⟨k, a, p, b, rfl, ck, b1, b2, t1⟩; have HL0 := Lib.hid (LawC.start HTc.out HB.out HR.out ck b1 t1); clear ck t1 b1 b2 q0 q1 q2; obtain ⟨q0, q1, q2⟩ := HL0.out.cells)
          | (go_at_call 12; go_must (refine (lives10_any _).mono ?_); rintro e we ⟨rfl, te⟩; have HTe := Lib.hid (HL5.out.t.trans te (fun _ _ e => e)); clear te)
          | (go_at_call 14; have HM5 := HL4; go_must (refine (HD4.out _ _ _ _ _ _ (by exact HL4.out.ck)).mono ?_); rintro e w5 ⟨rfl, ck, t⟩; have HL5 := Lib.hid (HL4.out.get ck t); clear ck t q0 q1 q2; obtain ⟨q0, q1, q2⟩ := HL5.out.cells)
          | (go_at_call 23; have HM4 := HL3; go_must (refine (HS.out _ _ _ _ _ _ (by exact HL3.out.ck)).mono ?_); rintro e w4 ⟨rfl, ck, t⟩; have HL4 := Lib.hid (HL3.out.get ck t); clear ck t q0 q1 q2; obtain ⟨q0, q1, q2⟩ := HL4.out.cells)
          | (go_at_call 14; have HM3 := HL2; go_must (refine (HD3.out _ _ _ _ _ _ (by exact HL2.out.ck)).mono ?_); rintro e w3 ⟨rfl, ck, t⟩; have HL3 := Lib.hid (HL2.out.get ck t); clear ck t q0 q1 q2; obtain ⟨q0, q1, q2⟩ := HL3.out.cells)
          | (go_at_call 14; have HM2 := HL1; go_must (refine (HD2.out _ _ _ _ _ _ (by exact HL1.out.ck)).mono ?_); rintro e w2 ⟨rfl, ck, t⟩; have HL2 := Lib.hid (HL1.out.get ck t); clear ck t q0 q1 q2; obtain ⟨q0, q1, q2⟩ := HL2.out.cells)
          | (go_at_call 14; have HM1 := HL0; go_must (refine (HD1.out _ _ _ _ _ _ (by exact HL0.out.ck)).mono ?_); rintro e w1 ⟨rfl, ck, t⟩; have HL1 := Lib.hid (HL0.out.get ck t); clear ck t q0 q1 q2; obtain ⟨q0, q1, q2⟩ := HL1.out.cells))
    go_ret
    exact ⟨rfl, (HA.out.trans HTe.out (fun _ _ e => e)).below⟩
end Go.Proofs.Ytkgbhopmapjjoaa
