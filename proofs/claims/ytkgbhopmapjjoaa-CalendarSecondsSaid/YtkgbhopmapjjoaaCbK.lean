/- law10.CalendarSeconds walked (written by genlaw10.py) -/
import Derived.Test.YtkgbhopmapjjoaaCbG
namespace Go.Proofs.Ytkgbhopmapjjoaa
open Go.RowKit Cal
set_option maxHeartbeats 4000000
set_option maxRecDepth 100000
set_option linter.unusedVariables false

theorem walk_CalendarSeconds {w : World} (x : Ca) (A B : Option Addr) (n m : Nat) (hr : CaR w (fun q => q < w.heap.size) x A B) (hx : -9223372036854775808 ≤ x.off ∧ x.off ≤ 9223372036854775807) (a1 : Int) (ha1 : -9223372036854775808 ≤ a1 ∧ a1 ≤ 9223372036854775807) (a2 : Int) (ha2 : 0 ≤ a2 ∧ a2 ≤ 255) :
    Calls Try.prog 7 #[.agg #[.int .i64 x.off, .slice A x.wk.length n, .slice B x.cl.length m], .int .i64 a1, .int .u8 a2] w fun e w' => e = .returned (.bool true) ∧ Below w.heap.size w w' := by
  have HA := Lib.hid ((Touch.refl (fun _ => False) w).alloc (.cells #[.int .i64 x.off, .slice A x.wk.length n, .slice B x.cl.length m] 24))
  have HB := Lib.hid (Blk.new w 24 #[.int .i64 x.off, .slice A x.wk.length n, .slice B x.cl.length m])
  have HR := Lib.hid (show CaR (w.alloc (.cells #[.int .i64 x.off, .slice A x.wk.length n, .slice B x.cl.length m] 24)) (fun q => q < (w.alloc (.cells #[.int .i64 x.off, .slice A x.wk.length n, .slice B x.cl.length m] 24)).heap.size) x A B from ⟨(hr.touch HA.out (fun _ _ e => e)).wk.mono (fun q hq => by simp; omega), (hr.touch HA.out (fun _ _ e => e)).cl.mono (fun q hq => by simp; omega)⟩)
  by_cases hlt : (decide (x.wk.length ≤ 60) && decide (x.cl.length ≤ 60)) = true
  rotate_left
  · have hd : (decide (x.wk.length ≤ 60) && decide (x.cl.length ≤ 60)) = false := by simpa using hlt
    clear hlt
    go_enter Try.func7, Try.ntmps7
    go_wp2_with (first
          | (go_at_call 10; go_must (refine (light10_any A B n m x.wk.length x.cl.length x.off _).mono ?_); rintro e wl ⟨rfl, tl⟩; rw [hd]; have HTl := Lib.hid tl; have HBl := Lib.hid (tl.blk HB.out (fun e => e)); have q0 := HBl.out.cell 0; have q1 := HBl.out.cell 1; have q2 := HBl.out.cell 2; simp at q0 q1 q2; clear tl)
          | (go_at_call 12; go_must (refine (lives10_any _).mono ?_); rintro e we ⟨rfl, te⟩; have HTe := Lib.hid (HTl.out.trans te (fun _ _ e => e)); clear te))
    go_ret
    exact ⟨rfl, (HA.out.trans HTe.out (fun _ _ e => e)).below⟩
  have hd := hlt
  have hlen : x.wk.length ≤ 60 ∧ x.cl.length ≤ 60 := by simpa using hlt
  clear hlt
  have HC := Lib.hid (fun w1 hr => fcheck_any (fun q => q < (w.alloc (.cells #[.int .i64 x.off, .slice A x.wk.length n, .slice B x.cl.length m] 24)).heap.size) A B n m x w1 hr (by omega) (by omega))
  by_cases hce : checkE x = 0
  rotate_left
  · have hne : (checkE x != 0) = true := by simpa using hce
    generalize checkE x = v at *
    clear hlen
    go_enter Try.func7, Try.ntmps7
    go_wp2_with (first
          | (go_at_call 10; go_must (refine (light10_any A B n m x.wk.length x.cl.length x.off _).mono ?_); rintro e wl ⟨rfl, tl⟩; rw [hd]; have HTl := Lib.hid tl; have HBl := Lib.hid (tl.blk HB.out (fun e => e)); have q0 := HBl.out.cell 0; have q1 := HBl.out.cell 1; have q2 := HBl.out.cell 2; simp at q0 q1 q2; clear tl)
          | (go_at_call 11; go_must (refine (HC.out _ (by exact HR.out.touch HTl.out (fun _ _ e => e))).mono ?_); rintro e wc ⟨rfl, tc⟩; have HTc := Lib.hid (HTl.out.trans tc (fun _ _ e => e)); have HBc := Lib.hid (tc.blk HBl.out (fun e => e)); clear q0 q1 q2; have q0 := HBc.out.cell 0; have q1 := HBc.out.cell 1; have q2 := HBc.out.cell 2; simp at q0 q1 q2; clear tc)
          | (go_at_call 12; go_must (refine (lives10_any _).mono ?_); rintro e we ⟨rfl, te⟩; have HTe := Lib.hid (HTc.out.trans te (fun _ _ e => e)); clear te))
    go_ret
    exact ⟨rfl, (HA.out.trans HTe.out (fun _ _ e => e)).below⟩
  have hok := check_ok hce
  have HN := Lib.hid (fun w1 hr => cnew_yes (fun q => q < (w.alloc (.cells #[.int .i64 x.off, .slice A x.wk.length n, .slice B x.cl.length m] 24)).heap.size) A B n m x w1 hr hok)
  rw [hce] at HC
  clear hlen hce hr
  by_cases hb0 : a1 < 0
  · clear hok HN
    go_enter Try.func7, Try.ntmps7
    go_wp2_with (first
          | (go_at_call 10; go_must (refine (light10_any A B n m x.wk.length x.cl.length x.off _).mono ?_); rintro e wl ⟨rfl, tl⟩; rw [hd]; have HTl := Lib.hid tl; have HBl := Lib.hid (tl.blk HB.out (fun e => e)); have q0 := HBl.out.cell 0; have q1 := HBl.out.cell 1; have q2 := HBl.out.cell 2; simp at q0 q1 q2; clear tl)
          | (go_at_call 11; go_must (refine (HC.out _ (by exact HR.out.touch HTl.out (fun _ _ e => e))).mono ?_); rintro e wc ⟨rfl, tc⟩; have HTc := Lib.hid (HTl.out.trans tc (fun _ _ e => e)); have HBc := Lib.hid (tc.blk HBl.out (fun e => e)); clear q0 q1 q2; have q0 := HBc.out.cell 0; have q1 := HBc.out.cell 1; have q2 := HBc.out.cell 2; simp at q0 q1 q2; clear tc)
          | (go_at_call 12; go_must (refine (lives10_any _).mono ?_); rintro e we ⟨rfl, te⟩; have HTe := Lib.hid (HTc.out.trans te (fun _ _ e => e)); clear te))
    go_ret
    exact ⟨rfl, (HA.out.trans HTe.out (fun _ _ e => e)).below⟩
  by_cases hb1 : 1125899906842368 < a1
  · clear hok HN
    go_enter Try.func7, Try.ntmps7
    go_wp2_with (first
          | (go_at_call 10; go_must (refine (light10_any A B n m x.wk.length x.cl.length x.off _).mono ?_); rintro e wl ⟨rfl, tl⟩; rw [hd]; have HTl := Lib.hid tl; have HBl := Lib.hid (tl.blk HB.out (fun e => e)); have q0 := HBl.out.cell 0; have q1 := HBl.out.cell 1; have q2 := HBl.out.cell 2; simp at q0 q1 q2; clear tl)
          | (go_at_call 11; go_must (refine (HC.out _ (by exact HR.out.touch HTl.out (fun _ _ e => e))).mono ?_); rintro e wc ⟨rfl, tc⟩; have HTc := Lib.hid (HTl.out.trans tc (fun _ _ e => e)); have HBc := Lib.hid (tc.blk HBl.out (fun e => e)); clear q0 q1 q2; have q0 := HBc.out.cell 0; have q1 := HBc.out.cell 1; have q2 := HBc.out.cell 2; simp at q0 q1 q2; clear tc)
          | (go_at_call 12; go_must (refine (lives10_any _).mono ?_); rintro e we ⟨rfl, te⟩; have HTe := Lib.hid (HTc.out.trans te (fun _ _ e => e)); clear te))
    go_ret
    exact ⟨rfl, (HA.out.trans HTe.out (fun _ _ e => e)).below⟩
  go_enter Try.func7, Try.ntmps7
  go_wp2_with (first
        | (go_at_call 10; go_must (refine (light10_any A B n m x.wk.length x.cl.length x.off _).mono ?_); rintro e wl ⟨rfl, tl⟩; rw [hd]; have HTl := Lib.hid tl; have HBl := Lib.hid (tl.blk HB.out (fun e => e)); have q0 := HBl.out.cell 0; have q1 := HBl.out.cell 1; have q2 := HBl.out.cell 2; simp at q0 q1 q2; clear tl)
        | (go_at_call 11; go_must (refine (HC.out _ (by exact HR.out.touch HTl.out (fun _ _ e => e))).mono ?_); rintro e wc ⟨rfl, tc⟩; have HTc := Lib.hid (HTl.out.trans tc (fun _ _ e => e)); have HBc := Lib.hid (tc.blk HBl.out (fun e => e)); clear q0 q1 q2; have q0 := HBc.out.cell 0; have q1 := HBc.out.cell 1; have q2 := HBc.out.cell 2; simp at q0 q1 q2; clear tc)
        | (go_at_call 13; go_must (refine (HN.out _ (by exact HR.out.touch HTc.out (fun _ _ e => e))).mono ?_); rintro e w0 ⟨k, a, p, b, rfl, ck, b1, b2, t1⟩; have HL0 := Lib.hid (LawC.start HTc.out HB.out HR.out ck b1 t1); clear ck t1 b1 b2 q0 q1 q2; obtain ⟨q0, q1, q2⟩ := HL0.out.cells))
  clear HN HC HR hd q0 q1 q2
  go_loopw [9, 39] (fun v i wr => ∃ j : Nat, (j : Int) ≤ a2 ∧ i = .int .i64 j ∧ v = .int .i64 (cnt x.op a1 (a1 + j)) ∧ ∃ G, LawC (w.alloc (.cells #[.int .i64 x.off, .slice A x.wk.length n, .slice B x.cl.length m] 24)) wr w.heap.size k a p b x A B n m G) (fun _ i _ => a2.toNat - (intOf i).toNat)
  case atStart => exact ⟨0, by omega, rfl, by rw [show a1 + ((0 : Nat) : Int) = a1 by omega, cnt_self], _, HL0.out⟩
  case round =>
    obtain ⟨j, hj, rfl, rfl, G1, hL⟩ := hrel
    clear HL0
    have HL0 := Lib.hid hL
    clear hL
    obtain ⟨q0, q1, q2⟩ := HL0.out.cells
    have hcb := cnt_pos (p := x.op) (a := a1) (b := a1 + j) (by omega)
    by_cases hjk : (j : Int) < a2
    · have HST := Lib.hid (op_step (c := x) (a := a1) (x := a1 + j) (by omega) (by omega) (by omega))
      have HO := Lib.hid (fun k a p b G w1 hh => copen_any k a p b x G (a1 + j) w1 hh)
      generalize cnt x.op a1 (a1 + j) = u at *
      cases ho : openV x (a1 + j)
      · rw [ho] at HO HST
        clear ho
        go_wp2_with (go_at_call 16; have HM1 := HL0; go_must (refine (HO.out _ _ _ _ _ _ (by exact HL0.out.ck)).mono ?_); rintro e w1 ⟨rfl, t⟩; have HL1 := Lib.hid (HL0.out.none t); clear t q0 q1 q2; obtain ⟨q0, q1, q2⟩ := HL1.out.cells)
        go_roundw
        case rel => exact ⟨j + 1, by omega, by go_num, by rw [show a1 + ((j + 1 : Nat) : Int) = a1 + j + 1 by omega, HST.out]; simp, _, HL1.out⟩
        case measure => simp [intOf]; omega
      · rw [ho] at HO HST
        clear ho
        go_wp2_with (go_at_call 16; have HM1 := HL0; go_must (refine (HO.out _ _ _ _ _ _ (by exact HL0.out.ck)).mono ?_); rintro e w1 ⟨rfl, t⟩; have HL1 := Lib.hid (HL0.out.none t); clear t q0 q1 q2; obtain ⟨q0, q1, q2⟩ := HL1.out.cells)
        go_roundw
        case rel => exact ⟨j + 1, by omega, by go_num, by rw [show a1 + ((j + 1 : Nat) : Int) = a1 + j + 1 by omega, HST.out]; simp, _, HL1.out⟩
        case measure => simp [intOf]; omega
    · obtain rfl : a2 = (j : Int) := by omega
      have HE := Lib.hid (fun k a p b G w1 hh => elapsed_any k a p b x G a1 (a1 + j) w1 hh)
      rw [el_ok x (instB_of (by omega) (by omega)) (instB_of (by omega) (by omega)) (by omega)] at HE
      generalize cnt x.op a1 (a1 + j) = u at *
      go_wp2_with (first
          | (go_at_call 12; go_must (refine (lives10_any _).mono ?_); rintro e we ⟨rfl, te⟩; have HTe := Lib.hid (HL1.out.t.trans te (fun _ _ e => e)); clear te)
          | (go_at_call 20; have HM1 := HL0; go_must (refine (HE.out _ _ _ _ _ _ (by exact HL0.out.ck)).mono ?_); rintro e w1 ⟨rfl, ck, t⟩; have HL1 := Lib.hid (HL0.out.get ck t); clear ck t q0 q1 q2; obtain ⟨q0, q1, q2⟩ := HL1.out.cells))
      go_ret
      exact ⟨rfl, (HA.out.trans HTe.out (fun _ _ e => e)).below⟩
end Go.Proofs.Ytkgbhopmapjjoaa
