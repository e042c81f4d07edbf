/- Package calendar: Check, none, instant, weekly, Open. almanac.Lost at a clock's weekly; calendar.Elapsed, Rest. -/
import Derived.Test.YtcblbjhhlnmkjaaVCalV
import Derived.Test.YtcblbjhhlnmkjaaCalF
section
namespace Go.Proofs.Ytcblbjhhlnmkjaa
open Go.RowKit Cal
set_option maxHeartbeats 4000000
set_option maxRecDepth 100000
set_option linter.unusedVariables false
attribute [local irreducible] wpPlan

theorem ccheck_any (F : Nat → Prop) (A B : Option Addr) (k m : Nat) (c : Ca) (w : World) (hr : CaR w F c A B) (h1 : c.wk.length ≤ 1000000) (h2 : c.cl.length ≤ 1000000) :
    Calls Try.prog 78 #[.agg #[.int .i64 c.off, .slice A c.wk.length k, .slice B c.cl.length m]] w fun e w' => e = .returned (.int .i64 (checkE c)) ∧ Touch (fun _ => False) w w' := by
  have HT := Lib.hid ((Touch.refl (fun _ => False) w).alloc (.cells #[.int .i64 c.off, .slice A c.wk.length k, .slice B c.cl.length m] 25))
  have HR := Lib.hid hr
  by_cases hc : checkE c = 0
  · have HN := Lib.hid (fun w1 hr => cnew_yes F A B k m c w1 hr (check_ok hc))
    rw [hc]
    clear hr hc
    obtain ⟨off, wk, cl⟩ := c
    simp only at *
    go_enter Try.func78, Try.ntmps78
    go_wp2_with (go_at_call 26; go_must (refine (HN.out _ (by exact HR.out.touch HT.out (fun _ _ e => e))).mono ?_); rintro e w0 ⟨k0, a0, p0, b0, rfl, -, -, -, t0⟩; have HT0 := Lib.hid (HT.out.trans t0 (fun _ _ e => e)); clear t0)
    go_ret
    exact ⟨rfl, HT0.out⟩
  · have HN := Lib.hid (fun w1 hr => cnew_bad F A B k m c w1 hr h1 h2 hc)
    generalize checkE c = v at *
    clear hr hc
    obtain ⟨off, wk, cl⟩ := c
    simp only at *
    go_enter Try.func78, Try.ntmps78
    go_wp2_with (go_at_call 26; go_must (refine (HN.out _ (by exact HR.out.touch HT.out (fun _ _ e => e))).mono ?_); rintro e w0 ⟨rfl, t0⟩; have HT0 := Lib.hid (HT.out.trans t0 (fun _ _ e => e)); clear t0)
    go_ret
    exact ⟨rfl, HT0.out⟩
theorem cnone_any (k a p b : Nat) (c : Ca) (G : Nat → Prop) (w : World) (h : CkAt w k a p b c G) :
    Calls Try.prog 117 #[.pointer (some ⟨k, 0, none⟩)] w fun e w' => e = .returned (.bool false) ∧ w = w' := by
  have q := h.blk.cell 1
  simp at q
  clear h
  go_enter Try.func117, Try.ntmps117
  go_wp2
  go_ret
  exact ⟨rfl, rfl⟩
theorem cinstant_any (t : Int) (w : World) : Calls Try.prog 125 #[.int .i64 t] w fun e w' => e = .returned (.bool (instB t)) ∧ w = w' := by
  go_enter Try.func125, Try.ntmps125
  go_wp2
  all_goals go_ret
  all_goals exact ⟨ret_bool (by unfold instB; simp <;> omega), rfl⟩
def CkV (k a p b : Nat) (c : Ca) (G : Nat → Prop) (v : Value) (w : World) (e : Ending) (w' : World) : Prop :=
  e = .returned v ∧ CkAt w' k a p b c (More G w w') ∧ Touch (fun q => q = b) w w'
theorem cweekly_any (k a p b : Nat) (c : Ca) (G : Nat → Prop) (x y : Int) (w : World) (h : CkAt w k a p b c G) (h0 : 0 ≤ x) (h1 : x ≤ 1125899906842624) (h2 : 0 ≤ y) (h3 : y ≤ 1125899906842624) :
    Calls Try.prog 126 #[.pointer (some ⟨k, 0, none⟩), .int .i64 x, .int .i64 y] w (CkV k a p b c G (.int .i64 (c.weekly x y)) w) := by
  have q0 := h.blk.cell 0; have q1 := h.blk.cell 1; have q2 := h.blk.cell 2
  simp at q0 q1 q2
  have hoff := h.ok.off
  have HH := Lib.hid h
  have HB := Lib.hid (fun w1 G (hh : PnAt w1 p c.wk b G) => between_any p c.wk b G (x + (604800 - c.off)) (y + (604800 - c.off)) w1 hh (by omega) (by omega) (by omega) (by omega))
  have HV := Lib.hid (show c.weekly x y = max (U c.wk (y + (604800 - c.off)) - U c.wk (x + (604800 - c.off))) 0 from rfl)
  generalize c.weekly x y = v at *
  have hs : 0 ≤ 604800 - c.off ∧ 604800 - c.off ≤ 604800 := by omega
  generalize 604800 - c.off = s at *
  clear h hoff
  have hw1 : IntKind.i64.wrap (x + s) = x + s := IntWalk.i64_in _ (by omega)
  have hw2 : IntKind.i64.wrap (y + s) = y + s := IntWalk.i64_in _ (by omega)
  go_enter Try.func126, Try.ntmps126
  go_wp2_with fail
  refine wp_region_plan [(0, 0), (0, 1), (0, 2), (0, 3), (0, 4), (0, 5), (0, 6), (0, 7), (0, 8), (0, 9), (0, 10), (0, 11), (0, 12), (0, 13), (0, 14), (0, 15), (2, 16), (0, 17)] (fun q => q = b) (by kernel_rfl) (by kernel_rfl) (fun c a d v w h => by cases d <;> exact h) ?_
  iterate 16
    refine plan_s1 rfl (by rfl) (fun Kc hKc => ?_)
    go_simp
    first
      | (refine hKc _ ?_)
    clear hKc Kc
  refine plan_a1 rfl (by rfl) (fun Kc hKc => ?_)
  go_simp
  refine (HB.out _ _ (by exact HH.out.pn.drew)).mono ?_
  rintro e w1 ⟨rfl, p1, t1⟩
  refine hKc _ _ ⟨t1, ?_⟩
  clear hKc Kc
  have HP1 := Lib.hid p1
  have HT1 := Lib.hid t1
  clear p1 t1
  iterate 1
    refine plan_s1 rfl (by rfl) (fun Kc hKc => ?_)
    go_simp
    first
      | (refine hKc _ ?_)
    clear hKc Kc
  refine plan_done ?_
  clear hw1 hw2
  go_wp2
  go_ret
  have ht := (Touch.refl (fun q => q = b) w).drew.trans HT1.out (fun _ _ e => e)
  exact ⟨ret_int HV.out.symm, HH.out.get ht HP1.out, ht⟩
end Go.Proofs.Ytcblbjhhlnmkjaa
end

section
namespace Go.Proofs.Ytcblbjhhlnmkjaa
open Go.RowKit Cal
set_option maxHeartbeats 4000000
set_option maxRecDepth 100000
set_option linter.unusedVariables false
attribute [local irreducible] wpPlan

theorem lost_any (k a p b : Nat) (c : Ca) (G : Nat → Prop) (x y : Int) (w : World) (h : CkAt w k a p b c G) :
    Calls Try.prog 127 #[.pointer (some ⟨a, 0, none⟩), .int .i64 x, .int .i64 y, .func (.func 126) #[.pointer (some ⟨k, 0, none⟩)] #[]] w (CkV k a p b c G (.int .i64 (c.lost (cutL c.cl x y))) w) := by
  obtain ⟨B, m, hal⟩ := h.al
  have HA := Lib.hid (all_any a c.cl B m G w hal)
  have HCut := Lib.hid (cut_any G B m c.cl x y w hal.row h.ok.rowc)
  have HW := Lib.hid (fun (s : Sp) (hs : 0 ≤ s.f ∧ s.f < s.t ∧ s.t ≤ 1125899906842624) w1 G (hh : CkAt w1 k a p b c G) => cweekly_any k a p b c G s.f s.t w1 hh hs.1 (by omega) (by omega) hs.2.2)
  have hLl : (cutL c.cl x y).length ≤ 32 := Nat.le_trans (cutL_len _ _ _) h.ok.cn
  have HBd := Lib.hid (cutL_bd c.cl x y (row_bd h.ok.rowc))
  have HPre := Lib.hid (fun j => lost_pre h.ok (cutL c.cl x y) (cutL_bd c.cl x y (row_bd h.ok.rowc)) j (by omega))
  have HTk := Lib.hid (lost_take c (cutL c.cl x y))
  have HWb := Lib.hid (fun (s : Sp) (hs : 0 ≤ s.f ∧ s.f < s.t ∧ s.t ≤ 1125899906842624) => h.ok.weekly_bd (a := s.f) (b := s.t) hs.1 (by omega))
  have hfn : ∀ (fn : Fn) (first cap : Array Value) (w : World), (binOp .eql 211 (.func fn first cap) .nilFunc).run Try.prog w = .ok (.bool false) w := fun _ _ _ _ => rfl
  have hbl := h.bl
  have HGb := Lib.hid h.nb
  have HH := Lib.hid h
  generalize cutL c.cl x y = L at *
  clear h hal
  go_enter Try.func127, Try.ntmps127
  go_wp2_with (first
    | (go_at_call 137; go_must (refine HA.out.mono ?_); rintro e w0 ⟨rfl, rfl⟩)
    | (go_at_call 136; go_must (refine HCut.out.mono ?_); rintro e w1 ⟨A0, c0, rfl, -, -, -, hs, t1⟩; have HS := Lib.hid hs; have HT1 := Lib.hid t1; clear t1 hs))
  clear HA HCut
  have HH1 := Lib.hid (HH.out.more HT1.out (fun e => e) (fun _ _ e => e))
  have hs1 := HT1.out.size
  go_loopw [8, 19] (fun n i wr => ∃ j : Nat, j ≤ L.length ∧ i = .int .i64 j ∧ n = .int .i64 (c.lost (L.take j)) ∧ CkAt wr k a p b c (More G w wr) ∧ Touch (fun q => q = b) w1 wr) (fun _ i _ => L.length - (intOf i).toNat)
  case atStart => exact ⟨0, by omega, rfl, rfl, HH1.out, Touch.refl _ _⟩
  case round =>
    obtain ⟨j, hj, rfl, rfl, hC, hT⟩ := hrel
    have HC := Lib.hid hC
    have HT := Lib.hid hT
    clear hC hT
    have hp := HPre.out j
    by_cases hjk : j < L.length
    · have hs : L[j]? = some (L[j]'hjk) := List.getElem?_eq_getElem _
      have hbs := HBd.out _ (List.getElem_mem hjk)
      obtain ⟨g, o, rfl, hg, -, hc0, hc1⟩ := (HS.out.touch HT.out (fun q hq e => by omega)).at_ hs
      have HN := Lib.hid (HTk.out j _ hs)
      have hwk := HWb.out _ hbs
      have HWs := Lib.hid (HW.out _ hbs)
      generalize c.lost (L.take j) = n at *
      generalize L[j]'hjk = s at *
      obtain ⟨f, t⟩ := s
      simp only at hc0 hc1 hbs HWs hwk HN
      generalize c.weekly f t = u at *
      clear hs
      have HTb := Lib.hid ((Touch.refl (fun _ => False) wr).alloc (.cells #[.int .i64 f, .int .i64 t] 165))
      go_wp2_with (go_at_call 126; go_must (refine (HWs.out _ _ (by exact HC.out.more HTb.out (fun e => e) (fun _ _ e => e))).mono ?_); rintro e w2 ⟨rfl, h2, t2⟩; have HQ := Lib.hid (And.intro h2 t2); clear h2 t2)
      go_roundw
      case rel =>
        obtain ⟨h2, t2⟩ := HQ.out
        have ht := HT.out.size
        have sb := HTb.out.size
        have s2 := t2.size
        have hCb := HC.out.nb
        have hCl := HC.out.bl
        refine ⟨j + 1, by omega, by go_num, by rw [HN.out], ?_, (HT.out.trans (S' := fun q => q = b) (HTb.out.mono (fun _ _ e => e.elim)) (fun _ _ e => e)).trans t2 (fun _ _ e => e)⟩
        exact (h2.more2 sb s2 hCb hCl).more2 (by omega) (by omega) HGb.out hbl
      case measure => simp [intOf]; omega
    · obtain rfl : j = L.length := by omega
      rw [List.take_length] at *
      go_wp2
      go_ret
      exact ⟨rfl, HC.out, (HT1.out.mono (fun _ _ e => e.elim)).trans HT.out (fun _ _ e => e)⟩
end Go.Proofs.Ytcblbjhhlnmkjaa
end
