/- The reference of chapter 10: Elapsed, Due, Rest. -/
import Derived.Test.YtcblbjhhlnmkjaaCalE
namespace Go.Proofs.Ytcblbjhhlnmkjaa
open Go.RowKit Cal
set_option maxHeartbeats 4000000
set_option maxRecDepth 100000
set_option linter.unusedVariables false
attribute [local irreducible] wpPlan

theorem instB_true {t : Int} (h : instB t = true) : 0 ≤ t ∧ t ≤ 1125899906842624 := by simpa [instB] using h
theorem instB_false {t : Int} (h : instB t = false) : t < 0 ∨ 1125899906842624 < t := by simp [instB] at h; omega
theorem instB_of {t : Int} (h : 0 ≤ t) (h' : t ≤ 1125899906842624) : instB t = true := by simp [instB]; omega
theorem el_bad1 (c : Ca) {a b : Int} (h : instB a = false) : c.el a b = (0, 2) := by
  have := instB_false h
  unfold Ca.el; rw [if_pos (by omega)]
theorem el_bad2 (c : Ca) {a b : Int} (h : instB b = false) : c.el a b = (0, 2) := by
  have := instB_false h
  unfold Ca.el; rw [if_pos (by omega)]
theorem el_bad3 (c : Ca) {a b : Int} (h : b < a) : c.el a b = (0, 2) := by unfold Ca.el; rw [if_pos (by omega)]
theorem el_ok (c : Ca) {a b : Int} (h : instB a = true) (h' : instB b = true) (hab : ¬ b < a) : c.el a b = (cnt c.op a b, 0) := by
  have := instB_true h
  have := instB_true h'
  unfold Ca.el; rw [if_neg (by omega)]
theorem el_err (c : Ca) (a b : Int) : (c.el a b).2 = 0 ∨ (c.el a b).2 = 2 := by unfold Ca.el; split <;> simp
theorem el_bd (c : Ca) (a b : Int) : 0 ≤ (c.el a b).1 ∧ (c.el a b).1 ≤ 1125899906842624 := by
  unfold Ca.el; split
  · simp
  · have := cnt_pos (p := c.op) (a := a) (b := b) (by omega)
    simp only; omega
def El2 (r : Int × Int) (w : World) (e : Ending) (w' : World) : Prop := e = .returned (.tuple #[.int .i64 r.1, .int .i64 r.2]) ∧ Touch (fun _ => False) w w'
theorem El2.of {R r : Int × Int} {x y : Int} {w w' : World} (h1 : Hid (R = r)) (h2 : x = r.1) (h3 : y = r.2) (h4 : Touch (fun _ => False) w w') : El2 R w (.returned (.tuple #[.int .i64 x, .int .i64 y])) w' := by
  rw [h1.out]; exact ⟨by rw [h2, h3], h4⟩
theorem felapsed_any (F : Nat → Prop) (A B : Option Addr) (k m : Nat) (c : Ca) (a b : Int) (w : World) (hr : CaR w F c A B) (hc : c.Ok) :
    Calls Try.prog 119 #[.agg #[.int .i64 c.off, .slice A c.wk.length k, .slice B c.cl.length m], .int .i64 a, .int .i64 b] w (El2 (c.el a b) w) := by
  have HT := Lib.hid ((Touch.refl (fun _ => False) w).alloc (.cells #[.int .i64 c.off, .slice A c.wk.length k, .slice B c.cl.length m] 25))
  cases ia : instB a
  · have HV := Lib.hid (el_bad1 c (b := b) ia)
    go_enter Try.func119, Try.ntmps119
    go_wp2_with (go_at_call 128; go_must (refine (finstant_any _ _).mono ?_); rintro e w1 ⟨rfl, rfl⟩)
    go_ret2
    exact El2.of HV rfl rfl HT.out
  cases ib : instB b
  · have HV := Lib.hid (el_bad2 c (a := a) ib)
    go_enter Try.func119, Try.ntmps119
    go_wp2_with (go_at_call 128; go_must (refine (finstant_any _ _).mono ?_); rintro e w1 ⟨rfl, rfl⟩)
    go_ret2
    exact El2.of HV rfl rfl HT.out
  by_cases hab : b < a
  · have HV := Lib.hid (el_bad3 c hab)
    go_enter Try.func119, Try.ntmps119
    go_wp2_with (go_at_call 128; go_must (refine (finstant_any _ _).mono ?_); rintro e w1 ⟨rfl, rfl⟩)
    go_ret2
    exact El2.of HV rfl rfl HT.out
  · have HV := Lib.hid (el_ok c ia ib hab)
    have HC := Lib.hid (fun w1 hr => fcount_any F A B k m c a b w1 hr hc (instB_true ia).1 (by omega) (instB_true ib).2)
    have HR := Lib.hid hr
    clear hr hc
    obtain ⟨off, wk, cl⟩ := c
    simp only at *
    go_enter Try.func119, Try.ntmps119
    go_wp2_with (first
      | (go_at_call 128; go_must (refine (finstant_any _ _).mono ?_); rintro e w1 ⟨rfl, rfl⟩)
      | (go_at_call 129; go_must (refine (HC.out _ (by exact HR.out.touch HT.out (fun _ _ e => e))).mono ?_); rintro e w0 ⟨rfl, t0⟩; have HT0 := Lib.hid (HT.out.trans t0 (fun _ _ e => e)); clear t0))
    go_ret2
    exact El2.of HV rfl rfl HT0.out

theorem rest_neg (c : Ca) {a b x : Int} (h : b < 0) : c.rest a b x = (0, 2) := by unfold Ca.rest; rw [if_pos h]
theorem rest_bad (c : Ca) {a b x : Int} (h : ¬ b < 0) (h' : (c.el a x).2 ≠ 0) : c.rest a b x = (0, (c.el a x).2) := by unfold Ca.rest; rw [if_neg h, if_pos h']
theorem rest_ok (c : Ca) {a b x : Int} (h : ¬ b < 0) (h' : (c.el a x).2 = 0) : c.rest a b x = (max (b - (c.el a x).1) 0, 0) := by unfold Ca.rest; rw [if_neg h, if_neg (by simp [h'])]
theorem frest_any (F : Nat → Prop) (A B : Option Addr) (k m : Nat) (c : Ca) (a b x : Int) (w : World) (hr : CaR w F c A B) (hc : c.Ok) (hb : b ≤ 9223372036854775807) :
    Calls Try.prog 91 #[.agg #[.int .i64 c.off, .slice A c.wk.length k, .slice B c.cl.length m], .int .i64 a, .int .i64 b, .int .i64 x] w (El2 (c.rest a b x) w) := by
  have HT := Lib.hid ((Touch.refl (fun _ => False) w).alloc (.cells #[.int .i64 c.off, .slice A c.wk.length k, .slice B c.cl.length m] 25))
  have HE := Lib.hid (fun w1 hr => felapsed_any F A B k m c a x w1 hr hc)
  have HR := Lib.hid hr
  have hbd := el_bd c a x
  by_cases h1 : b < 0
  · have HV := Lib.hid (rest_neg c (a := a) (x := x) h1)
    go_enter Try.func91, Try.ntmps91
    go_wp2
    go_ret2
    exact El2.of HV rfl rfl HT.out
  · have HV1 := Lib.hid (fun h' => rest_bad c (a := a) (x := x) h1 h')
    have HV2 := Lib.hid (fun h' => rest_ok c (a := a) (x := x) h1 h')
    have he := el_err c a x
    generalize hel : c.el a x = r at *
    obtain ⟨v, e⟩ := r
    clear hel hr hc
    obtain ⟨off, wk, cl⟩ := c
    simp only at *
    rcases he with rfl | rfl
    · have HV := Lib.hid (HV2.out rfl)
      clear HV1 HV2
      by_cases h2 : b < v
      · have HW := Lib.hid (show max (b - v) 0 = 0 by omega)
        go_enter Try.func91, Try.ntmps91
        go_wp2_with (go_at_call 119; go_must (refine (HE.out _ (by exact HR.out.touch HT.out (fun _ _ e => e))).mono ?_); rintro e w0 ⟨rfl, t0⟩; have HT0 := Lib.hid (HT.out.trans t0 (fun _ _ e => e)); clear t0)
        go_ret2
        exact El2.of HV HW.out.symm rfl HT0.out
      · have HW := Lib.hid (show max (b - v) 0 = b - v by omega)
        go_enter Try.func91, Try.ntmps91
        go_wp2_with (go_at_call 119; go_must (refine (HE.out _ (by exact HR.out.touch HT.out (fun _ _ e => e))).mono ?_); rintro e w0 ⟨rfl, t0⟩; have HT0 := Lib.hid (HT.out.trans t0 (fun _ _ e => e)); clear t0)
        go_ret2
        exact El2.of HV HW.out.symm rfl HT0.out
    · have HV := Lib.hid (HV1.out (by omega))
      clear HV1 HV2
      go_enter Try.func91, Try.ntmps91
      go_wp2_with (go_at_call 119; go_must (refine (HE.out _ (by exact HR.out.touch HT.out (fun _ _ e => e))).mono ?_); rintro e w0 ⟨rfl, t0⟩; have HT0 := Lib.hid (HT.out.trans t0 (fun _ _ e => e)); clear t0)
      go_ret2
      exact El2.of HV rfl rfl HT0.out

theorem due_bad (c : Ca) {a b : Int} (h : instB a = false) : c.due a b = (0, 2) := by
  have := instB_false h
  unfold Ca.due; rw [if_pos (by omega)]
theorem due_neg (c : Ca) {a b : Int} (h : b < 0) : c.due a b = (0, 2) := by unfold Ca.due; rw [if_pos (by omega)]
theorem due_zero (c : Ca) {a : Int} (h : instB a = true) : c.due a 0 = (a, 0) := by
  have := instB_true h
  unfold Ca.due; rw [if_neg (by omega), if_pos rfl]
theorem due_closed (c : Ca) {a b : Int} (h : instB a = true) (hb : 0 < b) (hl : len c.wk = 0) : c.due a b = (0, 40) := by
  have := instB_true h
  unfold Ca.due; rw [if_neg (by omega), if_neg (by omega), if_pos hl]
theorem due_big (c : Ca) {a b : Int} (h : instB a = true) (hb : 0 < b) (hl : len c.wk ≠ 0) (hn : cnt c.op a 1125899906842624 < b) : c.due a b = (0, 10) := by
  have := instB_true h
  unfold Ca.due; rw [if_neg (by omega), if_neg (by omega), if_neg hl, if_pos hn]
theorem due_of (c : Ca) {a b d : Int} (h : instB a = true) (hl : len c.wk ≠ 0) (hd : IsDue c.op a b d) (hd' : d ≤ 1125899906842624) : c.due a b = (d, 0) := by
  have := instB_true h
  have := hd.pos
  unfold Ca.due; rw [if_neg (by omega), if_neg (by omega), if_neg hl, if_neg (by have := hd.le hd'; omega), dueOf_eq hd]
theorem fdue_any (F : Nat → Prop) (A B : Option Addr) (k m : Nat) (c : Ca) (a b : Int) (w : World) (hr : CaR w F c A B) (hc : c.Ok) (hb : b ≤ 9223372036854775807) :
    Calls Try.prog 121 #[.agg #[.int .i64 c.off, .slice A c.wk.length k, .slice B c.cl.length m], .int .i64 a, .int .i64 b] w (El2 (c.due a b) w) := by
  have HT := Lib.hid ((Touch.refl (fun _ => False) w).alloc (.cells #[.int .i64 c.off, .slice A c.wk.length k, .slice B c.cl.length m] 25))
  have HB0 := Lib.hid (Blk.new w 25 #[.int .i64 c.off, .slice A c.wk.length k, .slice B c.cl.length m])
  cases ia : instB a
  · have HV := Lib.hid (due_bad c (b := b) ia)
    go_enter Try.func121, Try.ntmps121
    go_wp2_with (go_at_call 128; go_must (refine (finstant_any _ _).mono ?_); rintro e w1 ⟨rfl, rfl⟩)
    go_ret2
    exact El2.of HV rfl rfl HT.out
  by_cases hb0 : b < 0
  · have HV := Lib.hid (due_neg c (a := a) hb0)
    go_enter Try.func121, Try.ntmps121
    go_wp2_with (go_at_call 128; go_must (refine (finstant_any _ _).mono ?_); rintro e w1 ⟨rfl, rfl⟩)
    go_ret2
    exact El2.of HV rfl rfl HT.out
  by_cases hbz : b = 0
  · subst hbz
    have HV := Lib.hid (due_zero c ia)
    clear hb0 hb
    go_enter Try.func121, Try.ntmps121
    go_wp2_with (go_at_call 128; go_must (refine (finstant_any _ _).mono ?_); rintro e w1 ⟨rfl, rfl⟩)
    go_ret2
    exact El2.of HV rfl rfl HT.out
  have hbp : 0 < b := by omega
  have hbe : (b == 0) = false := by simp; omega
  have HR := Lib.hid hr
  have HL := Lib.hid (fun w1 hr => flen_any F A k c.wk w1 hr hc.wk.row)
  by_cases hl : len c.wk = 0
  · have HV := Lib.hid (due_closed c ia hbp hl)
    rw [hl] at HL
    clear hr hc hbz hl
    obtain ⟨off, wk, cl⟩ := c
    simp only at *
    go_enter Try.func121, Try.ntmps121
    go_wp2_with (first
      | (go_at_call 128; go_must (refine (finstant_any _ _).mono ?_); rintro e w1 ⟨rfl, rfl⟩)
      | (go_at_call 134; go_must (refine (HL.out _ (by exact HR.out.wk.touch HT.out (fun _ _ e => e))).mono ?_); rintro e w0 ⟨rfl, t0⟩; have HT0 := Lib.hid (HT.out.trans t0 (fun _ _ e => e)); clear t0))
    go_ret2
    exact El2.of HV rfl rfl HT0.out
  have hle : (len c.wk == 0) = false := by simpa using hl
  have HC0 := Lib.hid (fun w1 hr => fcount_any F A B k m c a 1125899906842624 w1 hr hc (instB_true ia).1 (instB_true ia).2 (by omega))
  by_cases hn : cnt c.op a 1125899906842624 < b
  · have HV := Lib.hid (due_big c ia hbp hl hn)
    generalize len c.wk = y at *
    generalize cnt c.op a 1125899906842624 = v at *
    clear hr hc hbz hl
    obtain ⟨off, wk, cl⟩ := c
    simp only at *
    go_enter Try.func121, Try.ntmps121
    go_wp2_with (first
      | (go_at_call 128; go_must (refine (finstant_any _ _).mono ?_); rintro e w1 ⟨rfl, rfl⟩)
      | (go_at_call 134; go_must (refine (HL.out _ (by exact HR.out.wk.touch HT.out (fun _ _ e => e))).mono ?_); rintro e w0 ⟨rfl, t0⟩; have HB1 := Lib.hid (t0.blk HB0.out (fun e => e)); have q0 := HB1.out.cell 0; have q1 := HB1.out.cell 1; have q2 := HB1.out.cell 2; simp at q0 q1 q2; have HT0 := Lib.hid (HT.out.trans t0 (fun _ _ e => e)); clear t0)
      | (go_at_call 129; go_must (refine (HC0.out _ (by exact HR.out.touch HT0.out (fun _ _ e => e))).mono ?_); rintro e w2 ⟨rfl, t2⟩; have HT2 := Lib.hid (HT0.out.trans t2 (fun _ _ e => e)); clear t2))
    go_ret2
    exact El2.of HV rfl rfl HT2.out
  · have HDue := Lib.hid (fun d hd hd' => due_of c (b := b) (d := d) ia hl hd hd')
    have HC := Lib.hid (fun x (hx : a ≤ x ∧ x ≤ 1125899906842624) w1 hr => fcount_any F A B k m c a x w1 hr hc (instB_true ia).1 hx.1 hx.2)
    have haH := instB_true ia
    have hlt : a < 1125899906842624 := by
      rcases Int.lt_or_le a 1125899906842624 with h | h
      · exact h
      · rw [show a = 1125899906842624 by omega, cnt_self] at hn; omega
    have hs0 : cnt c.op a a < b := by rw [cnt_self]; omega
    have HS0 := Lib.hid (And.intro hs0 hn)
    have hnd : ¬ cnt c.op a 1125899906842624 < b := hn
    generalize hop : c.op = p at *
    generalize hv : cnt p a 1125899906842624 = v at *
    generalize len c.wk = y at *
    rw [← hv] at HS0
    clear hr hc hbz hl hs0 hn hop hv
    obtain ⟨off, wk, cl⟩ := c
    simp only at *
    go_enter Try.func121, Try.ntmps121
    go_wp2_with (first
      | (go_at_call 128; go_must (refine (finstant_any _ _).mono ?_); rintro e w1 ⟨rfl, rfl⟩)
      | (go_at_call 134; go_must (refine (HL.out _ (by exact HR.out.wk.touch HT.out (fun _ _ e => e))).mono ?_); rintro e w0 ⟨rfl, t0⟩; have HB1 := Lib.hid (t0.blk HB0.out (fun e => e)); have q0 := HB1.out.cell 0; have q1 := HB1.out.cell 1; have q2 := HB1.out.cell 2; simp at q0 q1 q2; have HT0 := Lib.hid (HT.out.trans t0 (fun _ _ e => e)); clear t0)
      | (go_at_call 129; go_must (refine (HC0.out _ (by exact HR.out.touch HT0.out (fun _ _ e => e))).mono ?_); rintro e w2 ⟨rfl, t2⟩; have HB2 := Lib.hid (t2.blk HB1.out (fun e => e)); have HT2 := Lib.hid (HT0.out.trans t2 (fun _ _ e => e)); clear t2 q0 q1 q2))
    clear HB0 HB1 HT HT0 HL HC0
    go_loopw [8, 9] (fun lo hi wr => ∃ x y : Int, a ≤ x ∧ x < y ∧ y ≤ 1125899906842624 ∧ lo = .int .i64 x ∧ hi = .int .i64 y ∧ cnt p a x < b ∧ ¬ cnt p a y < b ∧ Touch (fun _ => False) w2 wr) (fun lo hi _ => (intOf hi - intOf lo).toNat)
    case atStart => exact ⟨_, _, by omega, hlt, by omega, rfl, rfl, HS0.out.1, by have := HS0.out.2; omega, Touch.refl _ _⟩
    case round =>
      clear HS0
      obtain ⟨x, z, hx1, hx2, hx3, rfl, rfl, hx4, hx5, hT⟩ := hrel
      have HT := Lib.hid hT
      have HX4 := Lib.hid hx4
      have HX5 := Lib.hid hx5
      have hbb := HT.out.blk HB2.out (fun e => e)
      have q0 := hbb.cell 0; have q1 := hbb.cell 1; have q2 := hbb.cell 2
      simp at q0 q1 q2
      clear hT hx4 hx5 hbb
      by_cases hz : 1 < z - x
      · have hm : x + (z - x) / 2 ≤ 1125899906842624 ∧ x < x + (z - x) / 2 ∧ x + (z - x) / 2 < z := by omega
        have HCm := Lib.hid (HC.out (x + (z - x) / 2) (by omega))
        by_cases hcm : cnt p a (x + (z - x) / 2) < b
        · have HN := Lib.hid hcm
          generalize cnt p a (x + (z - x) / 2) = cv at HCm hcm
          go_wp2_with (go_at_call 129; go_must (refine (HCm.out _ (by exact HR.out.touch (HT2.out.trans HT.out (fun _ _ e => e)) (fun _ _ e => e))).mono ?_); rintro e w3 ⟨rfl, t3⟩; have HT3 := Lib.hid (HT.out.trans t3 (fun _ _ e => e)); clear t3)
          go_roundw
          case rel => exact ⟨_, _, by omega, hm.2.2, by omega, rfl, rfl, HN.out, by have := HX5.out; omega, HT3.out⟩
          case measure => simp [intOf]; omega
        · have HN := Lib.hid hcm
          generalize cnt p a (x + (z - x) / 2) = cv at HCm hcm
          go_wp2_with (go_at_call 129; go_must (refine (HCm.out _ (by exact HR.out.touch (HT2.out.trans HT.out (fun _ _ e => e)) (fun _ _ e => e))).mono ?_); rintro e w3 ⟨rfl, t3⟩; have HT3 := Lib.hid (HT.out.trans t3 (fun _ _ e => e)); clear t3)
          go_roundw
          case rel => exact ⟨_, _, hx1, hm.2.1, by omega, rfl, rfl, HX4.out, by have := HN.out; omega, HT3.out⟩
          case measure => simp [intOf]; omega
      · have HV := Lib.hid (HDue.out z (IsDue.of_least (by omega) (by rw [show z - 1 = x by omega]; exact HX4.out) (by have := HX5.out; omega)) hx3)
        clear HDue
        go_wp2
        go_ret2
        exact El2.of HV rfl rfl (HT2.out.trans HT.out (fun _ _ e => e))
end Go.Proofs.Ytcblbjhhlnmkjaa
