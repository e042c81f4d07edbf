/- The reference of chapter 10: Check, Open, Same. -/
import Derived.Test.YtcblbjhhlnmkjaaCalF
namespace Go.Proofs.Ytcblbjhhlnmkjaa
open Go.RowKit Cal
set_option maxHeartbeats 4000000
set_option maxRecDepth 100000
set_option linter.unusedVariables false
attribute [local irreducible] wpPlan

def checkE (c : Ca) : Int := if c.off < 0 ∨ 604800 ≤ c.off then 2 else if weekE c.wk ≠ 0 then weekE c.wk else rowE c.cl
theorem check_ok {c : Ca} (h : checkE c = 0) : c.Ok := by
  unfold checkE at h
  split at h
  · omega
  · split at h
    · rename_i h1; exact absurd h h1
    · rename_i h0 h1
      have h1 : weekE c.wk = 0 := by simpa using h1
      exact ⟨by omega, (weekE_week h1).1, (rowE_row h).1, (rowE_row h).2⟩
theorem Cal.Ca.Ok.rowc {c : Ca} (h : c.Ok) : rowE c.cl = 0 := by unfold rowE; rw [if_neg (by have := h.cn; omega), rows_of c.cl 0 (by omega) h.cl]
theorem fcheck_any (F : Nat → Prop) (A B : Option Addr) (k m : Nat) (c : Ca) (w : World) (hr : CaR w F c A B) (h1 : c.wk.length ≤ 1000000) (h2 : c.cl.length ≤ 1000000) :
    Calls Try.prog 24 #[.agg #[.int .i64 c.off, .slice A c.wk.length k, .slice B c.cl.length m]] w fun e w' => e = .returned (.int .i64 (checkE c)) ∧ Touch (fun _ => False) w w' := by
  have HT := Lib.hid ((Touch.refl (fun _ => False) w).alloc (.cells #[.int .i64 c.off, .slice A c.wk.length k, .slice B c.cl.length m] 25))
  have HB0 := Lib.hid (Blk.new w 25 #[.int .i64 c.off, .slice A c.wk.length k, .slice B c.cl.length m])
  have HW := Lib.hid (fun w1 hr => fwrong_any F A k c.wk w1 hr h1)
  have HC := Lib.hid (fun w1 hr => frow_any F B m c.cl w1 hr h2)
  have HR := Lib.hid hr
  have HV := Lib.hid (show checkE c = if c.off < 0 ∨ 604800 ≤ c.off then 2 else if weekE c.wk ≠ 0 then weekE c.wk else rowE c.cl from rfl)
  generalize checkE c = v at *
  clear hr
  obtain ⟨off, wk, cl⟩ := c
  simp only at *
  generalize weekE wk = x at *
  generalize rowE cl = y at *
  by_cases ho : off < 0
  · rw [if_pos (.inl ho)] at HV
    go_enter Try.func24, Try.ntmps24
    go_wp2
    go_ret
    exact ⟨ret_int HV.out.symm, HT.out⟩
  by_cases ho2 : 604800 ≤ off
  · rw [if_pos (.inr ho2)] at HV
    go_enter Try.func24, Try.ntmps24
    go_wp2
    go_ret
    exact ⟨ret_int HV.out.symm, HT.out⟩
  rw [if_neg (by omega)] at HV
  by_cases hx : x = 0
  · subst hx
    rw [if_neg (by simp)] at HV
    go_enter Try.func24, Try.ntmps24
    go_wp2_with (first
      | (go_at_call 83; go_must (refine (HW.out _ (by exact HR.out.wk.touch HT.out (fun _ _ e => e))).mono ?_); rintro e w0 ⟨rfl, t0⟩; have HB1 := Lib.hid (t0.blk HB0.out (fun e => e)); have q0 := HB1.out.cell 0; have q1 := HB1.out.cell 1; have q2 := HB1.out.cell 2; simp at q0 q1 q2; have HT0 := Lib.hid (HT.out.trans t0 (fun _ _ e => e)); clear t0)
      | (go_at_call 84; go_must (refine (HC.out _ (by exact HR.out.cl.touch HT0.out (fun _ _ e => e))).mono ?_); rintro e w1 ⟨rfl, t1⟩; have HT1 := Lib.hid (HT0.out.trans t1 (fun _ _ e => e)); clear t1))
    go_ret
    exact ⟨ret_int HV.out.symm, HT1.out⟩
  · rw [if_pos hx] at HV
    have hx' : (x != 0) = true := by simpa using hx
    clear hx
    go_enter Try.func24, Try.ntmps24
    go_wp2_with (go_at_call 83; go_must (refine (HW.out _ (by exact HR.out.wk.touch HT.out (fun _ _ e => e))).mono ?_); rintro e w0 ⟨rfl, t0⟩; have HT0 := Lib.hid (HT.out.trans t0 (fun _ _ e => e)); clear t0)
    go_ret
    exact ⟨ret_int HV.out.symm, HT0.out⟩
/-- Is an instant open? -/
def openV (c : Ca) (t : Int) : Bool := decide (0 ≤ t) && decide (t < 1125899906842624) && c.op t
/-- Are two calendars the same? -/
def sameC (c d : Ca) : Bool := decide (c.off = d.off) && sameL c.wk d.wk && sameL c.cl d.cl
theorem sameC_self (c : Ca) : sameC c c = true := by simp [sameC, sameL_self]
theorem fcsame_any (F F' : Nat → Prop) (A B A' B' : Option Addr) (k m k' m' : Nat) (c d : Ca) (w : World) (hr : CaR w F c A B) (hr' : CaR w F' d A' B') (h1 : c.wk.length ≤ 1000000) (h2 : c.cl.length ≤ 1000000) :
    Calls Try.prog 70 #[.agg #[.int .i64 c.off, .slice A c.wk.length k, .slice B c.cl.length m], .agg #[.int .i64 d.off, .slice A' d.wk.length k', .slice B' d.cl.length m']] w fun e w' => e = .returned (.bool (sameC c d)) ∧ Touch (fun _ => False) w w' := by
  have HT := Lib.hid (((Touch.refl (fun _ => False) w).alloc (.cells #[.int .i64 c.off, .slice A c.wk.length k, .slice B c.cl.length m] 25)).alloc (.cells #[.int .i64 d.off, .slice A' d.wk.length k', .slice B' d.cl.length m'] 25))
  have HB0 := Lib.hid ((Blk.new w 25 #[.int .i64 c.off, .slice A c.wk.length k, .slice B c.cl.length m]).alloc (.cells #[.int .i64 d.off, .slice A' d.wk.length k', .slice B' d.cl.length m'] 25))
  have HB0' := Lib.hid (show Blk _ (w.heap.size + 1) _ _ by simpa using Blk.new (w.alloc (.cells #[.int .i64 c.off, .slice A c.wk.length k, .slice B c.cl.length m] 25)) 25 #[.int .i64 d.off, .slice A' d.wk.length k', .slice B' d.cl.length m'])
  have HR := Lib.hid hr
  have HR' := Lib.hid hr'
  have HW := Lib.hid (fun w1 hr hr' => fsame_any F F' A A' k k' c.wk d.wk w1 hr hr' h1)
  have HC := Lib.hid (fun w1 hr hr' => fsame_any F F' B B' m m' c.cl d.cl w1 hr hr' h2)
  have HV := Lib.hid (show sameC c d = (decide (c.off = d.off) && sameL c.wk d.wk && sameL c.cl d.cl) from rfl)
  generalize sameC c d = v at *
  clear hr hr'
  obtain ⟨off, wk, cl⟩ := c
  obtain ⟨off', wk', cl'⟩ := d
  simp only at *
  generalize sameL wk wk' = x at *
  generalize sameL cl cl' = y at *
  by_cases ho : off = off'
  · subst ho
    rw [decide_eq_true rfl, Bool.true_and] at HV
    cases x
    · go_enter Try.func70, Try.ntmps70
      go_wp2_with (go_at_call 105; go_must (refine (HW.out _ (by exact HR.out.wk.touch HT.out (fun _ _ e => e)) (by exact HR'.out.wk.touch HT.out (fun _ _ e => e))).mono ?_); rintro e w0 ⟨rfl, t0⟩; have HT0 := Lib.hid (HT.out.trans t0 (fun _ _ e => e)); clear t0)
      go_ret
      exact ⟨ret_bool (by rw [HV.out]; rfl), HT0.out⟩
    · go_enter Try.func70, Try.ntmps70
      go_wp2_with (first
        | (go_at_call 105; have M9 := M1; go_must (refine (HC.out _ (by exact HR.out.cl.touch HT0.out (fun _ _ e => e)) (by exact HR'.out.cl.touch HT0.out (fun _ _ e => e))).mono ?_); rintro e w1 ⟨rfl, t1⟩; have HT1 := Lib.hid (HT0.out.trans t1 (fun _ _ e => e)); clear t1)
        | (go_at_call 105; go_must (refine (HW.out _ (by exact HR.out.wk.touch HT.out (fun _ _ e => e)) (by exact HR'.out.wk.touch HT.out (fun _ _ e => e))).mono ?_); rintro e w0 ⟨rfl, t0⟩; have HT0 := Lib.hid (HT.out.trans t0 (fun _ _ e => e)); have q2 := (t0.blk HB0.out (fun e => e)).cell 2; have r2 := (t0.blk HB0'.out (fun e => e)).cell 2; simp at q2 r2; have M1 := Lib.hid trivial; clear t0))
      go_ret
      exact ⟨ret_bool (by rw [HV.out]; rfl), HT1.out⟩
  · have ho' : (off == off') = false := by simpa using ho
    rw [decide_eq_false ho, Bool.false_and, Bool.false_and] at HV
    go_enter Try.func70, Try.ntmps70
    go_wp2
    go_ret
    exact ⟨ret_bool HV.out.symm, HT.out⟩
end Go.Proofs.Ytcblbjhhlnmkjaa
