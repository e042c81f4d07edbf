/- Whether a reply is sound, the reference's: the comparison with no ticket. -/
import Derived.Test.YtmgmjehebbggaaaRepC
namespace Go.Proofs.Ytmgmjehebbggaaa
open Go.RowKit
set_option maxHeartbeats 4000000
set_option maxRecDepth 100000
set_option linter.unusedVariables false

theorem eq_tk (id : Nat) (con st lev : Int) (gen : Nat) (fr le du to_ : Int) (w : World) :
    (binOp .eql 32 (.agg #[.int .u64 id, .int .i64 con, .int .i64 st, .int .i64 lev, .int .u64 gen, .int .i64 fr, .int .i64 le, .int .i64 du, .int .i64 to_]) (.agg #[.int .u64 0, .int .i64 0, .int .i64 0, .int .i64 0, .int .u64 0, .int .i64 0, .int .i64 0, .int .i64 0, .int .i64 0])).run Try.prog w =
      .ok (.bool (tkNone ⟨id, con, st, lev, gen, fr, le, du, to_⟩)) w := by
  simp [go_sem]
  simp only [tkNone]
  repeat' split
  all_goals simp_all
theorem rsoundR_any (code time : Int) (t : TkV) (A : Option Addr) (n c : Nat) (notice : Nat) (dead : Int) (w : World) (h : t.ok) :
    Calls Try.prog 46 #[.agg #[.int .i64 code, .int .i64 time, .int .u64 t.id, .int .i64 t.contract, .int .i64 t.state, .int .i64 t.level, .int .u64 t.gen, .int .i64 t.from_, .int .i64 t.left, .int .i64 t.due, .int .i64 t.told, .slice A n c, .int .u64 notice, .int .i64 dead]] w fun e w' => e = .returned (.bool (rpSound code time t n dead)) ∧ Touch (fun _ => False) w w' := by
  have HT := Lib.hid (fun w1 => rtk_any t w1 h)
  obtain ⟨b, hb⟩ : ∃ b, b = rpSound code time t n dead := ⟨_, rfl⟩
  rw [← hb]
  have HB := Lib.hid (hb.trans (show _ = (decide (0 ≤ code ∧ code ≤ 99 ∧ 0 ≤ time ∧ time ≤ 1125899906842624 ∧ n ≤ 64 ∧ 0 ≤ dead ∧ dead ≤ 128) && (tkNone t || tkSound t)) from rfl))
  clear hb h
  obtain ⟨id, con, st, lev, gen, fr, le, du, to_⟩ := t
  have hbin := fun w => eq_tk id con st lev gen fr le du to_ w
  generalize tkNone ⟨id, con, st, lev, gen, fr, le, du, to_⟩ = no at *
  generalize tkSound ⟨id, con, st, lev, gen, fr, le, du, to_⟩ = so at *
  simp only at HT ⊢
  have HBk := Lib.hid (Blk.new w 35 #[.int .i64 code, .int .i64 time, .int .u64 id, .int .i64 con, .int .i64 st, .int .i64 lev, .int .u64 gen, .int .i64 fr, .int .i64 le, .int .i64 du, .int .i64 to_, .slice A n c, .int .u64 notice, .int .i64 dead])
  have HT0 := Lib.hid ((Touch.refl (fun _ => False) w).alloc (.cells #[.int .i64 code, .int .i64 time, .int .u64 id, .int .i64 con, .int .i64 st, .int .i64 lev, .int .u64 gen, .int .i64 fr, .int .i64 le, .int .i64 du, .int .i64 to_, .slice A n c, .int .u64 notice, .int .i64 dead] 35))
  by_cases hh : 0 ≤ code ∧ code ≤ 99 ∧ 0 ≤ time ∧ time ≤ 1125899906842624 ∧ n ≤ 64 ∧ 0 ≤ dead ∧ dead ≤ 128
  · rw [decide_eq_true hh, Bool.true_and] at HB
    obtain ⟨g1, g2, g3, g4, g5, g6, g7⟩ := hh
    have g5' : (n : Int) ≤ 64 := by omega
    cases no <;> cases so
    all_goals (
      go_enter Try.func46, Try.ntmps46
      go_wp2_with (
        go_at_call 65
        go_must (refine (HT.out _).mono ?_)
        rintro e w2 ⟨rfl, t2⟩
        have HT2 := Lib.hid t2
        have hbx := t2.blk HBk.out (fun e => e)
        have q11 := hbx.cell 11; have q13 := hbx.cell 13
        simp at q11 q13
        clear t2 hbx)
      all_goals (
        go_ret
        exact ⟨ret_bool (by rw [HB.out]; all_goals first | (simp; done) | (simp; omega) | omega), by first | exact HT0.out.trans HT2.out (fun _ _ e => e) | exact HT0.out⟩))
  · rw [decide_eq_false hh, Bool.false_and] at HB
    cases no <;> cases so
    all_goals (
      go_enter Try.func46, Try.ntmps46
      go_wp2_with (
        go_at_call 65
        go_must (refine (HT.out _).mono ?_)
        rintro e w2 ⟨rfl, t2⟩
        have HT2 := Lib.hid t2
        have hbx := t2.blk HBk.out (fun e => e)
        have q11 := hbx.cell 11; have q13 := hbx.cell 13
        simp at q11 q13
        clear t2 hbx)
      all_goals (
        go_ret
        exact ⟨ret_bool (by rw [HB.out]; all_goals first | (simp; done) | (simp; omega) | omega | (exfalso; omega)), by first | exact HT0.out.trans HT2.out (fun _ _ e => e) | exact HT0.out⟩))
end Go.Proofs.Ytmgmjehebbggaaa
