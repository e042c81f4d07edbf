/- Whether a reply has a ticket; whether it is sound. -/
import Derived.Test.YtmgmjehebbggaaaRepB
namespace Go.Proofs.Ytmgmjehebbggaaa
open Go.RowKit
set_option maxHeartbeats 4000000
set_option maxRecDepth 100000
set_option linter.unusedVariables false

def tkNone (t : TkV) : Bool := decide (t.id = 0 ∧ t.contract = 0 ∧ t.state = 0 ∧ t.level = 0 ∧ t.gen = 0 ∧ t.from_ = 0 ∧ t.left = 0 ∧ t.due = 0 ∧ t.told = 0)
theorem none_any (t : TkV) (w : World) :
    Calls Try.prog 44 #[.agg #[.int .u64 t.id, .int .i64 t.contract, .int .i64 t.state, .int .i64 t.level, .int .u64 t.gen, .int .i64 t.from_, .int .i64 t.left, .int .i64 t.due, .int .i64 t.told]] w fun e w' => e = .returned (.bool (tkNone t)) ∧ Touch (fun _ => False) w w' := by
  obtain ⟨id, con, st, lev, gen, fr, le, du, to_⟩ := t
  obtain ⟨b, hb⟩ : ∃ b, b = tkNone ⟨id, con, st, lev, gen, fr, le, du, to_⟩ := ⟨_, rfl⟩
  rw [← hb]
  have HB := Lib.hid (hb.trans (show _ = decide (id = 0 ∧ con = 0 ∧ st = 0 ∧ lev = 0 ∧ gen = 0 ∧ fr = 0 ∧ le = 0 ∧ du = 0 ∧ to_ = 0) from rfl))
  clear hb
  simp only
  go_enter Try.func44, Try.ntmps44
  go_wp2
  all_goals (
    go_ret
    refine ⟨ret_bool ?_, (Touch.refl _ w).alloc _⟩
    rw [HB.out]
    all_goals first | (simp; done) | (simp; omega) | omega)

def rpSound (code time : Int) (t : TkV) (n : Nat) (dead : Int) : Bool := decide (0 ≤ code ∧ code ≤ 99 ∧ 0 ≤ time ∧ time ≤ 1125899906842624 ∧ n ≤ 64 ∧ 0 ≤ dead ∧ dead ≤ 128) && (tkNone t || tkSound t)
theorem psound_any (code time : Int) (t : TkV) (A : Option Addr) (n c : Nat) (notice : Nat) (dead : Int) (w : World) (h : t.ok) :
    Calls Try.prog 28 #[.agg #[.int .i64 code, .int .i64 time, .int .u64 t.id, .int .i64 t.contract, .int .i64 t.state, .int .i64 t.level, .int .u64 t.gen, .int .i64 t.from_, .int .i64 t.left, .int .i64 t.due, .int .i64 t.told, .slice A n c, .int .u64 notice, .int .i64 dead]] w fun e w' => e = .returned (.bool (rpSound code time t n dead)) ∧ Touch (fun _ => False) w w' := by
  have HN := Lib.hid (fun w1 => none_any t w1)
  have HT := Lib.hid (fun w1 => ttk_any t w1 h)
  obtain ⟨b, hb⟩ : ∃ b, b = rpSound code time t n dead := ⟨_, rfl⟩
  rw [← hb]
  have HB := Lib.hid (hb.trans (show _ = (decide (0 ≤ code ∧ code ≤ 99 ∧ 0 ≤ time ∧ time ≤ 1125899906842624 ∧ n ≤ 64 ∧ 0 ≤ dead ∧ dead ≤ 128) && (tkNone t || tkSound t)) from rfl))
  clear hb h
  generalize tkNone t = no at *
  generalize tkSound t = so at *
  obtain ⟨id, con, st, lev, gen, fr, le, du, to_⟩ := t
  simp only at HN HT ⊢
  have HBk := Lib.hid (Blk.new w 35 #[.int .i64 code, .int .i64 time, .int .u64 id, .int .i64 con, .int .i64 st, .int .i64 lev, .int .u64 gen, .int .i64 fr, .int .i64 le, .int .i64 du, .int .i64 to_, .slice A n c, .int .u64 notice, .int .i64 dead])
  have HT0 := Lib.hid ((Touch.refl (fun _ => False) w).alloc (.cells #[.int .i64 code, .int .i64 time, .int .u64 id, .int .i64 con, .int .i64 st, .int .i64 lev, .int .u64 gen, .int .i64 fr, .int .i64 le, .int .i64 du, .int .i64 to_, .slice A n c, .int .u64 notice, .int .i64 dead] 35))
  by_cases hh : 0 ≤ code ∧ code ≤ 99 ∧ 0 ≤ time ∧ time ≤ 1125899906842624 ∧ n ≤ 64 ∧ 0 ≤ dead ∧ dead ≤ 128
  · rw [decide_eq_true hh, Bool.true_and] at HB
    obtain ⟨g1, g2, g3, g4, g5, g6, g7⟩ := hh
    have g5' : (n : Int) ≤ 64 := by omega
    cases no
    · go_enter Try.func28, Try.ntmps28
      go_wp2_with (first
        | (go_at_call 44; go_must (refine (HN.out _).mono ?_); rintro e w1 ⟨rfl, t1⟩
           have HT1 := Lib.hid t1
           have hbx := t1.blk HBk.out (fun e => e)
           have q2 := hbx.cell 2; have q3 := hbx.cell 3; have q4 := hbx.cell 4; have q5 := hbx.cell 5; have q6 := hbx.cell 6; have q7 := hbx.cell 7; have q8 := hbx.cell 8; have q9 := hbx.cell 9; have q10 := hbx.cell 10
           simp at q2 q3 q4 q5 q6 q7 q8 q9 q10
           clear t1 hbx)
        | (go_at_call 45; go_must (refine (HT.out _).mono ?_); rintro e w2 ⟨rfl, t2⟩; have HT2 := Lib.hid t2; clear t2))
      go_ret
      exact ⟨ret_bool (by rw [HB.out]; simp), (HT0.out.trans HT1.out (fun _ _ e => e)).trans HT2.out (fun _ _ e => e)⟩
    · go_enter Try.func28, Try.ntmps28
      go_wp2_with (first
        | (go_at_call 44; go_must (refine (HN.out _).mono ?_); rintro e w1 ⟨rfl, t1⟩
           have HT1 := Lib.hid t1
           have hbx := t1.blk HBk.out (fun e => e)
           have q2 := hbx.cell 2; have q3 := hbx.cell 3; have q4 := hbx.cell 4; have q5 := hbx.cell 5; have q6 := hbx.cell 6; have q7 := hbx.cell 7; have q8 := hbx.cell 8; have q9 := hbx.cell 9; have q10 := hbx.cell 10
           simp at q2 q3 q4 q5 q6 q7 q8 q9 q10
           clear t1 hbx)
        | (go_at_call 45; go_must (refine (HT.out _).mono ?_); rintro e w2 ⟨rfl, t2⟩; have HT2 := Lib.hid t2; clear t2))
      go_ret
      exact ⟨ret_bool (by rw [HB.out]; simp), HT0.out.trans HT1.out (fun _ _ e => e)⟩
  · rw [decide_eq_false hh, Bool.false_and] at HB
    go_enter Try.func28, Try.ntmps28
    go_wp2_with (first
      | (go_at_call 44; go_must (refine (HN.out _).mono ?_); rintro e w1 ⟨rfl, t1⟩
         have HT1 := Lib.hid t1
         have hbx := t1.blk HBk.out (fun e => e)
         have q2 := hbx.cell 2; have q3 := hbx.cell 3; have q4 := hbx.cell 4; have q5 := hbx.cell 5; have q6 := hbx.cell 6; have q7 := hbx.cell 7; have q8 := hbx.cell 8; have q9 := hbx.cell 9; have q10 := hbx.cell 10
         simp at q2 q3 q4 q5 q6 q7 q8 q9 q10
         clear t1 hbx)
      | (go_at_call 45; go_must (refine (HT.out _).mono ?_); rintro e w2 ⟨rfl, t2⟩; have HT2 := Lib.hid t2; clear t2))
    all_goals (
      go_ret
      first
        | exact ⟨ret_bool (by rw [HB.out]), HT0.out⟩
        | (exfalso; omega))
end Go.Proofs.Ytmgmjehebbggaaa
