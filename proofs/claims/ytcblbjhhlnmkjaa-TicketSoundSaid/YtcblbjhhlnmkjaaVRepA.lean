/- Whether a ticket is sound, the program's and the reference's. -/
import Derived.Test.YtcblbjhhlnmkjaaVQuillY
namespace Go.Proofs.Ytcblbjhhlnmkjaa
open Go.RowKit
set_option maxHeartbeats 4000000
set_option maxRecDepth 100000
set_option linter.unusedVariables false

structure TkV where
  id : Nat
  contract : Int
  state : Int
  level : Int
  gen : Nat
  from_ : Int
  left : Int
  due : Int
  told : Int
def TkV.cells (t : TkV) : List Value := [.int .u64 t.id, .int .i64 t.contract, .int .i64 t.state, .int .i64 t.level, .int .u64 t.gen, .int .i64 t.from_, .int .i64 t.left, .int .i64 t.due, .int .i64 t.told]
def TkV.ok (t : TkV) : Prop := -9223372036854775808 ≤ t.from_ ∧ t.from_ ≤ 9223372036854775807 ∧ -9223372036854775808 ≤ t.left ∧ t.left ≤ 9223372036854775807 ∧ -9223372036854775808 ≤ t.due ∧ t.due ≤ 9223372036854775807
def tkHead (t : TkV) : Prop := 0 ≤ t.contract ∧ t.contract < 16 ∧ 0 ≤ t.level ∧ t.level < 6 ∧ 0 ≤ t.told ∧ t.told ≤ 2147483648 ∧ t.gen ≤ 1152921504606846976
def tkRuns (t : TkV) : Prop := t.gen ≠ 0 ∧ 1 ≤ t.left ∧ 0 ≤ t.from_ ∧ t.due ≤ 1125899906842624 ∧ t.from_ ≤ t.due ∧ t.left ≤ t.due - t.from_
def tkStands (t : TkV) : Prop := t.gen = 0 ∧ t.due = 0 ∧ 1 ≤ t.left ∧ t.left ≤ 1125899906842624 ∧ 0 ≤ t.from_ ∧ t.from_ ≤ 1125899906842624
def tkDone (t : TkV) : Prop := t.gen = 0 ∧ t.from_ = 0 ∧ t.left = 0 ∧ t.due = 0
instance (t : TkV) : Decidable (tkHead t) := inferInstanceAs (Decidable (_ ∧ _))
instance (t : TkV) : Decidable (tkRuns t) := inferInstanceAs (Decidable (_ ∧ _))
instance (t : TkV) : Decidable (tkStands t) := inferInstanceAs (Decidable (_ ∧ _))
instance (t : TkV) : Decidable (tkDone t) := inferInstanceAs (Decidable (_ ∧ _))
def tkSound (t : TkV) : Bool := decide (tkHead t) && (if t.state = 1 then decide (tkRuns t) else if t.state = 2 then decide (tkStands t) else decide (t.state = 3 ∨ t.state = 4) && decide (tkDone t))

theorem instant_any (n : Int) (w : World) : Calls Try.prog 94 #[.int .i64 n] w fun e w' => e = .returned (.bool (decide (0 ≤ n ∧ n ≤ 1125899906842624))) ∧ w = w' := by
  by_cases h0 : 0 ≤ n
  · by_cases h7 : n ≤ 1125899906842624
    · go_enter Try.func94, Try.ntmps94
      go_wp2
      go_ret
      simp [h7]; omega
    · go_enter Try.func94, Try.ntmps94
      go_wp2
      go_ret
      simp; omega
  · go_enter Try.func94, Try.ntmps94
    go_wp2
    go_ret
    simp; omega

theorem rtk_any (t : TkV) (w : World) (h : t.ok) :
    Calls Try.prog 39 #[.agg #[.int .u64 t.id, .int .i64 t.contract, .int .i64 t.state, .int .i64 t.level, .int .u64 t.gen, .int .i64 t.from_, .int .i64 t.left, .int .i64 t.due, .int .i64 t.told]] w fun e w' => e = .returned (.bool (tkSound t)) ∧ Touch (fun _ => False) w w' := by
  obtain ⟨id, con, st, lev, gen, fr, le, du, to_⟩ := t
  obtain ⟨b1, b2, b3, b4, b5, b6⟩ := h
  simp only at b1 b2 b3 b4 b5 b6 ⊢
  obtain ⟨b, hb⟩ : ∃ b, b = tkSound ⟨id, con, st, lev, gen, fr, le, du, to_⟩ := ⟨_, rfl⟩
  rw [← hb]
  have HS := Lib.hid (hb.trans (show tkSound ⟨id, con, st, lev, gen, fr, le, du, to_⟩ = (decide (0 ≤ con ∧ con < 16 ∧ 0 ≤ lev ∧ lev < 6 ∧ 0 ≤ to_ ∧ to_ ≤ 2147483648 ∧ gen ≤ 1152921504606846976) && (if st = 1 then decide (gen ≠ 0 ∧ 1 ≤ le ∧ 0 ≤ fr ∧ du ≤ 1125899906842624 ∧ fr ≤ du ∧ le ≤ du - fr) else if st = 2 then decide (gen = 0 ∧ du = 0 ∧ 1 ≤ le ∧ le ≤ 1125899906842624 ∧ 0 ≤ fr ∧ fr ≤ 1125899906842624) else decide (st = 3 ∨ st = 4) && decide (gen = 0 ∧ fr = 0 ∧ le = 0 ∧ du = 0))) from rfl))
  clear hb
  by_cases s1 : st = 1
  · subst s1
    have HS := Lib.hid (HS.out.trans (show _ = (decide (0 ≤ con ∧ con < 16 ∧ 0 ≤ lev ∧ lev < 6 ∧ 0 ≤ to_ ∧ to_ ≤ 2147483648 ∧ gen ≤ 1152921504606846976) && decide (gen ≠ 0 ∧ 1 ≤ le ∧ 0 ≤ fr ∧ du ≤ 1125899906842624 ∧ fr ≤ du ∧ le ≤ du - fr)) by rw [if_pos rfl]))
    go_enter Try.func39, Try.ntmps39
    go_wp2
    all_goals (
      go_ret
      refine ⟨ret_bool ?_, (Touch.refl _ w).alloc _⟩
      rw [HS.out]
      by_cases hh : 0 ≤ con ∧ con < 16 ∧ 0 ≤ lev ∧ lev < 6 ∧ 0 ≤ to_ ∧ to_ ≤ 2147483648 ∧ gen ≤ 1152921504606846976
      · rw [decide_eq_true hh, Bool.true_and]
        all_goals (rw [Bool.eq_iff_iff])
        all_goals first | (simp; done) | (simp; omega) | omega | (simp [wrap64]; omega)
      · rw [decide_eq_false hh, Bool.false_and]
        all_goals first | rfl | (exfalso; omega))
  by_cases s2 : st = 2
  · subst s2
    have HS := Lib.hid (HS.out.trans (show _ = (decide (0 ≤ con ∧ con < 16 ∧ 0 ≤ lev ∧ lev < 6 ∧ 0 ≤ to_ ∧ to_ ≤ 2147483648 ∧ gen ≤ 1152921504606846976) && decide (gen = 0 ∧ du = 0 ∧ 1 ≤ le ∧ le ≤ 1125899906842624 ∧ 0 ≤ fr ∧ fr ≤ 1125899906842624)) by rw [if_neg (by decide), if_pos rfl]))
    go_enter Try.func39, Try.ntmps39
    go_wp2
    all_goals (
      go_ret
      refine ⟨ret_bool ?_, (Touch.refl _ w).alloc _⟩
      rw [HS.out]
      by_cases hh : 0 ≤ con ∧ con < 16 ∧ 0 ≤ lev ∧ lev < 6 ∧ 0 ≤ to_ ∧ to_ ≤ 2147483648 ∧ gen ≤ 1152921504606846976
      · rw [decide_eq_true hh, Bool.true_and]
        all_goals (rw [Bool.eq_iff_iff])
        all_goals first | (simp; done) | (simp; omega) | omega | (simp [wrap64]; omega)
      · rw [decide_eq_false hh, Bool.false_and]
        all_goals first | rfl | (exfalso; omega))
  by_cases s3 : st = 3
  · subst s3
    have HS := Lib.hid (HS.out.trans (show _ = (decide (0 ≤ con ∧ con < 16 ∧ 0 ≤ lev ∧ lev < 6 ∧ 0 ≤ to_ ∧ to_ ≤ 2147483648 ∧ gen ≤ 1152921504606846976) && decide (gen = 0 ∧ fr = 0 ∧ le = 0 ∧ du = 0)) by rw [if_neg (by decide), if_neg (by decide), decide_eq_true (show (3 : Int) = 3 ∨ (3 : Int) = 4 by decide), Bool.true_and]))
    go_enter Try.func39, Try.ntmps39
    go_wp2
    all_goals (
      go_ret
      refine ⟨ret_bool ?_, (Touch.refl _ w).alloc _⟩
      rw [HS.out]
      by_cases hh : 0 ≤ con ∧ con < 16 ∧ 0 ≤ lev ∧ lev < 6 ∧ 0 ≤ to_ ∧ to_ ≤ 2147483648 ∧ gen ≤ 1152921504606846976
      · rw [decide_eq_true hh, Bool.true_and]
        all_goals (rw [Bool.eq_iff_iff])
        all_goals first | (simp; done) | (simp; omega) | omega | (simp [wrap64]; omega)
      · rw [decide_eq_false hh, Bool.false_and]
        all_goals first | rfl | (exfalso; omega))
  by_cases s4 : st = 4
  · subst s4
    have HS := Lib.hid (HS.out.trans (show _ = (decide (0 ≤ con ∧ con < 16 ∧ 0 ≤ lev ∧ lev < 6 ∧ 0 ≤ to_ ∧ to_ ≤ 2147483648 ∧ gen ≤ 1152921504606846976) && decide (gen = 0 ∧ fr = 0 ∧ le = 0 ∧ du = 0)) by rw [if_neg (by decide), if_neg (by decide), decide_eq_true (show (4 : Int) = 3 ∨ (4 : Int) = 4 by decide), Bool.true_and]))
    go_enter Try.func39, Try.ntmps39
    go_wp2
    all_goals (
      go_ret
      refine ⟨ret_bool ?_, (Touch.refl _ w).alloc _⟩
      rw [HS.out]
      by_cases hh : 0 ≤ con ∧ con < 16 ∧ 0 ≤ lev ∧ lev < 6 ∧ 0 ≤ to_ ∧ to_ ≤ 2147483648 ∧ gen ≤ 1152921504606846976
      · rw [decide_eq_true hh, Bool.true_and]
        all_goals (rw [Bool.eq_iff_iff])
        all_goals first | (simp; done) | (simp; omega) | omega | (simp [wrap64]; omega)
      · rw [decide_eq_false hh, Bool.false_and]
        all_goals first | rfl | (exfalso; omega))
  have e1 : (st == 1) = false := by simpa using s1
  have e2 : (st == 2) = false := by simpa using s2
  have e3 : (st == 3) = false := by simpa using s3
  have e4 : (st == 4) = false := by simpa using s4
  have HN := Lib.hid (And.intro s1 (And.intro s2 (And.intro s3 s4)))
  have HS := Lib.hid (HS.out.trans (show _ = (decide (0 ≤ con ∧ con < 16 ∧ 0 ≤ lev ∧ lev < 6 ∧ 0 ≤ to_ ∧ to_ ≤ 2147483648 ∧ gen ≤ 1152921504606846976) && false) by rw [if_neg HN.out.1, if_neg HN.out.2.1, decide_eq_false (show ¬ (st = 3 ∨ st = 4) from fun h => h.elim HN.out.2.2.1 HN.out.2.2.2), Bool.false_and]))
  clear s1 s2 s3 s4
  go_enter Try.func39, Try.ntmps39
  go_wp2
  all_goals (
    go_ret
    refine ⟨ret_bool ?_, (Touch.refl _ w).alloc _⟩
    rw [HS.out]
    by_cases hh : 0 ≤ con ∧ con < 16 ∧ 0 ≤ lev ∧ lev < 6 ∧ 0 ≤ to_ ∧ to_ ≤ 2147483648 ∧ gen ≤ 1152921504606846976
    · rw [decide_eq_true hh, Bool.true_and]
      all_goals (rw [Bool.eq_iff_iff])
      all_goals first | (simp; done) | (simp; omega) | omega | (simp [wrap64]; omega)
    · rw [decide_eq_false hh, Bool.false_and]
      all_goals first | rfl | (exfalso; omega))
end Go.Proofs.Ytcblbjhhlnmkjaa
