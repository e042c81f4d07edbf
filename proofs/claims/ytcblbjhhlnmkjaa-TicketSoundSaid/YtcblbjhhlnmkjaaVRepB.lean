/- Whether a ticket is sound, the program's. -/
import Derived.Test.YtcblbjhhlnmkjaaVRepA
namespace Go.Proofs.Ytcblbjhhlnmkjaa
open Go.RowKit
set_option maxHeartbeats 4000000
set_option maxRecDepth 100000
set_option linter.unusedVariables false

theorem ttk_any (t : TkV) (w : World) (h : t.ok) :
    Calls Try.prog 38 #[.agg #[.int .u64 t.id, .int .i64 t.contract, .int .i64 t.state, .int .i64 t.level, .int .u64 t.gen, .int .i64 t.from_, .int .i64 t.left, .int .i64 t.due, .int .i64 t.told]] w fun e w' => e = .returned (.bool (tkSound t)) ∧ Touch (fun _ => False) w w' := by
  obtain ⟨id, con, st, lev, gen, fr, le, du, to_⟩ := t
  obtain ⟨b1, b2, b3, b4, b5, b6⟩ := h
  simp only at b1 b2 b3 b4 b5 b6 ⊢
  obtain ⟨b, hb⟩ : ∃ b, b = tkSound ⟨id, con, st, lev, gen, fr, le, du, to_⟩ := ⟨_, rfl⟩
  rw [← hb]
  have HS := Lib.hid (hb.trans (show tkSound ⟨id, con, st, lev, gen, fr, le, du, to_⟩ = (decide (0 ≤ con ∧ con < 16 ∧ 0 ≤ lev ∧ lev < 6 ∧ 0 ≤ to_ ∧ to_ ≤ 2147483648 ∧ gen ≤ 1152921504606846976) && (if st = 1 then decide (gen ≠ 0 ∧ 1 ≤ le ∧ 0 ≤ fr ∧ du ≤ 1125899906842624 ∧ fr ≤ du ∧ le ≤ du - fr) else if st = 2 then decide (gen = 0 ∧ du = 0 ∧ 1 ≤ le ∧ le ≤ 1125899906842624 ∧ 0 ≤ fr ∧ fr ≤ 1125899906842624) else decide (st = 3 ∨ st = 4) && decide (gen = 0 ∧ fr = 0 ∧ le = 0 ∧ du = 0))) from rfl))
  clear hb
  by_cases s1 : st = 1
  · subst s1
    have HS := Lib.hid (HS.out.trans (show _ = (decide (0 ≤ con ∧ con < 16 ∧ 0 ≤ lev ∧ lev < 6 ∧ 0 ≤ to_ ∧ to_ ≤ 2147483648 ∧ gen ≤ 1152921504606846976) && decide (gen ≠ 0 ∧ 1 ≤ le ∧ 0 ≤ fr ∧ du ≤ 1125899906842624 ∧ fr ≤ du ∧ le ≤ du - fr)) by rw [if_pos rfl]))
    go_enter Try.func38, Try.ntmps38
    go_wp2_with (go_at_call 94; go_must (refine (instant_any _ _).mono ?_); rintro e w1 ⟨rfl, rfl⟩)
    all_goals (
      go_ret
      refine ⟨ret_bool ?_, ?_⟩
      rotate_left
      · first | exact (Touch.refl _ w).alloc _ | exact (((Touch.refl (fun _ => False) w).alloc _).trans (((Touch.refl (fun q => q = w.heap.size) _).set (fun _ => rfl) _).set (fun _ => rfl) _) (fun q hq e => by omega))
      rw [HS.out]
      by_cases hh : 0 ≤ con ∧ con < 16 ∧ 0 ≤ lev ∧ lev < 6 ∧ 0 ≤ to_ ∧ to_ ≤ 2147483648 ∧ gen ≤ 1152921504606846976
      · rw [decide_eq_true hh, Bool.true_and]
        all_goals (rw [Bool.eq_iff_iff])
        all_goals first | (simp; done) | (simp; omega) | omega | (simp only [Bool.not_eq_true', Bool.not_eq_false', decide_eq_true_eq, decide_eq_false_iff_not] at *; simp; omega) | (simp [wrap64]; omega)
      · rw [decide_eq_false hh, Bool.false_and]
        all_goals first | rfl | (exfalso; omega))
  by_cases s2 : st = 2
  · subst s2
    have HS := Lib.hid (HS.out.trans (show _ = (decide (0 ≤ con ∧ con < 16 ∧ 0 ≤ lev ∧ lev < 6 ∧ 0 ≤ to_ ∧ to_ ≤ 2147483648 ∧ gen ≤ 1152921504606846976) && decide (gen = 0 ∧ du = 0 ∧ 1 ≤ le ∧ le ≤ 1125899906842624 ∧ 0 ≤ fr ∧ fr ≤ 1125899906842624)) by rw [if_neg (by decide), if_pos rfl]))
    go_enter Try.func38, Try.ntmps38
    go_wp2_with (go_at_call 94; go_must (refine (instant_any _ _).mono ?_); rintro e w1 ⟨rfl, rfl⟩)
    all_goals (
      go_ret
      refine ⟨ret_bool ?_, ?_⟩
      rotate_left
      · first | exact (Touch.refl _ w).alloc _ | exact (((Touch.refl (fun _ => False) w).alloc _).trans (((Touch.refl (fun q => q = w.heap.size) _).set (fun _ => rfl) _).set (fun _ => rfl) _) (fun q hq e => by omega))
      rw [HS.out]
      by_cases hh : 0 ≤ con ∧ con < 16 ∧ 0 ≤ lev ∧ lev < 6 ∧ 0 ≤ to_ ∧ to_ ≤ 2147483648 ∧ gen ≤ 1152921504606846976
      · rw [decide_eq_true hh, Bool.true_and]
        all_goals (rw [Bool.eq_iff_iff])
        all_goals first | (simp; done) | (simp; omega) | omega | (simp only [Bool.not_eq_true', Bool.not_eq_false', decide_eq_true_eq, decide_eq_false_iff_not] at *; simp; omega) | (simp [wrap64]; omega)
      · rw [decide_eq_false hh, Bool.false_and]
        all_goals first | rfl | (exfalso; omega))
  by_cases s3 : st = 3
  · subst s3
    have HS := Lib.hid (HS.out.trans (show _ = (decide (0 ≤ con ∧ con < 16 ∧ 0 ≤ lev ∧ lev < 6 ∧ 0 ≤ to_ ∧ to_ ≤ 2147483648 ∧ gen ≤ 1152921504606846976) && decide (gen = 0 ∧ fr = 0 ∧ le = 0 ∧ du = 0)) by rw [if_neg (by decide), if_neg (by decide), decide_eq_true (show (3 : Int) = 3 ∨ (3 : Int) = 4 by decide), Bool.true_and]))
    go_enter Try.func38, Try.ntmps38
    go_wp2_with (go_at_call 94; go_must (refine (instant_any _ _).mono ?_); rintro e w1 ⟨rfl, rfl⟩)
    all_goals (
      go_ret
      refine ⟨ret_bool ?_, ?_⟩
      rotate_left
      · first | exact (Touch.refl _ w).alloc _ | exact (((Touch.refl (fun _ => False) w).alloc _).trans (((Touch.refl (fun q => q = w.heap.size) _).set (fun _ => rfl) _).set (fun _ => rfl) _) (fun q hq e => by omega))
      rw [HS.out]
      by_cases hh : 0 ≤ con ∧ con < 16 ∧ 0 ≤ lev ∧ lev < 6 ∧ 0 ≤ to_ ∧ to_ ≤ 2147483648 ∧ gen ≤ 1152921504606846976
      · rw [decide_eq_true hh, Bool.true_and]
        all_goals (rw [Bool.eq_iff_iff])
        all_goals first | (simp; done) | (simp; omega) | omega | (simp only [Bool.not_eq_true', Bool.not_eq_false', decide_eq_true_eq, decide_eq_false_iff_not] at *; simp; omega) | (simp [wrap64]; omega)
      · rw [decide_eq_false hh, Bool.false_and]
        all_goals first | rfl | (exfalso; omega))
  by_cases s4 : st = 4
  · subst s4
    have HS := Lib.hid (HS.out.trans (show _ = (decide (0 ≤ con ∧ con < 16 ∧ 0 ≤ lev ∧ lev < 6 ∧ 0 ≤ to_ ∧ to_ ≤ 2147483648 ∧ gen ≤ 1152921504606846976) && decide (gen = 0 ∧ fr = 0 ∧ le = 0 ∧ du = 0)) by rw [if_neg (by decide), if_neg (by decide), decide_eq_true (show (4 : Int) = 3 ∨ (4 : Int) = 4 by decide), Bool.true_and]))
    go_enter Try.func38, Try.ntmps38
    go_wp2_with (go_at_call 94; go_must (refine (instant_any _ _).mono ?_); rintro e w1 ⟨rfl, rfl⟩)
    all_goals (
      go_ret
      refine ⟨ret_bool ?_, ?_⟩
      rotate_left
      · first | exact (Touch.refl _ w).alloc _ | exact (((Touch.refl (fun _ => False) w).alloc _).trans (((Touch.refl (fun q => q = w.heap.size) _).set (fun _ => rfl) _).set (fun _ => rfl) _) (fun q hq e => by omega))
      rw [HS.out]
      by_cases hh : 0 ≤ con ∧ con < 16 ∧ 0 ≤ lev ∧ lev < 6 ∧ 0 ≤ to_ ∧ to_ ≤ 2147483648 ∧ gen ≤ 1152921504606846976
      · rw [decide_eq_true hh, Bool.true_and]
        all_goals (rw [Bool.eq_iff_iff])
        all_goals first | (simp; done) | (simp; omega) | omega | (simp only [Bool.not_eq_true', Bool.not_eq_false', decide_eq_true_eq, decide_eq_false_iff_not] at *; simp; omega) | (simp [wrap64]; omega)
      · rw [decide_eq_false hh, Bool.false_and]
        all_goals first | rfl | (exfalso; omega))
  have e1 : (st == 1) = false := by simpa using s1
  have e2 : (st == 2) = false := by simpa using s2
  have e3 : (st == 3) = false := by simpa using s3
  have e4 : (st == 4) = false := by simpa using s4
  have HN := Lib.hid (And.intro s1 (And.intro s2 (And.intro s3 s4)))
  have HS := Lib.hid (HS.out.trans (show _ = (decide (0 ≤ con ∧ con < 16 ∧ 0 ≤ lev ∧ lev < 6 ∧ 0 ≤ to_ ∧ to_ ≤ 2147483648 ∧ gen ≤ 1152921504606846976) && false) by rw [if_neg HN.out.1, if_neg HN.out.2.1, decide_eq_false (show ¬ (st = 3 ∨ st = 4) from fun h => h.elim HN.out.2.2.1 HN.out.2.2.2), Bool.false_and]))
  clear s1 s2 s3 s4
  go_enter Try.func38, Try.ntmps38
  go_wp2_with (go_at_call 94; go_must (refine (instant_any _ _).mono ?_); rintro e w1 ⟨rfl, rfl⟩)
  all_goals (
    go_ret
    refine ⟨ret_bool ?_, ?_⟩
    rotate_left
    · first | exact (Touch.refl _ w).alloc _ | exact (((Touch.refl (fun _ => False) w).alloc _).trans (((Touch.refl (fun q => q = w.heap.size) _).set (fun _ => rfl) _).set (fun _ => rfl) _) (fun q hq e => by omega))
    rw [HS.out]
    by_cases hh : 0 ≤ con ∧ con < 16 ∧ 0 ≤ lev ∧ lev < 6 ∧ 0 ≤ to_ ∧ to_ ≤ 2147483648 ∧ gen ≤ 1152921504606846976
    · rw [decide_eq_true hh, Bool.true_and]
      all_goals (rw [Bool.eq_iff_iff])
      all_goals first | (simp; done) | (simp; omega) | omega | (simp only [Bool.not_eq_true', Bool.not_eq_false', decide_eq_true_eq, decide_eq_false_iff_not] at *; simp; omega) | (simp [wrap64]; omega)
    · rw [decide_eq_false hh, Bool.false_and]
      all_goals first | rfl | (exfalso; omega))
end Go.Proofs.Ytcblbjhhlnmkjaa
