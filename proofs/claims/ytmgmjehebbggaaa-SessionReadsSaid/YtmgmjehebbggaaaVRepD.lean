/- Whether a ticket is sound, the program's. Whether a reply has a ticket; whether it is sound. Whether a reply is sound, the reference's: the comparison with no ticket. -/
import Derived.Test.YtmgmjehebbggaaaVRepA
section
namespace Go.Proofs.Ytmgmjehebbggaaa
open Go.RowKit
set_option maxHeartbeats 4000000
set_option maxRecDepth 100000
set_option linter.unusedVariables false

theorem ttk_any (t : TkV) (w : World) (h : t.ok) :
    Calls Try.prog 45 #[.agg #[.int .u64 t.id, .int .i64 t.contract, .int .i64 t.state, .int .i64 t.level, .int .u64 t.gen, .int .i64 t.from_, .int .i64 t.left, .int .i64 t.due, .int .i64 t.told]] w fun e w' => e = .returned (.bool (tkSound t)) ∧ Touch (fun _ => False) w w' := by
  obtain ⟨id, con, st, lev, gen, fr, le, du, to_⟩ := t
  obtain ⟨b1, b2, b3, b4, b5, b6⟩ := h
  simp only at b1 b2 b3 b4 b5 b6 ⊢
  obtain ⟨b, hb⟩ : ∃ b, b = tkSound ⟨id, con, st, lev, gen, fr, le, du, to_⟩ := ⟨_, rfl⟩
  rw [← hb]
  have HS := Lib.hid (hb.trans (show tkSound ⟨id, con, st, lev, gen, fr, le, du, to_⟩ = (decide (0 ≤ con ∧ con < 16 ∧ 0 ≤ lev ∧ lev < 6 ∧ 0 ≤ to_ ∧ to_ ≤ 2147483648 ∧ gen ≤ 1152921504606846976) && (if st = 1 then decide (gen ≠ 0 ∧ 1 ≤ le ∧ 0 ≤ fr ∧ du ≤ 1125899906842624 ∧ fr ≤ du ∧ le ≤ du - fr) else if st = 2 then decide (gen = 0 ∧ du = 0 ∧ 1 ≤ le ∧ le ≤ 1125899906842624 ∧ 0 ≤ fr ∧ fr ≤ 1125899906842624) else decide (st = 3 ∨ st = 4) && decide (gen = 0 ∧ fr = 0 ∧ le = 0 ∧ du = 0))) from rfl))
  clear hb
  by_cases s1 : st = 1
  · subst s1
    have HS := Lib.hid (HS.out.trans (show _ = (decide (0 ≤ con ∧ con < 16 ∧ 0 ≤ lev ∧ lev < 6 ∧ 0 ≤ to_ ∧ to_ ≤ 2147483648 ∧ gen ≤ 1152921504606846976) && decide (gen ≠ 0 ∧ 1 ≤ le ∧ 0 ≤ fr ∧ du ≤ 1125899906842624 ∧ fr ≤ du ∧ le ≤ du - fr)) by rw [if_pos rfl]))
    go_enter Try.func45, Try.ntmps45
    go_wp2_with (go_at_call 64; go_must (refine (instant_any _ _).mono ?_); rintro e w1 ⟨rfl, rfl⟩)
    all_goals (
      go_ret
      refine ⟨ret_bool ?_, ?_⟩
      rotate_left
      · first | exact (Touch.refl _ w).alloc _ | exact (((Touch.refl (fun _ => False) w).alloc _).trans (((Touch.refl (fun q => q = w.heap.size) _).set (fun _ => rfl) _).set (fun _ => rfl) _) (fun q hq e => by omega))
      rw [HS.out]
      by_cases hh : 0 ≤ con ∧ con < 16 ∧ 0 ≤ lev ∧ lev < 6 ∧ 0 ≤ to_ ∧ to_ ≤ 2147483648 ∧ gen ≤ 1152921504606846976
      · rw [decide_eq_true hh, Bool.true_and]
        all_goals (rw [Bool.eq_iff_iff])
        all_goals first | (simp; done) | (simp; omega) | omega | (simp only [Bool.not_eq_true', Bool.not_eq_false', decide_eq_true_eq, decide_eq_false_iff_not] at *; simp; omega) | (simp [wrap64]; omega)
      · rw [decide_eq_false hh, Bool.false_and]
        all_goals first | rfl | (exfalso; omega))
  by_cases s2 : st = 2
  · subst s2
    have HS := Lib.hid (HS.out.trans (show _ = (decide (0 ≤ con ∧ con < 16 ∧ 0 ≤ lev ∧ lev < 6 ∧ 0 ≤ to_ ∧ to_ ≤ 2147483648 ∧ gen ≤ 1152921504606846976) && decide (gen = 0 ∧ du = 0 ∧ 1 ≤ le ∧ le ≤ 1125899906842624 ∧ 0 ≤ fr ∧ fr ≤ 1125899906842624)) by rw [if_neg (by decide), if_pos rfl]))
    go_enter Try.func45, Try.ntmps45
    go_wp2_with (go_at_call 64; go_must (refine (instant_any _ _).mono ?_); rintro e w1 ⟨rfl, rfl⟩)
    all_goals (
      go_ret
      refine ⟨ret_bool ?_, ?_⟩
      rotate_left
      · first | exact (Touch.refl _ w).alloc _ | exact (((Touch.refl (fun _ => False) w).alloc _).trans (((Touch.refl (fun q => q = w.heap.size) _).set (fun _ => rfl) _).set (fun _ => rfl) _) (fun q hq e => by omega))
      rw [HS.out]
      by_cases hh : 0 ≤ con ∧ con < 16 ∧ 0 ≤ lev ∧ lev < 6 ∧ 0 ≤ to_ ∧ to_ ≤ 2147483648 ∧ gen ≤ 1152921504606846976
      · rw [decide_eq_true hh, Bool.true_and]
        all_goals (rw [Bool.eq_iff_iff])
        all_goals first | (simp; done) | (simp; omega) | omega | (simp only [Bool.not_eq_true', Bool.not_eq_false', decide_eq_true_eq, decide_eq_false_iff_not] at *; simp; omega) | (simp [wrap64]; omega)
      · rw [decide_eq_false hh, Bool.false_and]
        all_goals first | rfl | (exfalso; omega))
  by_cases s3 : st = 3
  · subst s3
    have HS := Lib.hid (HS.out.trans (show _ = (decide (0 ≤ con ∧ con < 16 ∧ 0 ≤ lev ∧ lev < 6 ∧ 0 ≤ to_ ∧ to_ ≤ 2147483648 ∧ gen ≤ 1152921504606846976) && decide (gen = 0 ∧ fr = 0 ∧ le = 0 ∧ du = 0)) by rw [if_neg (by decide), if_neg (by decide), decide_eq_true (show (3 : Int) = 3 ∨ (3 : Int) = 4 by decide), Bool.true_and]))
    go_enter Try.func45, Try.ntmps45
    go_wp2_with (go_at_call 64; go_must (refine (instant_any _ _).mono ?_); rintro e w1 ⟨rfl, rfl⟩)
    all_goals (
      go_ret
      refine ⟨ret_bool ?_, ?_⟩
      rotate_left
      · first | exact (Touch.refl _ w).alloc _ | exact (((Touch.refl (fun _ => False) w).alloc _).trans (((Touch.refl (fun q => q = w.heap.size) _).set (fun _ => rfl) _).set (fun _ => rfl) _) (fun q hq e => by omega))
      rw [HS.out]
      by_cases hh : 0 ≤ con ∧ con < 16 ∧ 0 ≤ lev ∧ lev < 6 ∧ 0 ≤ to_ ∧ to_ ≤ 2147483648 ∧ gen ≤ 1152921504606846976
      · rw [decide_eq_true hh, Bool.true_and]
        all_goals (rw [Bool.eq_iff_iff])
        all_goals first | (simp; done) | (simp; omega) | omega | (simp only [Bool.not_eq_true', Bool.not_eq_false', decide_eq_true_eq, decide_eq_false_iff_not] at *; simp; omega) | (simp [wrap64]; omega)
      · rw [decide_eq_false hh, Bool.false_and]
        all_goals first | rfl | (exfalso; omega))
  by_cases s4 : st = 4
  · subst s4
    have HS := Lib.hid (HS.out.trans (show _ = (decide (0 ≤ con ∧ con < 16 ∧ 0 ≤ lev ∧ lev < 6 ∧ 0 ≤ to_ ∧ to_ ≤ 2147483648 ∧ gen ≤ 1152921504606846976) && decide (gen = 0 ∧ fr = 0 ∧ le = 0 ∧ du = 0)) by rw [if_neg (by decide), if_neg (by decide), decide_eq_true (show (4 : Int) = 3 ∨ (4 : Int) = 4 by decide), Bool.true_and]))
    go_enter Try.func45, Try.ntmps45
    go_wp2_with (go_at_call 64; go_must (refine (instant_any _ _).mono ?_); rintro e w1 ⟨rfl, rfl⟩)
    all_goals (
      go_ret
      refine ⟨ret_bool ?_, ?_⟩
      rotate_left
      · first | exact (Touch.refl _ w).alloc _ | exact (((Touch.refl (fun _ => False) w).alloc _).trans (((Touch.refl (fun q => q = w.heap.size) _).set (fun _ => rfl) _).set (fun _ => rfl) _) (fun q hq e => by omega))
      rw [HS.out]
      by_cases hh : 0 ≤ con ∧ con < 16 ∧ 0 ≤ lev ∧ lev < 6 ∧ 0 ≤ to_ ∧ to_ ≤ 2147483648 ∧ gen ≤ 1152921504606846976
      · rw [decide_eq_true hh, Bool.true_and]
        all_goals (rw [Bool.eq_iff_iff])
        all_goals first | (simp; done) | (simp; omega) | omega | (simp only [Bool.not_eq_true', Bool.not_eq_false', decide_eq_true_eq, decide_eq_false_iff_not] at *; simp; omega) | (simp [wrap64]; omega)
      · rw [decide_eq_false hh, Bool.false_and]
        all_goals first | rfl | (exfalso; omega))
  have e1 : (st == 1) = false := by simpa using s1
  have e2 : (st == 2) = false := by simpa using s2
  have e3 : (st == 3) = false := by simpa using s3
  have e4 : (st == 4) = false := by simpa using s4
  have HN := Lib.hid (And.intro s1 (And.intro s2 (And.intro s3 s4)))
  have HS := Lib.hid (HS.out.trans (show _ = (decide (0 ≤ con ∧ con < 16 ∧ 0 ≤ lev ∧ lev < 6 ∧ 0 ≤ to_ ∧ to_ ≤ 2147483648 ∧ gen ≤ 1152921504606846976) && false) by rw [if_neg HN.out.1, if_neg HN.out.2.1, decide_eq_false (show ¬ (st = 3 ∨ st = 4) from fun h => h.elim HN.out.2.2.1 HN.out.2.2.2), Bool.false_and]))
  clear s1 s2 s3 s4
  go_enter Try.func45, Try.ntmps45
  go_wp2_with (go_at_call 64; go_must (refine (instant_any _ _).mono ?_); rintro e w1 ⟨rfl, rfl⟩)
  all_goals (
    go_ret
    refine ⟨ret_bool ?_, ?_⟩
    rotate_left
    · first | exact (Touch.refl _ w).alloc _ | exact (((Touch.refl (fun _ => False) w).alloc _).trans (((Touch.refl (fun q => q = w.heap.size) _).set (fun _ => rfl) _).set (fun _ => rfl) _) (fun q hq e => by omega))
    rw [HS.out]
    by_cases hh : 0 ≤ con ∧ con < 16 ∧ 0 ≤ lev ∧ lev < 6 ∧ 0 ≤ to_ ∧ to_ ≤ 2147483648 ∧ gen ≤ 1152921504606846976
    · rw [decide_eq_true hh, Bool.true_and]
      all_goals (rw [Bool.eq_iff_iff])
      all_goals first | (simp; done) | (simp; omega) | omega | (simp only [Bool.not_eq_true', Bool.not_eq_false', decide_eq_true_eq, decide_eq_false_iff_not] at *; simp; omega) | (simp [wrap64]; omega)
    · rw [decide_eq_false hh, Bool.false_and]
      all_goals first | rfl | (exfalso; omega))
end Go.Proofs.Ytmgmjehebbggaaa
end

section
namespace Go.Proofs.Ytmgmjehebbggaaa
open Go.RowKit
set_option maxHeartbeats 4000000
set_option maxRecDepth 100000
set_option linter.unusedVariables false

def tkNone (t : TkV) : Bool := decide (t.id = 0 ∧ t.contract = 0 ∧ t.state = 0 ∧ t.level = 0 ∧ t.gen = 0 ∧ t.from_ = 0 ∧ t.left = 0 ∧ t.due = 0 ∧ t.told = 0)
theorem none_any (t : TkV) (w : World) :
    Calls Try.prog 44 #[.agg #[.int .u64 t.id, .int .i64 t.contract, .int .i64 t.state, .int .i64 t.level, .int .u64 t.gen, .int .i64 t.from_, .int .i64 t.left, .int .i64 t.due, .int .i64 t.told]] w fun e w' => e = .returned (.bool (tkNone t)) ∧ Touch (fun _ => False) w w' := by
  obtain ⟨id, con, st, lev, gen, fr, le, du, to_⟩ := t
  obtain ⟨b, hb⟩ : ∃ b, b = tkNone ⟨id, con, st, lev, gen, fr, le, du, to_⟩ := ⟨_, rfl⟩
  rw [← hb]
  have HB := Lib.hid (hb.trans (show _ = decide (id = 0 ∧ con = 0 ∧ st = 0 ∧ lev = 0 ∧ gen = 0 ∧ fr = 0 ∧ le = 0 ∧ du = 0 ∧ to_ = 0) from rfl))
  clear hb
  simp only
  go_enter Try.func44, Try.ntmps44
  go_wp2
  all_goals (
    go_ret
    refine ⟨ret_bool ?_, (Touch.refl _ w).alloc _⟩
    rw [HB.out]
    all_goals first | (simp; done) | (simp; omega) | omega)

def rpSound (code time : Int) (t : TkV) (n : Nat) (dead : Int) : Bool := decide (0 ≤ code ∧ code ≤ 99 ∧ 0 ≤ time ∧ time ≤ 1125899906842624 ∧ n ≤ 64 ∧ 0 ≤ dead ∧ dead ≤ 128) && (tkNone t || tkSound t)
theorem psound_any (code time : Int) (t : TkV) (A : Option Addr) (n c : Nat) (notice : Nat) (dead : Int) (w : World) (h : t.ok) :
    Calls Try.prog 28 #[.agg #[.int .i64 code, .int .i64 time, .int .u64 t.id, .int .i64 t.contract, .int .i64 t.state, .int .i64 t.level, .int .u64 t.gen, .int .i64 t.from_, .int .i64 t.left, .int .i64 t.due, .int .i64 t.told, .slice A n c, .int .u64 notice, .int .i64 dead]] w fun e w' => e = .returned (.bool (rpSound code time t n dead)) ∧ Touch (fun _ => False) w w' := by
  have HN := Lib.hid (fun w1 => none_any t w1)
  have HT := Lib.hid (fun w1 => ttk_any t w1 h)
  obtain ⟨b, hb⟩ : ∃ b, b = rpSound code time t n dead := ⟨_, rfl⟩
  rw [← hb]
  have HB := Lib.hid (hb.trans (show _ = (decide (0 ≤ code ∧ code ≤ 99 ∧ 0 ≤ time ∧ time ≤ 1125899906842624 ∧ n ≤ 64 ∧ 0 ≤ dead ∧ dead ≤ 128) && (tkNone t || tkSound t)) from rfl))
  clear hb h
  generalize tkNone t = no at *
  generalize tkSound t = so at *
  obtain ⟨id, con, st, lev, gen, fr, le, du, to_⟩ := t
  simp only at HN HT ⊢
  have HBk := Lib.hid (Blk.new w 35 #[.int .i64 code, .int .i64 time, .int .u64 id, .int .i64 con, .int .i64 st, .int .i64 lev, .int .u64 gen, .int .i64 fr, .int .i64 le, .int .i64 du, .int .i64 to_, .slice A n c, .int .u64 notice, .int .i64 dead])
  have HT0 := Lib.hid ((Touch.refl (fun _ => False) w).alloc (.cells #[.int .i64 code, .int .i64 time, .int .u64 id, .int .i64 con, .int .i64 st, .int .i64 lev, .int .u64 gen, .int .i64 fr, .int .i64 le, .int .i64 du, .int .i64 to_, .slice A n c, .int .u64 notice, .int .i64 dead] 35))
  by_cases hh : 0 ≤ code ∧ code ≤ 99 ∧ 0 ≤ time ∧ time ≤ 1125899906842624 ∧ n ≤ 64 ∧ 0 ≤ dead ∧ dead ≤ 128
  · rw [decide_eq_true hh, Bool.true_and] at HB
    obtain ⟨g1, g2, g3, g4, g5, g6, g7⟩ := hh
    have g5' : (n : Int) ≤ 64 := by omega
    cases no
    · go_enter Try.func28, Try.ntmps28
      go_wp2_with (first
        | (go_at_call 44; go_must (refine (HN.out _).mono ?_); rintro e w1 ⟨rfl, t1⟩
           have HT1 := Lib.hid t1
           have hbx := t1.blk HBk.out (fun e => e)
           have q2 := hbx.cell 2; have q3 := hbx.cell 3; have q4 := hbx.cell 4; have q5 := hbx.cell 5; have q6 := hbx.cell 6; have q7 := hbx.cell 7; have q8 := hbx.cell 8; have q9 := hbx.cell 9; have q10 := hbx.cell 10
           simp at q2 q3 q4 q5 q6 q7 q8 q9 q10
           clear t1 hbx)
        | (go_at_call 45; go_must (refine (HT.out _).mono ?_); rintro e w2 ⟨rfl, t2⟩; have HT2 := Lib.hid t2; clear t2))
      go_ret
      exact ⟨ret_bool (by rw [HB.out]; simp), (HT0.out.trans HT1.out (fun _ _ e => e)).trans HT2.out (fun _ _ e => e)⟩
    · go_enter Try.func28, Try.ntmps28
      go_wp2_with (first
        | (go_at_call 44; go_must (refine (HN.out _).mono ?_); rintro e w1 ⟨rfl, t1⟩
           have HT1 := Lib.hid t1
           have hbx := t1.blk HBk.out (fun e => e)
           have q2 := hbx.cell 2; have q3 := hbx.cell 3; have q4 := hbx.cell 4; have q5 := hbx.cell 5; have q6 := hbx.cell 6; have q7 := hbx.cell 7; have q8 := hbx.cell 8; have q9 := hbx.cell 9; have q10 := hbx.cell 10
           simp at q2 q3 q4 q5 q6 q7 q8 q9 q10
           clear t1 hbx)
        | (go_at_call 45; go_must (refine (HT.out _).mono ?_); rintro e w2 ⟨rfl, t2⟩; have HT2 := Lib.hid t2; clear t2))
      go_ret
      exact ⟨ret_bool (by rw [HB.out]; simp), HT0.out.trans HT1.out (fun _ _ e => e)⟩
  · rw [decide_eq_false hh, Bool.false_and] at HB
    go_enter Try.func28, Try.ntmps28
    go_wp2_with (first
      | (go_at_call 44; go_must (refine (HN.out _).mono ?_); rintro e w1 ⟨rfl, t1⟩
         have HT1 := Lib.hid t1
         have hbx := t1.blk HBk.out (fun e => e)
         have q2 := hbx.cell 2; have q3 := hbx.cell 3; have q4 := hbx.cell 4; have q5 := hbx.cell 5; have q6 := hbx.cell 6; have q7 := hbx.cell 7; have q8 := hbx.cell 8; have q9 := hbx.cell 9; have q10 := hbx.cell 10
         simp at q2 q3 q4 q5 q6 q7 q8 q9 q10
         clear t1 hbx)
      | (go_at_call 45; go_must (refine (HT.out _).mono ?_); rintro e w2 ⟨rfl, t2⟩; have HT2 := Lib.hid t2; clear t2))
    all_goals (
      go_ret
      first
        | exact ⟨ret_bool (by rw [HB.out]), HT0.out⟩
        | (exfalso; omega))
end Go.Proofs.Ytmgmjehebbggaaa
end

section
namespace Go.Proofs.Ytmgmjehebbggaaa
open Go.RowKit
set_option maxHeartbeats 4000000
set_option maxRecDepth 100000
set_option linter.unusedVariables false

theorem eq_tk (id : Nat) (con st lev : Int) (gen : Nat) (fr le du to_ : Int) (w : World) :
    (binOp .eql 32 (.agg #[.int .u64 id, .int .i64 con, .int .i64 st, .int .i64 lev, .int .u64 gen, .int .i64 fr, .int .i64 le, .int .i64 du, .int .i64 to_]) (.agg #[.int .u64 0, .int .i64 0, .int .i64 0, .int .i64 0, .int .u64 0, .int .i64 0, .int .i64 0, .int .i64 0, .int .i64 0])).run Try.prog w =
      .ok (.bool (tkNone ⟨id, con, st, lev, gen, fr, le, du, to_⟩)) w := by
  simp [go_sem]
  simp only [tkNone]
  repeat' split
  all_goals simp_all
theorem rsoundR_any (code time : Int) (t : TkV) (A : Option Addr) (n c : Nat) (notice : Nat) (dead : Int) (w : World) (h : t.ok) :
    Calls Try.prog 46 #[.agg #[.int .i64 code, .int .i64 time, .int .u64 t.id, .int .i64 t.contract, .int .i64 t.state, .int .i64 t.level, .int .u64 t.gen, .int .i64 t.from_, .int .i64 t.left, .int .i64 t.due, .int .i64 t.told, .slice A n c, .int .u64 notice, .int .i64 dead]] w fun e w' => e = .returned (.bool (rpSound code time t n dead)) ∧ Touch (fun _ => False) w w' := by
  have HT := Lib.hid (fun w1 => rtk_any t w1 h)
  obtain ⟨b, hb⟩ : ∃ b, b = rpSound code time t n dead := ⟨_, rfl⟩
  rw [← hb]
  have HB := Lib.hid (hb.trans (show _ = (decide (0 ≤ code ∧ code ≤ 99 ∧ 0 ≤ time ∧ time ≤ 1125899906842624 ∧ n ≤ 64 ∧ 0 ≤ dead ∧ dead ≤ 128) && (tkNone t || tkSound t)) from rfl))
  clear hb h
  obtain ⟨id, con, st, lev, gen, fr, le, du, to_⟩ := t
  have hbin := fun w => eq_tk id con st lev gen fr le du to_ w
  generalize tkNone ⟨id, con, st, lev, gen, fr, le, du, to_⟩ = no at *
  generalize tkSound ⟨id, con, st, lev, gen, fr, le, du, to_⟩ = so at *
  simp only at HT ⊢
  have HBk := Lib.hid (Blk.new w 35 #[.int .i64 code, .int .i64 time, .int .u64 id, .int .i64 con, .int .i64 st, .int .i64 lev, .int .u64 gen, .int .i64 fr, .int .i64 le, .int .i64 du, .int .i64 to_, .slice A n c, .int .u64 notice, .int .i64 dead])
  have HT0 := Lib.hid ((Touch.refl (fun _ => False) w).alloc (.cells #[.int .i64 code, .int .i64 time, .int .u64 id, .int .i64 con, .int .i64 st, .int .i64 lev, .int .u64 gen, .int .i64 fr, .int .i64 le, .int .i64 du, .int .i64 to_, .slice A n c, .int .u64 notice, .int .i64 dead] 35))
  by_cases hh : 0 ≤ code ∧ code ≤ 99 ∧ 0 ≤ time ∧ time ≤ 1125899906842624 ∧ n ≤ 64 ∧ 0 ≤ dead ∧ dead ≤ 128
  · rw [decide_eq_true hh, Bool.true_and] at HB
    obtain ⟨g1, g2, g3, g4, g5, g6, g7⟩ := hh
    have g5' : (n : Int) ≤ 64 := by omega
    cases no <;> cases so
    all_goals (
      go_enter Try.func46, Try.ntmps46
      go_wp2_with (
        go_at_call 65
        go_must (refine (HT.out _).mono ?_)
        rintro e w2 ⟨rfl, t2⟩
        have HT2 := Lib.hid t2
        have hbx := t2.blk HBk.out (fun e => e)
        have q11 := hbx.cell 11; have q13 := hbx.cell 13
        simp at q11 q13
        clear t2 hbx)
      all_goals (
        go_ret
        exact ⟨ret_bool (by rw [HB.out]; all_goals first | (simp; done) | (simp; omega) | omega), by first | exact HT0.out.trans HT2.out (fun _ _ e => e) | exact HT0.out⟩))
  · rw [decide_eq_false hh, Bool.false_and] at HB
    cases no <;> cases so
    all_goals (
      go_enter Try.func46, Try.ntmps46
      go_wp2_with (
        go_at_call 65
        go_must (refine (HT.out _).mono ?_)
        rintro e w2 ⟨rfl, t2⟩
        have HT2 := Lib.hid t2
        have hbx := t2.blk HBk.out (fun e => e)
        have q11 := hbx.cell 11; have q13 := hbx.cell 13
        simp at q11 q13
        clear t2 hbx)
      all_goals (
        go_ret
        exact ⟨ret_bool (by rw [HB.out]; all_goals first | (simp; done) | (simp; omega) | omega | (exfalso; omega)), by first | exact HT0.out.trans HT2.out (fun _ _ e => e) | exact HT0.out⟩))
end Go.Proofs.Ytmgmjehebbggaaa
end
