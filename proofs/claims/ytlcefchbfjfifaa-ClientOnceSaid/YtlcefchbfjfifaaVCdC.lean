/- command.only. (written by gencdc.py) -/
import Derived.Test.YtlcefchbfjfifaaVCdB
namespace Go.Proofs.Ytlcefchbfjfifaa
open Go.RowKit Cal
set_option maxHeartbeats 4000000
set_option maxRecDepth 100000
set_option linter.unusedVariables false
attribute [local irreducible] wpPlan

theorem only_N (kd cn at_ of tc rt bk : Int) (cl rq i p q r : Nat) (A B D : Option Addr) (k m n : Nat) (w : World) :
    Calls Try.prog 65 #[.agg #[.int .i64 kd, .int .u64 (cl : Int), .int .u64 (rq : Int), .int .u64 (i : Int), .int .i64 cn, .int .i64 at_, .int .i64 of, .slice A p k, .slice B q m, .int .i64 tc, .slice D r n, .int .i64 rt, .int .i64 bk], .agg #[.bool false, .bool false, .bool false, .bool false, .bool false]] w fun e w' => e = .returned (.agg #[.int .i64 kd, .int .u64 (cl : Int), .int .u64 (rq : Int), .int .u64 0, .int .i64 0, .int .i64 0, .int .i64 0, .slice none 0 0, .slice none 0 0, .int .i64 0, .slice none 0 0, .int .i64 0, .int .i64 0]) ∧ Touch (fun _ => False) w w' := by
  go_enter Try.func65, Try.ntmps65
  go_wp2
  exact bodyPost_ret (v := .agg #[.int .i64 kd, .int .u64 (cl : Int), .int .u64 (rq : Int), .int .u64 0, .int .i64 0, .int .i64 0, .int .i64 0, .slice none 0 0, .slice none 0 0, .int .i64 0, .slice none 0 0, .int .i64 0, .int .i64 0]) (by simp [results, Try.results65, go_sem]) rfl ⟨rfl, (((Touch.refl _ _).alloc _).alloc _).alloc _⟩
theorem only_T (kd cn at_ of tc rt bk : Int) (cl rq i p q r : Nat) (A B D : Option Addr) (k m n : Nat) (w : World) :
    Calls Try.prog 65 #[.agg #[.int .i64 kd, .int .u64 (cl : Int), .int .u64 (rq : Int), .int .u64 (i : Int), .int .i64 cn, .int .i64 at_, .int .i64 of, .slice A p k, .slice B q m, .int .i64 tc, .slice D r n, .int .i64 rt, .int .i64 bk], .agg #[.bool false, .bool false, .bool false, .bool false, .bool true]] w fun e w' => e = .returned (.agg #[.int .i64 kd, .int .u64 (cl : Int), .int .u64 (rq : Int), .int .u64 0, .int .i64 0, .int .i64 at_, .int .i64 0, .slice none 0 0, .slice none 0 0, .int .i64 0, .slice none 0 0, .int .i64 0, .int .i64 0]) ∧ Touch (fun _ => False) w w' := by
  go_enter Try.func65, Try.ntmps65
  go_wp2
  exact bodyPost_ret (v := .agg #[.int .i64 kd, .int .u64 (cl : Int), .int .u64 (rq : Int), .int .u64 0, .int .i64 0, .int .i64 at_, .int .i64 0, .slice none 0 0, .slice none 0 0, .int .i64 0, .slice none 0 0, .int .i64 0, .int .i64 0]) (by simp [results, Try.results65, go_sem]) rfl ⟨rfl, (((Touch.refl _ _).alloc _).alloc _).alloc _⟩
theorem only_C (kd cn at_ of tc rt bk : Int) (cl rq i p q r : Nat) (A B D : Option Addr) (k m n : Nat) (w : World) :
    Calls Try.prog 65 #[.agg #[.int .i64 kd, .int .u64 (cl : Int), .int .u64 (rq : Int), .int .u64 (i : Int), .int .i64 cn, .int .i64 at_, .int .i64 of, .slice A p k, .slice B q m, .int .i64 tc, .slice D r n, .int .i64 rt, .int .i64 bk], .agg #[.bool true, .bool true, .bool false, .bool false, .bool false]] w fun e w' => e = .returned (.agg #[.int .i64 kd, .int .u64 (cl : Int), .int .u64 (rq : Int), .int .u64 (i : Int), .int .i64 0, .int .i64 0, .int .i64 of, .slice A p k, .slice B q m, .int .i64 0, .slice none 0 0, .int .i64 0, .int .i64 0]) ∧ Touch (fun _ => False) w w' := by
  go_enter Try.func65, Try.ntmps65
  go_wp2
  exact bodyPost_ret (v := .agg #[.int .i64 kd, .int .u64 (cl : Int), .int .u64 (rq : Int), .int .u64 (i : Int), .int .i64 0, .int .i64 0, .int .i64 of, .slice A p k, .slice B q m, .int .i64 0, .slice none 0 0, .int .i64 0, .int .i64 0]) (by simp [results, Try.results65, go_sem]) rfl ⟨rfl, (((Touch.refl _ _).alloc _).alloc _).alloc _⟩
theorem only_M (kd cn at_ of tc rt bk : Int) (cl rq i p q r : Nat) (A B D : Option Addr) (k m n : Nat) (w : World) :
    Calls Try.prog 65 #[.agg #[.int .i64 kd, .int .u64 (cl : Int), .int .u64 (rq : Int), .int .u64 (i : Int), .int .i64 cn, .int .i64 at_, .int .i64 of, .slice A p k, .slice B q m, .int .i64 tc, .slice D r n, .int .i64 rt, .int .i64 bk], .agg #[.bool true, .bool false, .bool true, .bool false, .bool false]] w fun e w' => e = .returned (.agg #[.int .i64 kd, .int .u64 (cl : Int), .int .u64 (rq : Int), .int .u64 (i : Int), .int .i64 0, .int .i64 0, .int .i64 0, .slice none 0 0, .slice none 0 0, .int .i64 tc, .slice D r n, .int .i64 rt, .int .i64 bk]) ∧ Touch (fun _ => False) w w' := by
  go_enter Try.func65, Try.ntmps65
  go_wp2
  exact bodyPost_ret (v := .agg #[.int .i64 kd, .int .u64 (cl : Int), .int .u64 (rq : Int), .int .u64 (i : Int), .int .i64 0, .int .i64 0, .int .i64 0, .slice none 0 0, .slice none 0 0, .int .i64 tc, .slice D r n, .int .i64 rt, .int .i64 bk]) (by simp [results, Try.results65, go_sem]) rfl ⟨rfl, (((Touch.refl _ _).alloc _).alloc _).alloc _⟩
theorem only_O (kd cn at_ of tc rt bk : Int) (cl rq i p q r : Nat) (A B D : Option Addr) (k m n : Nat) (w : World) :
    Calls Try.prog 65 #[.agg #[.int .i64 kd, .int .u64 (cl : Int), .int .u64 (rq : Int), .int .u64 (i : Int), .int .i64 cn, .int .i64 at_, .int .i64 of, .slice A p k, .slice B q m, .int .i64 tc, .slice D r n, .int .i64 rt, .int .i64 bk], .agg #[.bool true, .bool false, .bool false, .bool true, .bool false]] w fun e w' => e = .returned (.agg #[.int .i64 kd, .int .u64 (cl : Int), .int .u64 (rq : Int), .int .u64 (i : Int), .int .i64 cn, .int .i64 0, .int .i64 0, .slice none 0 0, .slice none 0 0, .int .i64 0, .slice none 0 0, .int .i64 0, .int .i64 0]) ∧ Touch (fun _ => False) w w' := by
  go_enter Try.func65, Try.ntmps65
  go_wp2
  exact bodyPost_ret (v := .agg #[.int .i64 kd, .int .u64 (cl : Int), .int .u64 (rq : Int), .int .u64 (i : Int), .int .i64 cn, .int .i64 0, .int .i64 0, .slice none 0 0, .slice none 0 0, .int .i64 0, .slice none 0 0, .int .i64 0, .int .i64 0]) (by simp [results, Try.results65, go_sem]) rfl ⟨rfl, (((Touch.refl _ _).alloc _).alloc _).alloc _⟩
theorem only_I (kd cn at_ of tc rt bk : Int) (cl rq i p q r : Nat) (A B D : Option Addr) (k m n : Nat) (w : World) :
    Calls Try.prog 65 #[.agg #[.int .i64 kd, .int .u64 (cl : Int), .int .u64 (rq : Int), .int .u64 (i : Int), .int .i64 cn, .int .i64 at_, .int .i64 of, .slice A p k, .slice B q m, .int .i64 tc, .slice D r n, .int .i64 rt, .int .i64 bk], .agg #[.bool true, .bool false, .bool false, .bool false, .bool false]] w fun e w' => e = .returned (.agg #[.int .i64 kd, .int .u64 (cl : Int), .int .u64 (rq : Int), .int .u64 (i : Int), .int .i64 0, .int .i64 0, .int .i64 0, .slice none 0 0, .slice none 0 0, .int .i64 0, .slice none 0 0, .int .i64 0, .int .i64 0]) ∧ Touch (fun _ => False) w w' := by
  go_enter Try.func65, Try.ntmps65
  go_wp2
  exact bodyPost_ret (v := .agg #[.int .i64 kd, .int .u64 (cl : Int), .int .u64 (rq : Int), .int .u64 (i : Int), .int .i64 0, .int .i64 0, .int .i64 0, .slice none 0 0, .slice none 0 0, .int .i64 0, .slice none 0 0, .int .i64 0, .int .i64 0]) (by simp [results, Try.results65, go_sem]) rfl ⟨rfl, (((Touch.refl _ _).alloc _).alloc _).alloc _⟩
/-- A command with just the fields of its kind, as a result. -/
def OnlyPost (c : Cm) (A B D : Option Addr) (k m n : Nat) (w : World) (e : Ending) (w' : World) : Prop :=
  (∃ A' B' D' k' m' n', e = .returned (.agg #[.int .i64 (kept c).kind, .int .u64 (kept c).client, .int .u64 (kept c).req, .int .u64 (kept c).id, .int .i64 (kept c).con, .int .i64 (kept c).at_, .int .i64 (kept c).cal.off, .slice A' (kept c).cal.wk.length k', .slice B' (kept c).cal.cl.length m', .int .i64 (kept c).tm.cal, .slice D' (kept c).tm.lv.length n', .int .i64 (kept c).tm.rt, .int .i64 (kept c).tm.bk]) ∧ ∀ w1 F, CmR w1 F c A B D → CmR w1 F (kept c) A' B' D') ∧ Touch (fun _ => False) w w'
theorem SpR.zero (w : World) (F : Nat → Prop) : SpR w F none ([] : List Sp).length [] := SpR.nil _ _ _
theorem only_any (c : Cm) (A B D : Option Addr) (k m n : Nat) (w : World) (hn : named c.kind = true) :
    Calls Try.prog 65 #[.agg #[.int .i64 c.kind, .int .u64 c.client, .int .u64 c.req, .int .u64 c.id, .int .i64 c.con, .int .i64 c.at_, .int .i64 c.cal.off, .slice A c.cal.wk.length k, .slice B c.cal.cl.length m, .int .i64 c.tm.cal, .slice D c.tm.lv.length n, .int .i64 c.tm.rt, .int .i64 c.tm.bk], .agg #[.bool (fid c.kind), .bool (fcal c.kind), .bool (ftm c.kind), .bool (fcon c.kind), .bool (fat c.kind)]] w (OnlyPost c A B D k m n w) := by
  obtain ⟨kd, cl, rq, i, cn, at_, ⟨of, wk, cs⟩, ⟨tc, lv, rt, bk⟩⟩ := c
  simp only at hn ⊢
  rcases kinds kd with h | rfl | rfl | rfl | rfl | rfl | h
  · rw [h] at hn; cases hn
  · have hk : kept ⟨1, cl, rq, i, cn, at_, ⟨of, wk, cs⟩, ⟨tc, lv, rt, bk⟩⟩ = ⟨1, cl, rq, 0, 0, 0, caZ, coZ⟩ := rfl
    refine (only_N 1 cn at_ of tc rt bk cl rq i wk.length cs.length lv.length A B D k m n w).mono ?_
    rintro e w1 ⟨rfl, t⟩
    exact ⟨⟨none, none, none, 0, 0, 0, by rw [hk]; rfl, fun w1 F h => by rw [hk]; exact ⟨CaR.zero _ _, SpR.zero _ _⟩⟩, t⟩
  · have hk : kept ⟨2, cl, rq, i, cn, at_, ⟨of, wk, cs⟩, ⟨tc, lv, rt, bk⟩⟩ = ⟨2, cl, rq, i, 0, 0, ⟨of, wk, cs⟩, coZ⟩ := rfl
    refine (only_C 2 cn at_ of tc rt bk cl rq i wk.length cs.length lv.length A B D k m n w).mono ?_
    rintro e w1 ⟨rfl, t⟩
    exact ⟨⟨A, B, none, k, m, 0, by rw [hk]; rfl, fun w1 F h => by rw [hk]; exact ⟨h.cal, SpR.zero _ _⟩⟩, t⟩
  · have hk : kept ⟨3, cl, rq, i, cn, at_, ⟨of, wk, cs⟩, ⟨tc, lv, rt, bk⟩⟩ = ⟨3, cl, rq, i, 0, 0, caZ, ⟨tc, lv, rt, bk⟩⟩ := rfl
    refine (only_M 3 cn at_ of tc rt bk cl rq i wk.length cs.length lv.length A B D k m n w).mono ?_
    rintro e w1 ⟨rfl, t⟩
    exact ⟨⟨none, none, D, 0, 0, n, by rw [hk]; rfl, fun w1 F h => by rw [hk]; exact ⟨CaR.zero _ _, h.tm⟩⟩, t⟩
  · have hk : kept ⟨4, cl, rq, i, cn, at_, ⟨of, wk, cs⟩, ⟨tc, lv, rt, bk⟩⟩ = ⟨4, cl, rq, i, cn, 0, caZ, coZ⟩ := rfl
    refine (only_O 4 cn at_ of tc rt bk cl rq i wk.length cs.length lv.length A B D k m n w).mono ?_
    rintro e w1 ⟨rfl, t⟩
    exact ⟨⟨none, none, none, 0, 0, 0, by rw [hk]; rfl, fun w1 F h => by rw [hk]; exact ⟨CaR.zero _ _, SpR.zero _ _⟩⟩, t⟩
  · have hk : kept ⟨9, cl, rq, i, cn, at_, ⟨of, wk, cs⟩, ⟨tc, lv, rt, bk⟩⟩ = ⟨9, cl, rq, 0, 0, at_, caZ, coZ⟩ := rfl
    refine (only_T 9 cn at_ of tc rt bk cl rq i wk.length cs.length lv.length A B D k m n w).mono ?_
    rintro e w1 ⟨rfl, t⟩
    exact ⟨⟨none, none, none, 0, 0, 0, by rw [hk]; rfl, fun w1 F h => by rw [hk]; exact ⟨CaR.zero _ _, SpR.zero _ _⟩⟩, t⟩
  · obtain ⟨-, e1, e2, e3, e4, e5⟩ := flds_id h
    have hk : kept ⟨kd, cl, rq, i, cn, at_, ⟨of, wk, cs⟩, ⟨tc, lv, rt, bk⟩⟩ = ⟨kd, cl, rq, i, 0, 0, caZ, coZ⟩ := by simp only [kept, e1, e2, e3, e4, e5, cond_true, cond_false]
    rw [e1, e2, e3, e4, e5]
    refine (only_I kd cn at_ of tc rt bk cl rq i wk.length cs.length lv.length A B D k m n w).mono ?_
    rintro e w1 ⟨rfl, t⟩
    exact ⟨⟨none, none, none, 0, 0, 0, by rw [hk]; rfl, fun w1 F h => by rw [hk]; exact ⟨CaR.zero _ _, SpR.zero _ _⟩⟩, t⟩
end Go.Proofs.Ytlcefchbfjfifaa
