/- command.Same, ref18.Same. (written by gencdb.py) -/
import Derived.Test.YtlcefchbfjfifaaVCcA
import Derived.ChangeKeysEq
namespace Go.Proofs.Ytlcefchbfjfifaa
open Go.RowKit Cal
set_option maxHeartbeats 4000000
set_option maxRecDepth 100000
set_option linter.unusedVariables false
attribute [local irreducible] wpPlan

theorem info22 : (Try.prog.info? 27).isSome = true := by kernel_rfl
theorem plain22 : Try.prog.plainKey 27 = true := by kernel_rfl
theorem cells22 : Try.prog.cellsOf 27 = 1 := by kernel_rfl
theorem eql4 (a b c d a' b' c' d' : Int) (w : World) : (binOp .eql 151 (.agg #[.int .u64 a, .int .u64 b, .int .u64 c, .int .u64 d]) (.agg #[.int .u64 a', .int .u64 b', .int .u64 c', .int .u64 d'])).run Try.prog w = .ok (.bool (a == a' && (b == b' && (c == c' && d == d')))) w := by
  obtain ⟨i, hi⟩ := Option.isSome_iff_exists.1 info22
  have h : (Op.equal 151 (.agg #[.int .u64 a, .int .u64 b, .int .u64 c, .int .u64 d]) (.agg #[.int .u64 a', .int .u64 b', .int .u64 c', .int .u64 d'])).run Try.prog w = .ok (a == a' && (b == b' && (c == c' && d == d'))) w := by
    rw [show Op.equal 151 = Op.equalIn (9999 + 1) 151 from rfl, run_equalIn_array w 9999 _ _ Try.underlying151 hi]
    have p0 : ∀ x y z u : Value, (part 27 #[x, y, z, u] (0 * 1)).run Try.prog w = .ok x w := fun x y z u => run_part_plain w plain22 rfl
    have p1 : ∀ x y z u : Value, (part 27 #[x, y, z, u] (1 * 1)).run Try.prog w = .ok y w := fun x y z u => run_part_plain w plain22 rfl
    have p2 : ∀ x y z u : Value, (part 27 #[x, y, z, u] (2 * 1)).run Try.prog w = .ok z w := fun x y z u => run_part_plain w plain22 rfl
    have p3 : ∀ x y z u : Value, (part 27 #[x, y, z, u] (3 * 1)).run Try.prog w = .ok u w := fun x y z u => run_part_plain w plain22 rfl
    have he : ∀ x y : Int, (Op.equalIn 9999 27 (.int .u64 x) (.int .u64 y)).run Try.prog w = .ok (x == y) w := fun x y => run_equalIn_int w 9998 27 _ _ x y Try.underlying27
    rw [show List.range 4 = [0, 1, 2, 3] from rfl, cells22]
    simp only [Op.eqItems, Sem.run_bind, p0, Result.andThen_ok, he]
    cases a == a'
    · rfl
    simp only [Bool.not_true, Bool.false_eq_true, if_false, Sem.run_bind, p1, Result.andThen_ok, he, Bool.true_and]
    cases b == b'
    · rfl
    simp only [Bool.not_true, Bool.false_eq_true, if_false, Sem.run_bind, p2, Result.andThen_ok, he, Bool.true_and]
    cases c == c'
    · rfl
    simp only [Bool.not_true, Bool.false_eq_true, if_false, Sem.run_bind, p3, Result.andThen_ok, he, Bool.true_and]
    cases d == d' <;> rfl
  simp [binOp, h]
theorem wrap_inj {a b : Int} (ha : -9223372036854775808 ≤ a ∧ a ≤ 9223372036854775807) (hb : -9223372036854775808 ≤ b ∧ b ≤ 9223372036854775807) (h : IntKind.u64.wrap a = IntKind.u64.wrap b) : a = b := by
  simp [IntKind.wrap, IntKind.signed, IntKind.bits] at h
  omega
theorem cmsame_any (F F' : Nat → Prop) (A B D A' B' D' : Option Addr) (k m n k' m' n' : Nat) (a b : Cm) (w : World) (hr : CmR w F a A B D) (hr' : CmR w F' b A' B' D') (h1 : a.cal.wk.length ≤ 1000000) (h2 : a.cal.cl.length ≤ 1000000) (h3 : a.tm.lv.length ≤ 1000000)
    (ha : -9223372036854775808 ≤ a.at_ ∧ a.at_ ≤ 9223372036854775807) (hb : -9223372036854775808 ≤ b.at_ ∧ b.at_ ≤ 9223372036854775807) :
    Calls Try.prog 64 #[.agg #[.int .i64 a.kind, .int .u64 a.client, .int .u64 a.req, .int .u64 a.id, .int .i64 a.con, .int .i64 a.at_, .int .i64 a.cal.off, .slice A a.cal.wk.length k, .slice B a.cal.cl.length m, .int .i64 a.tm.cal, .slice D a.tm.lv.length n, .int .i64 a.tm.rt, .int .i64 a.tm.bk], .agg #[.int .i64 b.kind, .int .u64 b.client, .int .u64 b.req, .int .u64 b.id, .int .i64 b.con, .int .i64 b.at_, .int .i64 b.cal.off, .slice A' b.cal.wk.length k', .slice B' b.cal.cl.length m', .int .i64 b.tm.cal, .slice D' b.tm.lv.length n', .int .i64 b.tm.rt, .int .i64 b.tm.bk]] w fun e w' => e = .returned (.bool (sameCm a b)) ∧ Touch (fun _ => False) w w' := by
  have HV := Lib.hid (show sameCm a b = (decide (a.kind = b.kind) && decide (a.client = b.client) && decide (a.req = b.req) && decide (a.id = b.id) && decide (a.at_ = b.at_) && decide (a.con = b.con) && sameC a.cal b.cal && sameK a.tm b.tm) from rfl)
  have HC := Lib.hid (fun w1 h h' => csame_any F F' A B A' B' k m k' m' a.cal b.cal w1 h h' h1 h2)
  have HK := Lib.hid (fun w1 h h' => ksame_any F F' D D' n n' a.tm b.tm w1 h h' h3)
  have HR := Lib.hid hr
  have HR' := Lib.hid hr'
  generalize sameCm a b = v at *
  generalize sameC a.cal b.cal = vc at *
  generalize sameK a.tm b.tm = vk at *
  have HRc := Lib.hid (And.intro hr.cal hr'.cal)
  have HRt := Lib.hid (And.intro hr.tm hr'.tm)
  clear hr hr' HR HR'
  obtain ⟨kd, cl, rq, i, cn, at_, ⟨of, wk, cs⟩, ⟨tc, lv, rt, bk⟩⟩ := a
  obtain ⟨kd', cl', rq', i', cn', at', ⟨of', wk', cs'⟩, ⟨tc', lv', rt', bk'⟩⟩ := b
  simp only at *
  by_cases hq : kd = kd'
  rotate_left
  · have HV2 := Lib.hid (show v = false by rw [HV.out]; simp [hq])
    have e1 : (kd == kd') = false := by simpa using hq
    clear HV HC HK hq
    go_enter Try.func64, Try.ntmps64
    go_wp2
    go_ret
    exact ⟨ret_bool HV2.out.symm, ((((Touch.refl _ _).alloc _).alloc _).alloc _).alloc _⟩
  subst hq
  by_cases hq : cl = cl'
  rotate_left
  · have HV2 := Lib.hid (show v = false by rw [HV.out]; simp [hq])
    have e1 : ((cl : Int) == (cl' : Int)) = false := by simp; omega
    have e2 : ((cl : Int) != (cl' : Int)) = true := by simp; omega
    have hbin : ∀ w, (binOp .eql 151 (.agg #[.int .u64 (cl : Int), .int .u64 (rq : Int), .int .u64 (i : Int), .int .u64 (IntKind.u64.wrap at_)]) (.agg #[.int .u64 (cl' : Int), .int .u64 (rq' : Int), .int .u64 (i' : Int), .int .u64 (IntKind.u64.wrap at')])).run Try.prog w = .ok (.bool false) w := fun w => by rw [eql4]; simp [e1]
    clear HV HC HK hq
    go_enter Try.func64, Try.ntmps64
    go_wp2
    go_ret
    exact ⟨ret_bool HV2.out.symm, ((((Touch.refl _ _).alloc _).alloc _).alloc _).alloc _⟩
  subst hq
  by_cases hq : rq = rq'
  rotate_left
  · have HV2 := Lib.hid (show v = false by rw [HV.out]; simp [hq])
    have e1 : ((rq : Int) == (rq' : Int)) = false := by simp; omega
    have e2 : ((rq : Int) != (rq' : Int)) = true := by simp; omega
    have hbin : ∀ w, (binOp .eql 151 (.agg #[.int .u64 (cl : Int), .int .u64 (rq : Int), .int .u64 (i : Int), .int .u64 (IntKind.u64.wrap at_)]) (.agg #[.int .u64 (cl : Int), .int .u64 (rq' : Int), .int .u64 (i' : Int), .int .u64 (IntKind.u64.wrap at')])).run Try.prog w = .ok (.bool false) w := fun w => by rw [eql4]; simp [e1]
    clear HV HC HK hq
    go_enter Try.func64, Try.ntmps64
    go_wp2
    go_ret
    exact ⟨ret_bool HV2.out.symm, ((((Touch.refl _ _).alloc _).alloc _).alloc _).alloc _⟩
  subst hq
  by_cases hq : i = i'
  rotate_left
  · have HV2 := Lib.hid (show v = false by rw [HV.out]; simp [hq])
    have e1 : ((i : Int) == (i' : Int)) = false := by simp; omega
    have e2 : ((i : Int) != (i' : Int)) = true := by simp; omega
    have hbin : ∀ w, (binOp .eql 151 (.agg #[.int .u64 (cl : Int), .int .u64 (rq : Int), .int .u64 (i : Int), .int .u64 (IntKind.u64.wrap at_)]) (.agg #[.int .u64 (cl : Int), .int .u64 (rq : Int), .int .u64 (i' : Int), .int .u64 (IntKind.u64.wrap at')])).run Try.prog w = .ok (.bool false) w := fun w => by rw [eql4]; simp [e1]
    clear HV HC HK hq
    go_enter Try.func64, Try.ntmps64
    go_wp2
    go_ret
    exact ⟨ret_bool HV2.out.symm, ((((Touch.refl _ _).alloc _).alloc _).alloc _).alloc _⟩
  subst hq
  by_cases hq : at_ = at'
  rotate_left
  · have HV2 := Lib.hid (show v = false by rw [HV.out]; simp [hq])
    have e0 : (IntKind.u64.wrap at_ == IntKind.u64.wrap at') = false := by
      simp only [beq_eq_false_iff_ne, ne_eq]
      exact fun e => hq (wrap_inj ha hb e)
    have e1 : (at_ == at') = false := by simpa using hq
    have hbin : ∀ w, (binOp .eql 151 (.agg #[.int .u64 (cl : Int), .int .u64 (rq : Int), .int .u64 (i : Int), .int .u64 (IntKind.u64.wrap at_)]) (.agg #[.int .u64 (cl : Int), .int .u64 (rq : Int), .int .u64 (i : Int), .int .u64 (IntKind.u64.wrap at')])).run Try.prog w = .ok (.bool false) w := fun w => by rw [eql4]; simp [e0]
    clear HV HC HK hq
    go_enter Try.func64, Try.ntmps64
    go_wp2
    go_ret
    exact ⟨ret_bool HV2.out.symm, ((((Touch.refl _ _).alloc _).alloc _).alloc _).alloc _⟩
  subst hq
  by_cases hq : cn = cn'
  rotate_left
  · have HV2 := Lib.hid (show v = false by rw [HV.out]; simp [hq])
    have e1 : (cn == cn') = false := by simpa using hq
    have hbin : ∀ w, (binOp .eql 151 (.agg #[.int .u64 (cl : Int), .int .u64 (rq : Int), .int .u64 (i : Int), .int .u64 (IntKind.u64.wrap at_)]) (.agg #[.int .u64 (cl : Int), .int .u64 (rq : Int), .int .u64 (i : Int), .int .u64 (IntKind.u64.wrap at_)])).run Try.prog w = .ok (.bool true) w := fun w => by rw [eql4]; simp
    clear HV HC HK hq
    go_enter Try.func64, Try.ntmps64
    go_wp2
    go_ret
    exact ⟨ret_bool HV2.out.symm, ((((Touch.refl _ _).alloc _).alloc _).alloc _).alloc _⟩
  subst hq
  have HV2 := Lib.hid (show v = (vc && vk) by rw [HV.out]; simp)
  clear HV
  have HT := Lib.hid (show Touch (fun _ => False) w ((((w.alloc (.cells #[.int .i64 kd, .int .u64 cl, .int .u64 rq, .int .u64 i, .int .i64 cn, .int .i64 at_, .int .i64 of, .slice A wk.length k, .slice B cs.length m, .int .i64 tc, .slice D lv.length n, .int .i64 rt, .int .i64 bk] 35)).alloc (.cells #[.int .i64 kd, .int .u64 cl, .int .u64 rq, .int .u64 i, .int .i64 cn, .int .i64 at_, .int .i64 of', .slice A' wk'.length k', .slice B' cs'.length m', .int .i64 tc', .slice D' lv'.length n', .int .i64 rt', .int .i64 bk'] 35)).alloc (.cells #[.int .u64 (cl : Int), .int .u64 (rq : Int), .int .u64 (i : Int), .int .u64 (IntKind.u64.wrap at_)] 151)).alloc (.cells #[.int .u64 (cl : Int), .int .u64 (rq : Int), .int .u64 (i : Int), .int .u64 (IntKind.u64.wrap at_)] 151)) from ((((Touch.refl _ _).alloc _).alloc _).alloc _).alloc _)
  have HX := Lib.hid (show Blk ((((w.alloc (.cells #[.int .i64 kd, .int .u64 cl, .int .u64 rq, .int .u64 i, .int .i64 cn, .int .i64 at_, .int .i64 of, .slice A wk.length k, .slice B cs.length m, .int .i64 tc, .slice D lv.length n, .int .i64 rt, .int .i64 bk] 35)).alloc (.cells #[.int .i64 kd, .int .u64 cl, .int .u64 rq, .int .u64 i, .int .i64 cn, .int .i64 at_, .int .i64 of', .slice A' wk'.length k', .slice B' cs'.length m', .int .i64 tc', .slice D' lv'.length n', .int .i64 rt', .int .i64 bk'] 35)).alloc (.cells #[.int .u64 (cl : Int), .int .u64 (rq : Int), .int .u64 (i : Int), .int .u64 (IntKind.u64.wrap at_)] 151)).alloc (.cells #[.int .u64 (cl : Int), .int .u64 (rq : Int), .int .u64 (i : Int), .int .u64 (IntKind.u64.wrap at_)] 151)) w.heap.size 35 #[.int .i64 kd, .int .u64 cl, .int .u64 rq, .int .u64 i, .int .i64 cn, .int .i64 at_, .int .i64 of, .slice A wk.length k, .slice B cs.length m, .int .i64 tc, .slice D lv.length n, .int .i64 rt, .int .i64 bk] from (((Blk.new w 35 #[.int .i64 kd, .int .u64 cl, .int .u64 rq, .int .u64 i, .int .i64 cn, .int .i64 at_, .int .i64 of, .slice A wk.length k, .slice B cs.length m, .int .i64 tc, .slice D lv.length n, .int .i64 rt, .int .i64 bk]).alloc (.cells #[.int .i64 kd, .int .u64 cl, .int .u64 rq, .int .u64 i, .int .i64 cn, .int .i64 at_, .int .i64 of', .slice A' wk'.length k', .slice B' cs'.length m', .int .i64 tc', .slice D' lv'.length n', .int .i64 rt', .int .i64 bk'] 35)).alloc (.cells #[.int .u64 (cl : Int), .int .u64 (rq : Int), .int .u64 (i : Int), .int .u64 (IntKind.u64.wrap at_)] 151)).alloc (.cells #[.int .u64 (cl : Int), .int .u64 (rq : Int), .int .u64 (i : Int), .int .u64 (IntKind.u64.wrap at_)] 151))
  have HY := Lib.hid (show Blk ((((w.alloc (.cells #[.int .i64 kd, .int .u64 cl, .int .u64 rq, .int .u64 i, .int .i64 cn, .int .i64 at_, .int .i64 of, .slice A wk.length k, .slice B cs.length m, .int .i64 tc, .slice D lv.length n, .int .i64 rt, .int .i64 bk] 35)).alloc (.cells #[.int .i64 kd, .int .u64 cl, .int .u64 rq, .int .u64 i, .int .i64 cn, .int .i64 at_, .int .i64 of', .slice A' wk'.length k', .slice B' cs'.length m', .int .i64 tc', .slice D' lv'.length n', .int .i64 rt', .int .i64 bk'] 35)).alloc (.cells #[.int .u64 (cl : Int), .int .u64 (rq : Int), .int .u64 (i : Int), .int .u64 (IntKind.u64.wrap at_)] 151)).alloc (.cells #[.int .u64 (cl : Int), .int .u64 (rq : Int), .int .u64 (i : Int), .int .u64 (IntKind.u64.wrap at_)] 151)) (w.heap.size + 1) 35 #[.int .i64 kd, .int .u64 cl, .int .u64 rq, .int .u64 i, .int .i64 cn, .int .i64 at_, .int .i64 of', .slice A' wk'.length k', .slice B' cs'.length m', .int .i64 tc', .slice D' lv'.length n', .int .i64 rt', .int .i64 bk'] by simpa using (((Blk.new (w.alloc (.cells #[.int .i64 kd, .int .u64 cl, .int .u64 rq, .int .u64 i, .int .i64 cn, .int .i64 at_, .int .i64 of, .slice A wk.length k, .slice B cs.length m, .int .i64 tc, .slice D lv.length n, .int .i64 rt, .int .i64 bk] 35)) 35 #[.int .i64 kd, .int .u64 cl, .int .u64 rq, .int .u64 i, .int .i64 cn, .int .i64 at_, .int .i64 of', .slice A' wk'.length k', .slice B' cs'.length m', .int .i64 tc', .slice D' lv'.length n', .int .i64 rt', .int .i64 bk'])).alloc (.cells #[.int .u64 (cl : Int), .int .u64 (rq : Int), .int .u64 (i : Int), .int .u64 (IntKind.u64.wrap at_)] 151)).alloc (.cells #[.int .u64 (cl : Int), .int .u64 (rq : Int), .int .u64 (i : Int), .int .u64 (IntKind.u64.wrap at_)] 151))
  have hbin : ∀ w, (binOp .eql 151 (.agg #[.int .u64 (cl : Int), .int .u64 (rq : Int), .int .u64 (i : Int), .int .u64 (IntKind.u64.wrap at_)]) (.agg #[.int .u64 (cl : Int), .int .u64 (rq : Int), .int .u64 (i : Int), .int .u64 (IntKind.u64.wrap at_)])).run Try.prog w = .ok (.bool true) w := fun w => by rw [eql4]; simp
  cases vc
  · go_enter Try.func64, Try.ntmps64
    go_wp2_with (first
      | (go_at_call 79; go_must (refine (HC.out _ (by exact HRc.out.1.touch HT.out (fun _ _ e => e)) (by exact HRc.out.2.touch HT.out (fun _ _ e => e))).mono ?_); rintro e w1 ⟨rfl, t1⟩; have HT1 := Lib.hid (HT.out.trans t1 (fun _ _ e => e)); have hx := t1.blk HX.out (fun e => e); have hy := t1.blk HY.out (fun e => e); have x9 := hx.cell 9; have x10 := hx.cell 10; have x11 := hx.cell 11; have x12 := hx.cell 12; have y9 := hy.cell 9; have y10 := hy.cell 10; have y11 := hy.cell 11; have y12 := hy.cell 12; simp at x9 x10 x11 x12 y9 y10 y11 y12; clear t1 hx hy))
    go_ret
    exact ⟨ret_bool HV2.out.symm, HT1.out⟩
  · go_enter Try.func64, Try.ntmps64
    go_wp2_with (first
      | (go_at_call 80; go_must (refine (HK.out _ (by exact HRt.out.1.touch HT1.out (fun _ _ e => e)) (by exact HRt.out.2.touch HT1.out (fun _ _ e => e))).mono ?_); rintro e w2 ⟨rfl, t2⟩; have HT2 := Lib.hid (HT1.out.trans t2 (fun _ _ e => e)); clear t2)
      | (go_at_call 79; go_must (refine (HC.out _ (by exact HRc.out.1.touch HT.out (fun _ _ e => e)) (by exact HRc.out.2.touch HT.out (fun _ _ e => e))).mono ?_); rintro e w1 ⟨rfl, t1⟩; have HT1 := Lib.hid (HT.out.trans t1 (fun _ _ e => e)); have hx := t1.blk HX.out (fun e => e); have hy := t1.blk HY.out (fun e => e); have x9 := hx.cell 9; have x10 := hx.cell 10; have x11 := hx.cell 11; have x12 := hx.cell 12; have y9 := hy.cell 9; have y10 := hy.cell 10; have y11 := hy.cell 11; have y12 := hy.cell 12; simp at x9 x10 x11 x12 y9 y10 y11 y12; clear t1 hx hy))
    go_ret
    exact ⟨ret_bool HV2.out.symm, HT2.out⟩
theorem fcmsame_any (F F' : Nat → Prop) (A B D A' B' D' : Option Addr) (k m n k' m' n' : Nat) (a b : Cm) (w : World) (hr : CmR w F a A B D) (hr' : CmR w F' b A' B' D') (h1 : a.cal.wk.length ≤ 1000000) (h2 : a.cal.cl.length ≤ 1000000) (h3 : a.tm.lv.length ≤ 1000000)
    (ha : -9223372036854775808 ≤ a.at_ ∧ a.at_ ≤ 9223372036854775807) (hb : -9223372036854775808 ≤ b.at_ ∧ b.at_ ≤ 9223372036854775807) :
    Calls Try.prog 12 #[.agg #[.int .i64 a.kind, .int .u64 a.client, .int .u64 a.req, .int .u64 a.id, .int .i64 a.con, .int .i64 a.at_, .int .i64 a.cal.off, .slice A a.cal.wk.length k, .slice B a.cal.cl.length m, .int .i64 a.tm.cal, .slice D a.tm.lv.length n, .int .i64 a.tm.rt, .int .i64 a.tm.bk], .agg #[.int .i64 b.kind, .int .u64 b.client, .int .u64 b.req, .int .u64 b.id, .int .i64 b.con, .int .i64 b.at_, .int .i64 b.cal.off, .slice A' b.cal.wk.length k', .slice B' b.cal.cl.length m', .int .i64 b.tm.cal, .slice D' b.tm.lv.length n', .int .i64 b.tm.rt, .int .i64 b.tm.bk]] w fun e w' => e = .returned (.bool (sameCm a b)) ∧ Touch (fun _ => False) w w' := by
  have HV := Lib.hid (show sameCm a b = (decide (a.kind = b.kind) && decide (a.client = b.client) && decide (a.req = b.req) && decide (a.id = b.id) && decide (a.at_ = b.at_) && decide (a.con = b.con) && sameC a.cal b.cal && sameK a.tm b.tm) from rfl)
  have HC := Lib.hid (fun w1 h h' => fcsame_any F F' A B A' B' k m k' m' a.cal b.cal w1 h h' h1 h2)
  have HK := Lib.hid (fun w1 h h' => fksame_any F F' D D' n n' a.tm b.tm w1 h h' h3)
  have HR := Lib.hid hr
  have HR' := Lib.hid hr'
  generalize sameCm a b = v at *
  generalize sameC a.cal b.cal = vc at *
  generalize sameK a.tm b.tm = vk at *
  have HRc := Lib.hid (And.intro hr.cal hr'.cal)
  have HRt := Lib.hid (And.intro hr.tm hr'.tm)
  clear hr hr' HR HR'
  obtain ⟨kd, cl, rq, i, cn, at_, ⟨of, wk, cs⟩, ⟨tc, lv, rt, bk⟩⟩ := a
  obtain ⟨kd', cl', rq', i', cn', at', ⟨of', wk', cs'⟩, ⟨tc', lv', rt', bk'⟩⟩ := b
  simp only at *
  by_cases hq : kd = kd'
  rotate_left
  · have HV2 := Lib.hid (show v = false by rw [HV.out]; simp [hq])
    have e1 : (kd == kd') = false := by simpa using hq
    clear HV HC HK hq
    go_enter Try.func12, Try.ntmps12
    go_wp2
    go_ret
    exact ⟨ret_bool HV2.out.symm, ((Touch.refl _ _).alloc _).alloc _⟩
  subst hq
  by_cases hq : cl = cl'
  rotate_left
  · have HV2 := Lib.hid (show v = false by rw [HV.out]; simp [hq])
    have e1 : ((cl : Int) == (cl' : Int)) = false := by simp; omega
    have e2 : ((cl : Int) != (cl' : Int)) = true := by simp; omega
    clear HV HC HK hq
    go_enter Try.func12, Try.ntmps12
    go_wp2
    go_ret
    exact ⟨ret_bool HV2.out.symm, ((Touch.refl _ _).alloc _).alloc _⟩
  subst hq
  by_cases hq : rq = rq'
  rotate_left
  · have HV2 := Lib.hid (show v = false by rw [HV.out]; simp [hq])
    have e1 : ((rq : Int) == (rq' : Int)) = false := by simp; omega
    have e2 : ((rq : Int) != (rq' : Int)) = true := by simp; omega
    clear HV HC HK hq
    go_enter Try.func12, Try.ntmps12
    go_wp2
    go_ret
    exact ⟨ret_bool HV2.out.symm, ((Touch.refl _ _).alloc _).alloc _⟩
  subst hq
  by_cases hq : i = i'
  rotate_left
  · have HV2 := Lib.hid (show v = false by rw [HV.out]; simp [hq])
    have e1 : ((i : Int) == (i' : Int)) = false := by simp; omega
    have e2 : ((i : Int) != (i' : Int)) = true := by simp; omega
    clear HV HC HK hq
    go_enter Try.func12, Try.ntmps12
    go_wp2
    go_ret
    exact ⟨ret_bool HV2.out.symm, ((Touch.refl _ _).alloc _).alloc _⟩
  subst hq
  by_cases hq : cn = cn'
  rotate_left
  · have HV2 := Lib.hid (show v = false by rw [HV.out]; simp [hq])
    have e1 : (cn == cn') = false := by simpa using hq
    clear HV HC HK hq
    go_enter Try.func12, Try.ntmps12
    go_wp2
    go_ret
    exact ⟨ret_bool HV2.out.symm, ((Touch.refl _ _).alloc _).alloc _⟩
  subst hq
  by_cases hq : at_ = at'
  rotate_left
  · have HV2 := Lib.hid (show v = false by rw [HV.out]; simp [hq])
    have e0 : (IntKind.u64.wrap at_ == IntKind.u64.wrap at') = false := by
      simp only [beq_eq_false_iff_ne, ne_eq]
      exact fun e => hq (wrap_inj ha hb e)
    have e1 : (at_ == at') = false := by simpa using hq
    clear HV HC HK hq
    go_enter Try.func12, Try.ntmps12
    go_wp2
    go_ret
    exact ⟨ret_bool HV2.out.symm, ((Touch.refl _ _).alloc _).alloc _⟩
  subst hq
  have HV2 := Lib.hid (show v = (vc && vk) by rw [HV.out]; simp)
  clear HV
  have HT := Lib.hid (show Touch (fun _ => False) w ((w.alloc (.cells #[.int .i64 kd, .int .u64 cl, .int .u64 rq, .int .u64 i, .int .i64 cn, .int .i64 at_, .int .i64 of, .slice A wk.length k, .slice B cs.length m, .int .i64 tc, .slice D lv.length n, .int .i64 rt, .int .i64 bk] 35)).alloc (.cells #[.int .i64 kd, .int .u64 cl, .int .u64 rq, .int .u64 i, .int .i64 cn, .int .i64 at_, .int .i64 of', .slice A' wk'.length k', .slice B' cs'.length m', .int .i64 tc', .slice D' lv'.length n', .int .i64 rt', .int .i64 bk'] 35)) from ((Touch.refl _ _).alloc _).alloc _)
  have HX := Lib.hid (show Blk ((w.alloc (.cells #[.int .i64 kd, .int .u64 cl, .int .u64 rq, .int .u64 i, .int .i64 cn, .int .i64 at_, .int .i64 of, .slice A wk.length k, .slice B cs.length m, .int .i64 tc, .slice D lv.length n, .int .i64 rt, .int .i64 bk] 35)).alloc (.cells #[.int .i64 kd, .int .u64 cl, .int .u64 rq, .int .u64 i, .int .i64 cn, .int .i64 at_, .int .i64 of', .slice A' wk'.length k', .slice B' cs'.length m', .int .i64 tc', .slice D' lv'.length n', .int .i64 rt', .int .i64 bk'] 35)) w.heap.size 35 #[.int .i64 kd, .int .u64 cl, .int .u64 rq, .int .u64 i, .int .i64 cn, .int .i64 at_, .int .i64 of, .slice A wk.length k, .slice B cs.length m, .int .i64 tc, .slice D lv.length n, .int .i64 rt, .int .i64 bk] from (Blk.new w 35 #[.int .i64 kd, .int .u64 cl, .int .u64 rq, .int .u64 i, .int .i64 cn, .int .i64 at_, .int .i64 of, .slice A wk.length k, .slice B cs.length m, .int .i64 tc, .slice D lv.length n, .int .i64 rt, .int .i64 bk]).alloc (.cells #[.int .i64 kd, .int .u64 cl, .int .u64 rq, .int .u64 i, .int .i64 cn, .int .i64 at_, .int .i64 of', .slice A' wk'.length k', .slice B' cs'.length m', .int .i64 tc', .slice D' lv'.length n', .int .i64 rt', .int .i64 bk'] 35))
  have HY := Lib.hid (show Blk ((w.alloc (.cells #[.int .i64 kd, .int .u64 cl, .int .u64 rq, .int .u64 i, .int .i64 cn, .int .i64 at_, .int .i64 of, .slice A wk.length k, .slice B cs.length m, .int .i64 tc, .slice D lv.length n, .int .i64 rt, .int .i64 bk] 35)).alloc (.cells #[.int .i64 kd, .int .u64 cl, .int .u64 rq, .int .u64 i, .int .i64 cn, .int .i64 at_, .int .i64 of', .slice A' wk'.length k', .slice B' cs'.length m', .int .i64 tc', .slice D' lv'.length n', .int .i64 rt', .int .i64 bk'] 35)) (w.heap.size + 1) 35 #[.int .i64 kd, .int .u64 cl, .int .u64 rq, .int .u64 i, .int .i64 cn, .int .i64 at_, .int .i64 of', .slice A' wk'.length k', .slice B' cs'.length m', .int .i64 tc', .slice D' lv'.length n', .int .i64 rt', .int .i64 bk'] by simpa using (Blk.new (w.alloc (.cells #[.int .i64 kd, .int .u64 cl, .int .u64 rq, .int .u64 i, .int .i64 cn, .int .i64 at_, .int .i64 of, .slice A wk.length k, .slice B cs.length m, .int .i64 tc, .slice D lv.length n, .int .i64 rt, .int .i64 bk] 35)) 35 #[.int .i64 kd, .int .u64 cl, .int .u64 rq, .int .u64 i, .int .i64 cn, .int .i64 at_, .int .i64 of', .slice A' wk'.length k', .slice B' cs'.length m', .int .i64 tc', .slice D' lv'.length n', .int .i64 rt', .int .i64 bk']))
  cases vc
  · go_enter Try.func12, Try.ntmps12
    go_wp2_with (first
      | (go_at_call 29; go_must (refine (HC.out _ (by exact HRc.out.1.touch HT.out (fun _ _ e => e)) (by exact HRc.out.2.touch HT.out (fun _ _ e => e))).mono ?_); rintro e w1 ⟨rfl, t1⟩; have HT1 := Lib.hid (HT.out.trans t1 (fun _ _ e => e)); have hx := t1.blk HX.out (fun e => e); have hy := t1.blk HY.out (fun e => e); have x9 := hx.cell 9; have x10 := hx.cell 10; have x11 := hx.cell 11; have x12 := hx.cell 12; have y9 := hy.cell 9; have y10 := hy.cell 10; have y11 := hy.cell 11; have y12 := hy.cell 12; simp at x9 x10 x11 x12 y9 y10 y11 y12; clear t1 hx hy))
    go_ret
    exact ⟨ret_bool HV2.out.symm, HT1.out⟩
  · go_enter Try.func12, Try.ntmps12
    go_wp2_with (first
      | (go_at_call 30; go_must (refine (HK.out _ (by exact HRt.out.1.touch HT1.out (fun _ _ e => e)) (by exact HRt.out.2.touch HT1.out (fun _ _ e => e))).mono ?_); rintro e w2 ⟨rfl, t2⟩; have HT2 := Lib.hid (HT1.out.trans t2 (fun _ _ e => e)); clear t2)
      | (go_at_call 29; go_must (refine (HC.out _ (by exact HRc.out.1.touch HT.out (fun _ _ e => e)) (by exact HRc.out.2.touch HT.out (fun _ _ e => e))).mono ?_); rintro e w1 ⟨rfl, t1⟩; have HT1 := Lib.hid (HT.out.trans t1 (fun _ _ e => e)); have hx := t1.blk HX.out (fun e => e); have hy := t1.blk HY.out (fun e => e); have x9 := hx.cell 9; have x10 := hx.cell 10; have x11 := hx.cell 11; have x12 := hx.cell 12; have y9 := hy.cell 9; have y10 := hy.cell 10; have y11 := hy.cell 11; have y12 := hy.cell 12; simp at x9 x10 x11 x12 y9 y10 y11 y12; clear t1 hx hy))
    go_ret
    exact ⟨ret_bool HV2.out.symm, HT2.out⟩
end Go.Proofs.Ytlcefchbfjfifaa
