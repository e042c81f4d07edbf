/- law05.do: a call, both ways. -/
import Derived.Test.YtomapfklpoijbaaMetG
namespace Go.Proofs.Ytomapfklpoijbaa
open Go.RowKit
set_option maxHeartbeats 4000000
set_option maxRecDepth 100000
set_option linter.unusedVariables false

theorem opC_len (F : OpF) (cs : List Nat) (i : Int) (x : Nat) : (opC F cs i x).length = cs.length := by unfold opC; split <;> simp
def DoP (w : World) (g : Nat) (n : Nat) (e : Ending) (w' : World) : Prop :=
  ∃ A c ds, e = .returned (.tuple #[.slice A n c, .bool true]) ∧ ds.length = n ∧ MAt w' g ds ∧ Ref w' g A c ds ∧ Touch (fun k => k = g) w w'

theorem do_any (g x : Nat) (A : Option Addr) (c : Nat) (cs : List Nat) (K I : Int) (w : World) (hm : MAt w g cs) (hr : Ref w g A c cs) (h0 : 0 < cs.length) :
    Calls Try.prog 28 #[.pointer (some ⟨g, 0, none⟩), .slice A cs.length c, .agg #[.int .i64 K, .int .i64 I, .int .u64 x]] w (DoP w g cs.length) := by
  have ht0 : Touch (fun _ => False) w (w.alloc (.cells #[.int .i64 K, .int .i64 I, .int .u64 x] 60)) := (Touch.refl _ w).alloc _
  have hb : Blk (w.alloc (.cells #[.int .i64 K, .int .i64 I, .int .u64 x] 60)) w.heap.size 60 #[.int .i64 K, .int .i64 I, .int .u64 x] := Blk.new _ _ _
  have HM := Lib.hid (hm.touch ht0 (fun e => e))
  have HR := Lib.hid (hr.touch0 ht0)
  have HT0 := Lib.hid ht0
  have HBl := Lib.hid hb
  have hgl := hm.2.2.lt
  have hlA := opC_len addF cs I x
  have hlS := opC_len swapF cs I x
  have hlR := opC_len raiseF cs I x
  have hlO := onceC_len cs I
  have q0 := hb.cell 0
  have q1 := hb.cell 1
  have q2 := hb.cell 2
  simp at q0 q1 q2
  clear hm hr ht0 hb
  by_cases k1 : K = 1
  · subst k1
    go_enter Try.func28, Try.ntmps28
    go_wp2_with (first
      | (go_at_call 70; go_must (refine (rraise_any g x A c cs I _ (by exact HR.out)).mono ?_); rintro e w1 ⟨A1, c1, rfl, hf, t1⟩; rw [hlR]; have HF := Lib.hid hf; have HT1 := Lib.hid t1; have HM1 := Lib.hid (HM.out.touch t1 (fun e => e)); have q1 := (t1.blk (by exact HBl.out) (fun e => e)).cell 1; have q2 := (t1.blk (by exact HBl.out) (fun e => e)).cell 2; simp at q1 q2; clear hf t1)
      | (go_at_call 34; go_must (refine (mraise_any g x I cs _ (by exact HM1.out) h0).mono ?_); rintro e w2 ⟨rfl, hm2, t2⟩; have HM2 := Lib.hid hm2; have HT2 := Lib.hid t2; have HF2 := Lib.hid (HF.out.touch t2); clear hm2 t2))
    all_goals (
      go_ret2
      exact ⟨A1, c1, opC raiseF cs I x, by simp, hlR, HM2.out, HF2.out, ((HT0.out.mono (fun _ _ e => e.elim)).trans (HT1.out.mono (fun _ _ e => e.elim)) (fun _ _ e => e)).trans HT2.out (fun _ _ e => e)⟩)
  by_cases k2 : K = 2
  · subst k2
    go_enter Try.func28, Try.ntmps28
    go_wp2_with (first
      | (go_at_call 71; go_must (refine (rswap_any g x A c cs I _ (by exact HR.out)).mono ?_); rintro e w1 ⟨A1, c1, rfl, hf, t1⟩; rw [hlS]; have HF := Lib.hid hf; have HT1 := Lib.hid t1; have HM1 := Lib.hid (HM.out.touch t1 (fun e => e)); have q1 := (t1.blk (by exact HBl.out) (fun e => e)).cell 1; have q2 := (t1.blk (by exact HBl.out) (fun e => e)).cell 2; simp at q1 q2; clear hf t1)
      | (go_at_call 27; go_must (refine (mswap_any g x I cs _ (by exact HM1.out) h0).mono ?_); rintro e w2 ⟨rfl, hm2, t2⟩; have HM2 := Lib.hid hm2; have HT2 := Lib.hid t2; have HF2 := Lib.hid (HF.out.touch t2); clear hm2 t2))
    all_goals (
      go_ret2
      exact ⟨A1, c1, opC swapF cs I x, by simp, hlS, HM2.out, HF2.out, ((HT0.out.mono (fun _ _ e => e.elim)).trans (HT1.out.mono (fun _ _ e => e.elim)) (fun _ _ e => e)).trans HT2.out (fun _ _ e => e)⟩)
  by_cases k3 : K = 3
  · subst k3
    go_enter Try.func28, Try.ntmps28
    go_wp2_with (first
      | (go_at_call 72; go_must (refine (ronce_any g A c cs I _ (by exact HR.out)).mono ?_); rintro e w1 ⟨A1, c1, rfl, hf, t1⟩; rw [hlO]; have HF := Lib.hid hf; have HT1 := Lib.hid t1; have HM1 := Lib.hid (HM.out.touch t1 (fun e => e)); have q1 := (t1.blk (by exact HBl.out) (fun e => e)).cell 1; have q2 := (t1.blk (by exact HBl.out) (fun e => e)).cell 2; simp at q1 q2; clear hf t1)
      | (go_at_call 26; go_must (refine (monce_any g I cs _ (by exact HM1.out) h0).mono ?_); rintro e w2 ⟨rfl, hm2, t2⟩; have HM2 := Lib.hid hm2; have HT2 := Lib.hid t2; have HF2 := Lib.hid (HF.out.touch t2); clear hm2 t2))
    all_goals (
      go_ret2
      exact ⟨A1, c1, onceC cs I, by simp, hlO, HM2.out, HF2.out, ((HT0.out.mono (fun _ _ e => e.elim)).trans (HT1.out.mono (fun _ _ e => e.elim)) (fun _ _ e => e)).trans HT2.out (fun _ _ e => e)⟩)
  have e1 : (K == 1) = false := by simpa using k1
  have e2 : (K == 2) = false := by simpa using k2
  have e3 : (K == 3) = false := by simpa using k3
  by_cases k4 : K = 4
  · subst k4
    clear k1 k2 k3 e1 e2 e3
    have HG := Lib.hid (mget_any g I cs _ (HM.out.touch (Touch.refl (fun _ => False) _).drew (fun e => e)) h0)
    have HG2 := Lib.hid (rget_any g A c cs I _ (HR.out.touch0 (Touch.refl (fun _ => False) _).drew))
    go_enter Try.func28, Try.ntmps28
    go_wp2_with fail
    refine wp_region_plan [(0, 0), (0, 1), (0, 2), (0, 3), (0, 4), (0, 5), (0, 6), (0, 7), (0, 8), (0, 9), (0, 10), (0, 11)] (fun _ => False) (by kernel_rfl) (by kernel_rfl) (fun c a d v w h => by cases d <;> exact h) ?_
    iterate 12
      first
        | (refine plan_s1 rfl (by rfl) (fun Kc hKc => ?_)
           go_simp
           first
             | (refine hKc _ ?_)
             | (refine ⟨_, calls_flip ((by exact HG.out)), hKc _ ?_⟩)
             | (refine ⟨_, calls_flip ((by exact HG2.out)), hKc _ ?_⟩)
           clear hKc Kc)
        | (refine plan_s0 rfl (by rfl) ?_; go_frame)
    refine plan_done ?_
    go_wp2
    go_ret2
    exact ⟨A, c, cs, by simp, rfl, HM.out.touch (Touch.refl (fun _ => False) _).drew (fun e => e), HR.out.touch0 (Touch.refl (fun _ => False) _).drew, (HT0.out.drew).mono (fun _ _ e => e.elim)⟩
  have e4 : (K == 4) = false := by simpa using k4
  clear k1 k2 k3 k4
  go_enter Try.func28, Try.ntmps28
  go_wp2_with (first
    | (go_at_call 74; go_must (refine (radd_any g x A c cs I _ (by exact HR.out)).mono ?_); rintro e w1 ⟨A1, c1, rfl, hf, t1⟩; rw [hlA]; have HF := Lib.hid hf; have HT1 := Lib.hid t1; have HM1 := Lib.hid (HM.out.touch t1 (fun e => e)); have q1 := (t1.blk (by exact HBl.out) (fun e => e)).cell 1; have q2 := (t1.blk (by exact HBl.out) (fun e => e)).cell 2; simp at q1 q2; clear hf t1)
    | (go_at_call 32; go_must (refine (madd_any g x I cs _ (by exact HM1.out) h0).mono ?_); rintro e w2 ⟨rfl, hm2, t2⟩; have HM2 := Lib.hid hm2; have HT2 := Lib.hid t2; have HF2 := Lib.hid (HF.out.touch t2); clear hm2 t2))
  all_goals (
    go_ret2
    exact ⟨A1, c1, opC addF cs I x, by simp, hlA, HM2.out, HF2.out, ((HT0.out.mono (fun _ _ e => e.elim)).trans (HT1.out.mono (fun _ _ e => e.elim)) (fun _ _ e => e)).trans HT2.out (fun _ _ e => e)⟩)
end Go.Proofs.Ytomapfklpoijbaa
