/- ChainPlans, walked. (written by genlaw15.py) -/
import Derived.Test.YtcblbjhhlnmkjaaGreatChM
import Derived.Test.YtcblbjhhlnmkjaaGreatChN
import Derived.Test.YtcblbjhhlnmkjaaGreatChO
import Derived.Test.YtcblbjhhlnmkjaaGreatChE
import Derived.Test.YtcblbjhhlnmkjaaGreatCbE
import Derived.Test.YtcblbjhhlnmkjaaGreatArgsT
namespace Go.Proofs.YtcblbjhhlnmkjaaGreat
open Go.RowKit Cal
set_option maxHeartbeats 4000000
set_option maxRecDepth 100000
set_option linter.unusedVariables false

theorem walk_ChainPlans {w : World} (x : Ca) (B D : Option Addr) (m l : Nat) (hr : CaR w (fun q => q < w.heap.size) x B D) (hx : -9223372036854775808 ≤ x.off ∧ x.off ≤ 9223372036854775807) (t : Co) (A : Option Addr) (n : Nat) (hl : SpR w (fun q => q < w.heap.size) A t.lv.length t.lv) (hn : t.lv.length ≤ n ∧ n ≤ maxLen) (now : Int) (hnow : -9223372036854775808 ≤ now ∧ now ≤ 9223372036854775807) :
    Calls Tryz.prog 3 #[.agg #[.int .i64 x.off, .slice B x.wk.length m, .slice D x.cl.length l], .agg #[.int .i64 t.cal, .slice A t.lv.length n, .int .i64 t.rt, .int .i64 t.bk], .int .i64 now] w fun e w' => e = .returned (.bool true) ∧ Below w.heap.size w w' := by
  have HL := Lib.hid hl
  have HT0 := Lib.hid (show Touch (fun _ => False) w ((w.alloc (.cells #[.int .i64 x.off, .slice B x.wk.length m, .slice D x.cl.length l] 24)).alloc (.cells #[.int .i64 t.cal, .slice A t.lv.length n, .int .i64 t.rt, .int .i64 t.bk] 27)) from ((Touch.refl (fun _ => False) w).alloc (.cells #[.int .i64 x.off, .slice B x.wk.length m, .slice D x.cl.length l] 24)).alloc (.cells #[.int .i64 t.cal, .slice A t.lv.length n, .int .i64 t.rt, .int .i64 t.bk] 27))
  have HBX0_0 := Lib.hid (show Blk ((w.alloc (.cells #[.int .i64 x.off, .slice B x.wk.length m, .slice D x.cl.length l] 24)).alloc (.cells #[.int .i64 t.cal, .slice A t.lv.length n, .int .i64 t.rt, .int .i64 t.bk] 27)) w.heap.size 24 #[.int .i64 x.off, .slice B x.wk.length m, .slice D x.cl.length l] by simpa using (Blk.new w 24 #[.int .i64 x.off, .slice B x.wk.length m, .slice D x.cl.length l]).alloc (.cells #[.int .i64 t.cal, .slice A t.lv.length n, .int .i64 t.rt, .int .i64 t.bk] 27))
  have HBX1_0 := Lib.hid (show Blk ((w.alloc (.cells #[.int .i64 x.off, .slice B x.wk.length m, .slice D x.cl.length l] 24)).alloc (.cells #[.int .i64 t.cal, .slice A t.lv.length n, .int .i64 t.rt, .int .i64 t.bk] 27)) (w.heap.size + 1) 27 #[.int .i64 t.cal, .slice A t.lv.length n, .int .i64 t.rt, .int .i64 t.bk] by simpa using Blk.new (w.alloc (.cells #[.int .i64 x.off, .slice B x.wk.length m, .slice D x.cl.length l] 24)) 27 #[.int .i64 t.cal, .slice A t.lv.length n, .int .i64 t.rt, .int .i64 t.bk])
  have HR := Lib.hid hr
  by_cases hlt : ((decide (x.wk.length ≤ 60) && decide (x.cl.length ≤ 60)) && decide (t.lv.length ≤ 60)) = true
  rotate_left
  · have hd : ((decide (x.wk.length ≤ 60) && decide (x.cl.length ≤ 60)) && decide (t.lv.length ≤ 60)) = false := by simpa using hlt
    clear hlt
    go_enter Tryz.func3, Tryz.ntmps3
    go_wp2_with (first
      | (go_at_call 8; have HM2 := HT1; go_must (refine ((lives15_any _)).mono ?_); rintro e w2 ⟨rfl, t2⟩; have hz2 := t2.size; (try simp at hz2); have HT2 := Lib.hid ((HT1.out).trans t2 (fun _ _ e => e)); have hb := t2.blk (HBX0_1.out) (fun e => e); have HBX0_2 := Lib.hid hb; clear hb; have hb := t2.blk (HBX1_1.out) (fun e => e); have HBX1_2 := Lib.hid hb; clear hb; clear t2)
      | (go_at_call 6; go_must (refine ((light15_any A B D m l n x.wk.length x.cl.length t.lv.length x.off t.cal t.rt t.bk _)).mono ?_); rintro e w1 ⟨rfl, t1⟩; rw [hd]; have hz1 := t1.size; (try simp at hz1); have HT1 := Lib.hid ((HT0.out).trans t1 (fun _ _ e => e)); have hb := t1.blk (HBX0_0.out) (fun e => e); have cX0_0 := hb.cell 0; have cX0_1 := hb.cell 1; have cX0_2 := hb.cell 2; simp at cX0_0 cX0_1 cX0_2; have HBX0_1 := Lib.hid hb; clear hb; have hb := t1.blk (HBX1_0.out) (fun e => e); have cX1_0 := hb.cell 0; have cX1_1 := hb.cell 1; have cX1_2 := hb.cell 2; have cX1_3 := hb.cell 3; simp at cX1_0 cX1_1 cX1_2 cX1_3; have HBX1_1 := Lib.hid hb; clear hb; clear t1))
    go_ret
    exact ⟨rfl, (HT2.out).below⟩
  have hd := hlt
  have hlen : x.wk.length ≤ 60 ∧ x.cl.length ≤ 60 ∧ t.lv.length ≤ 60 := by simp at hlt; omega
  clear hlt
  have HC := Lib.hid (fun w1 hr => fcheck_any (fun q => q < w.heap.size) B D m l x w1 hr (by omega) (by omega))
  by_cases hce : checkE x = 0
  rotate_left
  · have hne : (checkE x != 0) = true := by simpa using hce
    generalize checkE x = v at *
    go_enter Tryz.func3, Tryz.ntmps3
    go_wp2_with (first
      | (go_at_call 8; have HM3 := HT2; go_must (refine ((lives15_any _)).mono ?_); rintro e w3 ⟨rfl, t3⟩; have hz3 := t3.size; (try simp at hz3); have HT3 := Lib.hid ((HT2.out).trans t3 (fun _ _ e => e)); have hb := t3.blk (HBX0_2.out) (fun e => e); have HBX0_3 := Lib.hid hb; clear hb; have hb := t3.blk (HBX1_2.out) (fun e => e); have HBX1_3 := Lib.hid hb; clear hb; clear t3)
      | (go_at_call 7; have HM2 := HT1; go_must (refine ((HC.out _ (by exact HR.out.touch HT1.out (fun _ _ e => e)))).mono ?_); rintro e w2 ⟨rfl, t2⟩; have hz2 := t2.size; (try simp at hz2); have HT2 := Lib.hid ((HT1.out).trans t2 (fun _ _ e => e)); have hb := t2.blk (HBX0_1.out) (fun e => e); clear cX0_0 cX0_1 cX0_2; have cX0_0 := hb.cell 0; have cX0_1 := hb.cell 1; have cX0_2 := hb.cell 2; simp at cX0_0 cX0_1 cX0_2; have HBX0_2 := Lib.hid hb; clear hb; have hb := t2.blk (HBX1_1.out) (fun e => e); clear cX1_0 cX1_1 cX1_2 cX1_3; have cX1_0 := hb.cell 0; have cX1_1 := hb.cell 1; have cX1_2 := hb.cell 2; have cX1_3 := hb.cell 3; simp at cX1_0 cX1_1 cX1_2 cX1_3; have HBX1_2 := Lib.hid hb; clear hb; clear t2)
      | (go_at_call 6; go_must (refine ((light15_any A B D m l n x.wk.length x.cl.length t.lv.length x.off t.cal t.rt t.bk _)).mono ?_); rintro e w1 ⟨rfl, t1⟩; rw [hd]; have hz1 := t1.size; (try simp at hz1); have HT1 := Lib.hid ((HT0.out).trans t1 (fun _ _ e => e)); have hb := t1.blk (HBX0_0.out) (fun e => e); have cX0_0 := hb.cell 0; have cX0_1 := hb.cell 1; have cX0_2 := hb.cell 2; simp at cX0_0 cX0_1 cX0_2; have HBX0_1 := Lib.hid hb; clear hb; have hb := t1.blk (HBX1_0.out) (fun e => e); have cX1_0 := hb.cell 0; have cX1_1 := hb.cell 1; have cX1_2 := hb.cell 2; have cX1_3 := hb.cell 3; simp at cX1_0 cX1_1 cX1_2 cX1_3; have HBX1_1 := Lib.hid hb; clear hb; clear t1))
    go_ret
    exact ⟨rfl, (HT3.out).below⟩
  have hok := check_ok hce
  have HN := Lib.hid (fun w1 hr => cnew_yes (fun q => q < w.heap.size) B D m l x w1 hr hok)
  rw [hce] at HC
  clear hce hr
  have H1 := Lib.hid (fun k a p b G w1 (hk : CkAt w1 k a p b x G) (h : SpR w1 (fun q => q < w.heap.size) A t.lv.length t.lv) (hb : w.heap.size ≤ b ∧ w.heap.size ≤ w1.heap.size) => kplan_any k a p b x G (fun q => q < w.heap.size) A n t now w1 hk h (fun q hq => by omega) (by omega))
  have H2 := Lib.hid (fun w1 hr h => fplan_any (fun q => q < w.heap.size) B D m l x (fun q => q < w.heap.size) A n t now w1 hr hok h (by omega))
  unfold CkP at H1
  unfold FlP at H2
  have HV := Lib.hid (And.intro (plan_len x t now) (And.intro (fun h => plan_each (c := x) (t := t) (now := now) h) (fun h => plan_none (c := x) (t := t) (now := now) h)))
  generalize planV x t now = pv at *
  clear hok hl
  obtain ⟨pl, pe⟩ := pv
  simp only at H1 H2 HV
  by_cases he : pe = 0
  rotate_left
  · have hne : (pe != 0) = true := by simpa using he
    obtain rfl : pl = [] := HV.out.2.2 he
    simp only [List.length_nil] at H1 H2
    clear HV he
    go_enter Tryz.func3, Tryz.ntmps3
    go_wp2_with (first
      | (go_at_call 11; have HM5 := HT4; go_must (refine ((H2.out _ (by exact HR.out.touch (HT4.out) (fun _ _ e => e)) (by exact HL.out.touch (HT4.out) (fun _ _ e => e)))).mono ?_); rintro e w5 ⟨A2, n2, rfl, rd2, t5⟩; have hz5 := t5.size; (try simp at hz5); have HT5 := Lib.hid ((HT4.out).trans t5 (fun _ _ e => e)); have hb := t5.blk (HBX0_4.out) (fun e => e); clear cX0_0 cX0_1 cX0_2; have cX0_0 := hb.cell 0; have cX0_1 := hb.cell 1; have cX0_2 := hb.cell 2; simp at cX0_0 cX0_1 cX0_2; have HBX0_5 := Lib.hid hb; clear hb; have hb := t5.blk (HBX1_4.out) (fun e => e); clear cX1_0 cX1_1 cX1_2 cX1_3; have cX1_0 := hb.cell 0; have cX1_1 := hb.cell 1; have cX1_2 := hb.cell 2; have cX1_3 := hb.cell 3; simp at cX1_0 cX1_1 cX1_2 cX1_3; have HBX1_5 := Lib.hid hb; clear hb; have HK5 := Lib.hid ((HK4.out.none ((Touch.refl (fun _ => False) w4))).none t5); have RD2 := Lib.hid rd2; have RD1 := Lib.hid (RD1.out.touch t5 (fun _ _ e => e)); clear rd2; clear t5)
      | (go_at_call 10; have HM4 := HT3; go_must (refine ((H1.out _ _ _ _ _ _ (by exact (HK3.out.none ((Touch.refl (fun _ => False) w3)))) (by exact HL.out.touch (HT3.out) (fun _ _ e => e)) (by have := (HT3.out).size; omega))).mono ?_); rintro e w4 ⟨A1, n1, rfl, rd1, ck, t4⟩; have hz4 := t4.size; (try simp at hz4); have HT4 := Lib.hid ((HT3.out).trans t4 (fun q hq e => by omega)); have hb := t4.blk (HBX0_3.out) (by omega); clear cX0_0 cX0_1 cX0_2; have cX0_0 := hb.cell 0; have cX0_1 := hb.cell 1; have cX0_2 := hb.cell 2; simp at cX0_0 cX0_1 cX0_2; have HBX0_4 := Lib.hid hb; clear hb; have hb := t4.blk (HBX1_3.out) (by omega); clear cX1_0 cX1_1 cX1_2 cX1_3; have cX1_0 := hb.cell 0; have cX1_1 := hb.cell 1; have cX1_2 := hb.cell 2; have cX1_3 := hb.cell 3; simp at cX1_0 cX1_1 cX1_2 cX1_3; have HBX1_4 := Lib.hid hb; clear hb; have HK4 := Lib.hid ck; clear ck; have RD1 := Lib.hid rd1; clear rd1; clear t4)
      | (go_at_call 9; have HM3 := HT2; go_must (refine ((HN.out _ (by exact HR.out.touch HT2.out (fun _ _ e => e)))).mono ?_); rintro e w3 ⟨k, a, p, b, rfl, ck, b1, b2, t3⟩; have hz3 := t3.size; (try simp at hz3); have HT3 := Lib.hid ((HT2.out).trans t3 (fun _ _ e => e)); have hb := t3.blk (HBX0_2.out) (fun e => e); clear cX0_0 cX0_1 cX0_2; have cX0_0 := hb.cell 0; have cX0_1 := hb.cell 1; have cX0_2 := hb.cell 2; simp at cX0_0 cX0_1 cX0_2; have HBX0_3 := Lib.hid hb; clear hb; have hb := t3.blk (HBX1_2.out) (fun e => e); clear cX1_0 cX1_1 cX1_2 cX1_3; have cX1_0 := hb.cell 0; have cX1_1 := hb.cell 1; have cX1_2 := hb.cell 2; have cX1_3 := hb.cell 3; simp at cX1_0 cX1_1 cX1_2 cX1_3; have HBX1_3 := Lib.hid hb; clear hb; have HK3 := Lib.hid ck; have hbl : w.heap.size + 2 ≤ b := (by have := b1; omega); have hbh : b < w3.heap.size := ck.bl; clear ck b1 b2; clear t3)
      | (go_at_call 7; have HM2 := HT1; go_must (refine ((HC.out _ (by exact HR.out.touch HT1.out (fun _ _ e => e)))).mono ?_); rintro e w2 ⟨rfl, t2⟩; have hz2 := t2.size; (try simp at hz2); have HT2 := Lib.hid ((HT1.out).trans t2 (fun _ _ e => e)); have hb := t2.blk (HBX0_1.out) (fun e => e); clear cX0_0 cX0_1 cX0_2; have cX0_0 := hb.cell 0; have cX0_1 := hb.cell 1; have cX0_2 := hb.cell 2; simp at cX0_0 cX0_1 cX0_2; have HBX0_2 := Lib.hid hb; clear hb; have hb := t2.blk (HBX1_1.out) (fun e => e); clear cX1_0 cX1_1 cX1_2 cX1_3; have cX1_0 := hb.cell 0; have cX1_1 := hb.cell 1; have cX1_2 := hb.cell 2; have cX1_3 := hb.cell 3; simp at cX1_0 cX1_1 cX1_2 cX1_3; have HBX1_2 := Lib.hid hb; clear hb; clear t2)
      | (go_at_call 6; go_must (refine ((light15_any A B D m l n x.wk.length x.cl.length t.lv.length x.off t.cal t.rt t.bk _)).mono ?_); rintro e w1 ⟨rfl, t1⟩; rw [hd]; have hz1 := t1.size; (try simp at hz1); have HT1 := Lib.hid ((HT0.out).trans t1 (fun _ _ e => e)); have hb := t1.blk (HBX0_0.out) (fun e => e); have cX0_0 := hb.cell 0; have cX0_1 := hb.cell 1; have cX0_2 := hb.cell 2; simp at cX0_0 cX0_1 cX0_2; have HBX0_1 := Lib.hid hb; clear hb; have hb := t1.blk (HBX1_0.out) (fun e => e); have cX1_0 := hb.cell 0; have cX1_1 := hb.cell 1; have cX1_2 := hb.cell 2; have cX1_3 := hb.cell 3; simp at cX1_0 cX1_1 cX1_2 cX1_3; have HBX1_1 := Lib.hid hb; clear hb; clear t1))
    go_loopw [58] (fun vi wr => vi = .int .i64 0 ∧ Touch (fun _ => False) w5 wr) (fun vi _ => 0)
    case atStart => exact ⟨rfl, Touch.refl _ _⟩
    case round =>
      obtain ⟨rfl, ht⟩ := hrel
      have HTz := Lib.hid (HT5.out.trans ht (fun _ _ e => e))
      clear ht
      go_wp2_with (go_at_call 8; go_must (refine (lives15_any _).mono ?_); rintro e w6 ⟨rfl, t6⟩; have HT6 := Lib.hid (HTz.out.trans t6 (fun _ _ e => e)); clear t6)
      go_ret
      exact ⟨rfl, HT6.out.below⟩
  subst he
  obtain ⟨hg, hln0, hev0⟩ := HV.out.2.1 rfl
  have HEV := Lib.hid hev0
  have hln1 := Nat.le_of_eq hln0
  have hln2 := Nat.le_of_eq hln0.symm
  have hbeq : ((pl.length : Int) == (t.lv.length : Int)) = true := by simp; omega
  clear hln0 hev0 HV
  go_enter Tryz.func3, Tryz.ntmps3
  go_wp2_with (first
    | (go_at_call 11; have HM5 := HT4; go_must (refine ((H2.out _ (by exact HR.out.touch (HT4.out) (fun _ _ e => e)) (by exact HL.out.touch (HT4.out) (fun _ _ e => e)))).mono ?_); rintro e w5 ⟨A2, n2, rfl, rd2, t5⟩; have hz5 := t5.size; (try simp at hz5); have HT5 := Lib.hid ((HT4.out).trans t5 (fun _ _ e => e)); have hb := t5.blk (HBX0_4.out) (fun e => e); clear cX0_0 cX0_1 cX0_2; have cX0_0 := hb.cell 0; have cX0_1 := hb.cell 1; have cX0_2 := hb.cell 2; simp at cX0_0 cX0_1 cX0_2; have HBX0_5 := Lib.hid hb; clear hb; have hb := t5.blk (HBX1_4.out) (fun e => e); clear cX1_0 cX1_1 cX1_2 cX1_3; have cX1_0 := hb.cell 0; have cX1_1 := hb.cell 1; have cX1_2 := hb.cell 2; have cX1_3 := hb.cell 3; simp at cX1_0 cX1_1 cX1_2 cX1_3; have HBX1_5 := Lib.hid hb; clear hb; have HK5 := Lib.hid ((HK4.out.none ((Touch.refl (fun _ => False) w4))).none t5); have RD2 := Lib.hid rd2; have RD1 := Lib.hid (RD1.out.touch t5 (fun _ _ e => e)); clear rd2; clear t5)
    | (go_at_call 10; have HM4 := HT3; go_must (refine ((H1.out _ _ _ _ _ _ (by exact (HK3.out.none ((Touch.refl (fun _ => False) w3)))) (by exact HL.out.touch (HT3.out) (fun _ _ e => e)) (by have := (HT3.out).size; omega))).mono ?_); rintro e w4 ⟨A1, n1, rfl, rd1, ck, t4⟩; have hz4 := t4.size; (try simp at hz4); have HT4 := Lib.hid ((HT3.out).trans t4 (fun q hq e => by omega)); have hb := t4.blk (HBX0_3.out) (by omega); clear cX0_0 cX0_1 cX0_2; have cX0_0 := hb.cell 0; have cX0_1 := hb.cell 1; have cX0_2 := hb.cell 2; simp at cX0_0 cX0_1 cX0_2; have HBX0_4 := Lib.hid hb; clear hb; have hb := t4.blk (HBX1_3.out) (by omega); clear cX1_0 cX1_1 cX1_2 cX1_3; have cX1_0 := hb.cell 0; have cX1_1 := hb.cell 1; have cX1_2 := hb.cell 2; have cX1_3 := hb.cell 3; simp at cX1_0 cX1_1 cX1_2 cX1_3; have HBX1_4 := Lib.hid hb; clear hb; have HK4 := Lib.hid ck; clear ck; have RD1 := Lib.hid rd1; clear rd1; clear t4)
    | (go_at_call 9; have HM3 := HT2; go_must (refine ((HN.out _ (by exact HR.out.touch HT2.out (fun _ _ e => e)))).mono ?_); rintro e w3 ⟨k, a, p, b, rfl, ck, b1, b2, t3⟩; have hz3 := t3.size; (try simp at hz3); have HT3 := Lib.hid ((HT2.out).trans t3 (fun _ _ e => e)); have hb := t3.blk (HBX0_2.out) (fun e => e); clear cX0_0 cX0_1 cX0_2; have cX0_0 := hb.cell 0; have cX0_1 := hb.cell 1; have cX0_2 := hb.cell 2; simp at cX0_0 cX0_1 cX0_2; have HBX0_3 := Lib.hid hb; clear hb; have hb := t3.blk (HBX1_2.out) (fun e => e); clear cX1_0 cX1_1 cX1_2 cX1_3; have cX1_0 := hb.cell 0; have cX1_1 := hb.cell 1; have cX1_2 := hb.cell 2; have cX1_3 := hb.cell 3; simp at cX1_0 cX1_1 cX1_2 cX1_3; have HBX1_3 := Lib.hid hb; clear hb; have HK3 := Lib.hid ck; have hbl : w.heap.size + 2 ≤ b := (by have := b1; omega); have hbh : b < w3.heap.size := ck.bl; clear ck b1 b2; clear t3)
    | (go_at_call 7; have HM2 := HT1; go_must (refine ((HC.out _ (by exact HR.out.touch HT1.out (fun _ _ e => e)))).mono ?_); rintro e w2 ⟨rfl, t2⟩; have hz2 := t2.size; (try simp at hz2); have HT2 := Lib.hid ((HT1.out).trans t2 (fun _ _ e => e)); have hb := t2.blk (HBX0_1.out) (fun e => e); clear cX0_0 cX0_1 cX0_2; have cX0_0 := hb.cell 0; have cX0_1 := hb.cell 1; have cX0_2 := hb.cell 2; simp at cX0_0 cX0_1 cX0_2; have HBX0_2 := Lib.hid hb; clear hb; have hb := t2.blk (HBX1_1.out) (fun e => e); clear cX1_0 cX1_1 cX1_2 cX1_3; have cX1_0 := hb.cell 0; have cX1_1 := hb.cell 1; have cX1_2 := hb.cell 2; have cX1_3 := hb.cell 3; simp at cX1_0 cX1_1 cX1_2 cX1_3; have HBX1_2 := Lib.hid hb; clear hb; clear t2)
    | (go_at_call 6; go_must (refine ((light15_any A B D m l n x.wk.length x.cl.length t.lv.length x.off t.cal t.rt t.bk _)).mono ?_); rintro e w1 ⟨rfl, t1⟩; rw [hd]; have hz1 := t1.size; (try simp at hz1); have HT1 := Lib.hid ((HT0.out).trans t1 (fun _ _ e => e)); have hb := t1.blk (HBX0_0.out) (fun e => e); have cX0_0 := hb.cell 0; have cX0_1 := hb.cell 1; have cX0_2 := hb.cell 2; simp at cX0_0 cX0_1 cX0_2; have HBX0_1 := Lib.hid hb; clear hb; have hb := t1.blk (HBX1_0.out) (fun e => e); have cX1_0 := hb.cell 0; have cX1_1 := hb.cell 1; have cX1_2 := hb.cell 2; have cX1_3 := hb.cell 3; simp at cX1_0 cX1_1 cX1_2 cX1_3; have HBX1_1 := Lib.hid hb; clear hb; clear t1))
  have HE := Lib.hid (fun (w1 : World) (G : Nat → Prop) (y : Int) (h : CkAt w1 k a p b x G) => elapsed_any k a p b x G now y w1 h)
  unfold Ck2 at HE
  have hbb : b < w5.heap.size := HK5.out.bl
  clear HR HC HN H1 H2 HM4 HM5 hd
  go_loopw [13, 58] (fun vs vi wr => ∃ (j : Nat) (G' : Nat → Prop), vs = .int .i64 (budS t j) ∧ vi = .int .i64 j ∧ j ≤ pl.length ∧ CkAt wr k a p b x G' ∧ Touch (fun q => q = b) w5 wr) (fun _ vi _ => pl.length - (intOf vi).toNat)
  case atStart => exact ⟨0, _, rfl, rfl, by omega, HK5.out, Touch.refl _ _⟩
  case round =>
    obtain ⟨j, G', rfl, rfl, hj, ck, ht⟩ := hrel
    have HK := Lib.hid ck
    have HT := Lib.hid ht
    clear ck ht
    have HBc := Lib.hid (HT.out.blk HBX1_5.out (by omega))
    obtain ⟨y0, y1, y2, y3⟩ : _ ∧ _ ∧ _ ∧ _ := ⟨HBc.out.cell 0, HBc.out.cell 1, HBc.out.cell 2, HBc.out.cell 3⟩
    simp at y0 y1 y2 y3
    by_cases hjl : j < pl.length
    · obtain ⟨s, ha⟩ : ∃ s, pl[j]? = some s := ⟨_, List.getElem?_eq_getElem hjl⟩
      obtain ⟨hlv, hel⟩ := HEV.out j _ ha
      obtain ⟨sp, hsp⟩ : ∃ sp, t.lv[j]? = some sp := ⟨_, List.getElem?_eq_getElem (show j < t.lv.length by omega)⟩
      obtain ⟨g0, o0, rfl, hg0, hF0, hc0, -⟩ := ((HL.out.touch HT5.out (fun _ _ e => e)).touch HT.out (fun q hq e => by omega)).at_ hsp
      have hgl := good_hd hg
      have hbj : bud t j = sp.f := by unfold bud; rw [hsp]
      have h8 := budS_bd hg (j + 1) (by omega)
      have hw : IntKind.i64.wrap (budS t j + sp.f) = budS t (j + 1) := by
        rw [← hbj]
        have h9 : budS t (j + 1) = budS t j + bud t j := rfl
        rw [h9] at h8 ⊢
        exact IntWalk.i64_in _ (by omega)
      obtain ⟨g1, o1, rfl, hg1, hF1, hc1⟩ := (RD1.out.touch HT.out (fun q hq e => by omega)).at_ (fun a _ => (rfl : (stC a).length = 4)) rfl ha
      obtain ⟨g2, o2, rfl, hg2, hF2, hc2⟩ := (RD2.out.touch HT.out (fun q hq e => by omega)).at_ (fun a _ => (rfl : (stC a).length = 4)) rfl ha
      obtain ⟨lv, fr, le, du⟩ := s
      simp only at hlv hel
      subst hlv
      have d3 : wr.cell? ⟨g1, o1 + j * 4 + 3, none⟩ = some (.int .i64 du) := hc1 3 _ rfl
      have HC1 := Lib.hid hc1
      have HC2 := Lib.hid hc2
      have HM1 := Lib.hid hg1
      have HEL := Lib.hid hel
      have hwj : IntKind.i64.wrap ((j : Int) + 1) = ((j + 1 : Nat) : Int) := IntWalk.i64_in _ (by omega)
      clear hel hsp ha hbj
      go_wp2_with (go_at_call 12; go_must (refine (HE.out _ _ du (by exact HK.out)).mono ?_); rintro e w6 ⟨rfl, ck, t6⟩; rw [HEL.out]; have HK6 := Lib.hid ck; have HT6 := Lib.hid t6; clear ck t6 d3 hc0 y0 y1 y2 y3)
      have htd : Touch (fun q => q = b) wr w6.drew := HT6.out.drew
      have hzz6 := htd.size
      have hgb1 : ¬ g1 = b := by have h := show w3.heap.size ≤ g1 from hF1; omega
      have hgb2 : ¬ g2 = b := by have h := show w4.heap.size ≤ g2 from hF2; omega
      have e1 : ∀ (q : Nat) (u : Value), (stC ⟨j, fr, le, du⟩)[q]? = some u → w6.drew.cell? ⟨g1, o1 + (j * 4 + q), none⟩ = some u := fun q u hq => (htd.cell (p := ⟨g1, o1 + (j * 4 + q), none⟩) hg1 hgb1).trans (HC1.out q u hq)
      have e2 : ∀ (q : Nat) (u : Value), (stC ⟨j, fr, le, du⟩)[q]? = some u → w6.drew.cell? ⟨g2, o2 + (j * 4 + q), none⟩ = some u := fun q u hq => (htd.cell (p := ⟨g2, o2 + (j * 4 + q), none⟩) hg2 hgb2).trans (HC2.out q u hq)
      have d0 : w6.drew.cell? ⟨g1, o1 + j * 4, none⟩ = some (.int .i64 j) := e1 0 _ rfl
      have d1 : w6.drew.cell? ⟨g1, o1 + j * 4 + 1, none⟩ = some (.int .i64 fr) := e1 1 _ rfl
      have d2 : w6.drew.cell? ⟨g1, o1 + j * 4 + 2, none⟩ = some (.int .i64 le) := e1 2 _ rfl
      have d3 : w6.drew.cell? ⟨g1, o1 + j * 4 + 3, none⟩ = some (.int .i64 du) := e1 3 _ rfl
      have f0 : w6.drew.cell? ⟨g2, o2 + j * 4, none⟩ = some (.int .i64 j) := e2 0 _ rfl
      have f1 : w6.drew.cell? ⟨g2, o2 + j * 4 + 1, none⟩ = some (.int .i64 fr) := e2 1 _ rfl
      have f2 : w6.drew.cell? ⟨g2, o2 + j * 4 + 2, none⟩ = some (.int .i64 le) := e2 2 _ rfl
      have f3 : w6.drew.cell? ⟨g2, o2 + j * 4 + 3, none⟩ = some (.int .i64 du) := e2 3 _ rfl
      clear e1 e2
      refine wp_region_plan [(0, 0), (0, 1), (0, 2), (0, 3), (0, 4), (0, 5), (0, 6), (0, 7), (0, 8), (0, 9), (0, 10), (0, 11), (0, 12), (0, 13), (0, 14), (0, 15), (0, 16), (0, 17), (0, 18), (0, 19), (0, 20), (0, 21), (0, 22), (0, 23), (0, 24), (0, 25), (0, 26)] (fun _ => False) (by kernel_rfl) (by kernel_rfl) (fun c a d v w h => by cases d <;> exact h) ?_
      iterate 27
        refine plan_s rfl fun Kc hKc => ?_
        go_simp
        first
          | (refine hKc _ ?_)
        clear hKc Kc
      refine plan_done ?_
      go_wp2
      go_roundw
      case rel => exact ⟨j + 1, _, rfl, by go_num, by omega, HK6.out.none ((Touch.refl (fun _ => False) w6).drew), HT.out.trans htd (fun _ _ e => e)⟩
      case measure => simp [intOf]; omega
    · obtain rfl : j = pl.length := by omega
      have HTz := Lib.hid (HT5.out.trans HT.out (fun q hq e => by omega))
      go_wp2_with (go_at_call 8; go_must (refine (lives15_any _).mono ?_); rintro e w6 ⟨rfl, t6⟩; have HT6 := Lib.hid (HTz.out.trans t6 (fun _ _ e => e)); clear t6)
      go_ret
      exact ⟨rfl, HT6.out.below⟩
end Go.Proofs.YtcblbjhhlnmkjaaGreat
