/- TicketSound, walked. (written by gentkh.py) -/
import Derived.Test.YtcblbjhhlnmkjaaVArgsT
import Derived.Deep.DeepCutAuto
import Derived.Deep.CutBlock
namespace Go.Proofs.Ytcblbjhhlnmkjaa
open Go.RowKit Cal
set_option maxHeartbeats 400000000
set_option maxRecDepth 100000
set_option linter.unusedVariables false
attribute [local irreducible] wpPlan

structure Ac where
  kd : Int
  wt : Nat
def acC (a : Ac) : List Value := [.int .i64 a.kd, .int .u32 a.wt]
/-- Between two acts. -/
structure TsSt (w wr : World) (k a p b NT NU : Nat) (x : Ca) (c0 c1 ct : Array Value) : Prop where
  ck : ∃ G, CkAt wr k a p b x G ∧ ¬ G NT ∧ ¬ G NU
  t : Touch (fun _ => False) w wr
  b0 : Blk wr w.heap.size 25 c0
  b1 : Blk wr (w.heap.size + 1) 28 c1
  bt : Blk wr NT 74 ct
section
variable {w wr w' : World} {k a p b NT NU : Nat} {x : Ca} {c0 c1 ct ct' : Array Value}
theorem TsSt.far (h : TsSt w wr k a p b NT NU x c0 c1 ct) (t : Touch (fun _ => False) wr w') : TsSt w w' k a p b NT NU x c0 c1 ct := by
  obtain ⟨G, ck, h1, h2⟩ := h.ck
  exact ⟨⟨G, ck.none t, h1, h2⟩, h.t.trans t (fun _ _ e => e), t.blk h.b0 (fun e => e), t.blk h.b1 (fun e => e), t.blk h.bt (fun e => e)⟩
theorem TsSt.new (h : TsSt w wr k a p b NT NU x c0 c1 ct) (o : Obj) : TsSt w (wr.alloc o) k a p b NT wr.heap.size x c0 c1 ct := by
  obtain ⟨G, ck, h1, h2⟩ := h.ck
  have t := (Touch.refl (fun _ => False) wr).alloc o
  exact ⟨⟨_, ck.shrink.none t, fun e => h1 e.1, fun e => by have := e.2; omega⟩, h.t.trans t (fun _ _ e => e), t.blk h.b0 (fun e => e), t.blk h.b1 (fun e => e), t.blk h.bt (fun e => e)⟩
theorem TsSt.clk (h : TsSt w wr k a p b NT NU x c0 c1 ct) {G : Nat → Prop} (g1 : ¬ G NT) (g2 : ¬ G NU) (hu : NU < wr.heap.size) (hb1 : w.heap.size + 2 ≤ b) (hb2 : b < NT) (ck : CkAt w' k a p b x (More G wr w')) (t : Touch (fun q => q = b) wr w') : TsSt w w' k a p b NT NU x c0 c1 ct := by
  have hn := h.bt.lt
  refine ⟨⟨_, ck, fun e => ?_, fun e => ?_⟩, h.t.trans t (fun q hq e => by omega), t.blk h.b0 (by omega), t.blk h.b1 (by omega), t.blk h.bt (by omega)⟩
  · rcases e with e | e
    · exact g1 e
    · omega
  · rcases e with e | e
    · exact g2 e
    · omega
theorem TsSt.setU (h : TsSt w wr k a p b NT NU x c0 c1 ct) (hu : NT < NU) (hb1 : w.heap.size + 2 ≤ b) (hb2 : b < NT) (t : Touch (fun q => q = NU) wr w') : TsSt w w' k a p b NT NU x c0 c1 ct := by
  obtain ⟨G, ck, h1, h2⟩ := h.ck
  exact ⟨⟨G, ck.touch t (by omega) (fun q hq e => h2 (e ▸ hq)), h1, h2⟩, h.t.trans t (fun q hq e => by omega), t.blk h.b0 (by omega), t.blk h.b1 (by omega), t.blk h.bt (by omega)⟩
theorem TsSt.setT (h : TsSt w wr k a p b NT NU x c0 c1 ct) (hb1 : w.heap.size + 2 ≤ b) (hb2 : b < NT) (t : Touch (fun q => q = NT) wr w') (hb : Blk w' NT 74 ct') : TsSt w w' k a p b NT NU x c0 c1 ct' := by
  obtain ⟨G, ck, h1, h2⟩ := h.ck
  exact ⟨⟨G, ck.touch t (by omega) (fun q hq e => h1 (e ▸ hq)), h1, h2⟩, h.t.trans t (fun q hq e => by omega), t.blk h.b0 (by omega), t.blk h.b1 (by omega), hb⟩
theorem TsSt.same (h : TsSt w wr k a p b NT NU x c0 c1 ct) : TsSt w wr k a p b NT NT x c0 c1 ct := by
  obtain ⟨G, ck, h1, h2⟩ := h.ck
  exact ⟨⟨G, ck, h1, h1⟩, h.t, h.b0, h.b1, h.bt⟩
end
theorem walk_TicketSound {w : World} (x : Ca) (B D : Option Addr) (m l : Nat) (hr : CaR w (fun q => q < w.heap.size) x B D) (hx : -9223372036854775808 ≤ x.off ∧ x.off ≤ 9223372036854775807) (t2 : Co) (A : Option Addr) (n : Nat) (hl : SpR w (fun q => q < w.heap.size) A t2.lv.length t2.lv) (hn : t2.lv.length ≤ n ∧ n ≤ maxLen) (now : Int) (hnow : -9223372036854775808 ≤ now ∧ now ≤ 9223372036854775807) (A3 : Option Addr) (n3 c3 : Nat) (list : List Ac) (e3 : list.length = n3) (o3 : ∀ a ∈ list, (-9223372036854775808 ≤ a.kd ∧ a.kd ≤ 9223372036854775807) ∧ a.wt < 4294967296) (z3 : ∀ a ∈ list, (acC a).length = 2) (g3 : A3 = none → c3 = 0) (u3 : n3 ≤ c3) (m3 : c3 ≤ maxLen) (s3 : RdZ w (fun q => q < w.heap.size) 2 A3 n3 (list.flatMap acC)) :
    Calls Try.prog 11 #[.agg #[.int .i64 x.off, .slice B x.wk.length m, .slice D x.cl.length l], .agg #[.int .i64 t2.cal, .slice A t2.lv.length n, .int .i64 t2.rt, .int .i64 t2.bk], .int .i64 now, .slice A3 n3 c3] w fun e w' => e = .returned (.bool true) ∧ Below w.heap.size w w' := by
  subst e3
  have HL := Lib.hid hl
  have HR := Lib.hid hr
  have HT0 := Lib.hid (show Touch (fun _ => False) w ((w.alloc (.cells #[.int .i64 x.off, .slice B x.wk.length m, .slice D x.cl.length l] 25)).alloc (.cells #[.int .i64 t2.cal, .slice A t2.lv.length n, .int .i64 t2.rt, .int .i64 t2.bk] 28)) from ((Touch.refl (fun _ => False) w).alloc (.cells #[.int .i64 x.off, .slice B x.wk.length m, .slice D x.cl.length l] 25)).alloc (.cells #[.int .i64 t2.cal, .slice A t2.lv.length n, .int .i64 t2.rt, .int .i64 t2.bk] 28))
  have HBX0_0 := Lib.hid (show Blk ((w.alloc (.cells #[.int .i64 x.off, .slice B x.wk.length m, .slice D x.cl.length l] 25)).alloc (.cells #[.int .i64 t2.cal, .slice A t2.lv.length n, .int .i64 t2.rt, .int .i64 t2.bk] 28)) w.heap.size 25 #[.int .i64 x.off, .slice B x.wk.length m, .slice D x.cl.length l] by simpa using (Blk.new w 25 #[.int .i64 x.off, .slice B x.wk.length m, .slice D x.cl.length l]).alloc (.cells #[.int .i64 t2.cal, .slice A t2.lv.length n, .int .i64 t2.rt, .int .i64 t2.bk] 28))
  have HBX1_0 := Lib.hid (show Blk ((w.alloc (.cells #[.int .i64 x.off, .slice B x.wk.length m, .slice D x.cl.length l] 25)).alloc (.cells #[.int .i64 t2.cal, .slice A t2.lv.length n, .int .i64 t2.rt, .int .i64 t2.bk] 28)) (w.heap.size + 1) 28 #[.int .i64 t2.cal, .slice A t2.lv.length n, .int .i64 t2.rt, .int .i64 t2.bk] by simpa using Blk.new (w.alloc (.cells #[.int .i64 x.off, .slice B x.wk.length m, .slice D x.cl.length l] 25)) 28 #[.int .i64 t2.cal, .slice A t2.lv.length n, .int .i64 t2.rt, .int .i64 t2.bk])
  by_cases hlt : (decide (x.wk.length ≤ 60) && decide (x.cl.length ≤ 60)) = true
  rotate_left
  · have hd : (decide (x.wk.length ≤ 60) && decide (x.cl.length ≤ 60)) = false := by simpa using hlt
    clear hlt
    go_enter Try.func11, Try.ntmps11
    go_wp2_with (first
      | (go_at_call 37; have HM2 := HT1; go_must (refine ((lives16_any _)).mono ?_); rintro e w2 ⟨rfl, t2⟩; have hz2 := t2.size; (try simp at hz2); have HT2 := Lib.hid ((HT1.out).trans t2 (fun _ _ e => e)); have hb := t2.blk (HBX0_1.out) (fun e => e); have HBX0_2 := Lib.hid hb; clear hb; have hb := t2.blk (HBX1_1.out) (fun e => e); have HBX1_2 := Lib.hid hb; clear hb; clear t2)
      | (go_at_call 48; go_must (refine ((light10_any B D m l x.wk.length x.cl.length x.off _)).mono ?_); rintro e w1 ⟨rfl, t1⟩; rw [hd]; have hz1 := t1.size; (try simp at hz1); have HT1 := Lib.hid ((HT0.out).trans t1 (fun _ _ e => e)); have hb := t1.blk (HBX0_0.out) (fun e => e); have cX0_0 := hb.cell 0; have cX0_1 := hb.cell 1; have cX0_2 := hb.cell 2; simp at cX0_0 cX0_1 cX0_2; have HBX0_1 := Lib.hid hb; clear hb; have hb := t1.blk (HBX1_0.out) (fun e => e); have cX1_0 := hb.cell 0; have cX1_1 := hb.cell 1; have cX1_2 := hb.cell 2; have cX1_3 := hb.cell 3; simp at cX1_0 cX1_1 cX1_2 cX1_3; have HBX1_1 := Lib.hid hb; clear hb; clear t1))
    go_ret
    exact ⟨rfl, (HT2.out).below⟩
  have hd := hlt
  have hlen : x.wk.length ≤ 60 ∧ x.cl.length ≤ 60 := by simpa using hlt
  clear hlt
  by_cases hq1 : (60 : Int) < t2.lv.length
  · go_enter Try.func11, Try.ntmps11
    go_wp2_with (first
      | (go_at_call 37; have HM2 := HT1; go_must (refine ((lives16_any _)).mono ?_); rintro e w2 ⟨rfl, t2⟩; have hz2 := t2.size; (try simp at hz2); have HT2 := Lib.hid ((HT1.out).trans t2 (fun _ _ e => e)); have hb := t2.blk (HBX0_1.out) (fun e => e); have HBX0_2 := Lib.hid hb; clear hb; have hb := t2.blk (HBX1_1.out) (fun e => e); have HBX1_2 := Lib.hid hb; clear hb; clear t2)
      | (go_at_call 48; go_must (refine ((light10_any B D m l x.wk.length x.cl.length x.off _)).mono ?_); rintro e w1 ⟨rfl, t1⟩; rw [hd]; have hz1 := t1.size; (try simp at hz1); have HT1 := Lib.hid ((HT0.out).trans t1 (fun _ _ e => e)); have hb := t1.blk (HBX0_0.out) (fun e => e); have cX0_0 := hb.cell 0; have cX0_1 := hb.cell 1; have cX0_2 := hb.cell 2; simp at cX0_0 cX0_1 cX0_2; have HBX0_1 := Lib.hid hb; clear hb; have hb := t1.blk (HBX1_0.out) (fun e => e); have cX1_0 := hb.cell 0; have cX1_1 := hb.cell 1; have cX1_2 := hb.cell 2; have cX1_3 := hb.cell 3; simp at cX1_0 cX1_1 cX1_2 cX1_3; have HBX1_1 := Lib.hid hb; clear hb; clear t1))
    go_ret
    exact ⟨rfl, (HT2.out).below⟩
  by_cases hq2 : (60 : Int) < list.length
  · go_enter Try.func11, Try.ntmps11
    go_wp2_with (first
      | (go_at_call 37; have HM2 := HT1; go_must (refine ((lives16_any _)).mono ?_); rintro e w2 ⟨rfl, t2⟩; have hz2 := t2.size; (try simp at hz2); have HT2 := Lib.hid ((HT1.out).trans t2 (fun _ _ e => e)); have hb := t2.blk (HBX0_1.out) (fun e => e); have HBX0_2 := Lib.hid hb; clear hb; have hb := t2.blk (HBX1_1.out) (fun e => e); have HBX1_2 := Lib.hid hb; clear hb; clear t2)
      | (go_at_call 48; go_must (refine ((light10_any B D m l x.wk.length x.cl.length x.off _)).mono ?_); rintro e w1 ⟨rfl, t1⟩; rw [hd]; have hz1 := t1.size; (try simp at hz1); have HT1 := Lib.hid ((HT0.out).trans t1 (fun _ _ e => e)); have hb := t1.blk (HBX0_0.out) (fun e => e); have cX0_0 := hb.cell 0; have cX0_1 := hb.cell 1; have cX0_2 := hb.cell 2; simp at cX0_0 cX0_1 cX0_2; have HBX0_1 := Lib.hid hb; clear hb; have hb := t1.blk (HBX1_0.out) (fun e => e); have cX1_0 := hb.cell 0; have cX1_1 := hb.cell 1; have cX1_2 := hb.cell 2; have cX1_3 := hb.cell 3; simp at cX1_0 cX1_1 cX1_2 cX1_3; have HBX1_1 := Lib.hid hb; clear hb; clear t1))
    go_ret
    exact ⟨rfl, (HT2.out).below⟩
  have HC := Lib.hid (fun w1 hr => fcheck_any (fun q => q < w.heap.size) B D m l x w1 hr (by omega) (by omega))
  by_cases hce : checkE x = 0
  rotate_left
  · have hne : (checkE x != 0) = true := by simpa using hce
    generalize checkE x = v at *
    go_enter Try.func11, Try.ntmps11
    go_wp2_with (first
      | (go_at_call 37; have HM3 := HT2; go_must (refine ((lives16_any _)).mono ?_); rintro e w3 ⟨rfl, t3⟩; have hz3 := t3.size; (try simp at hz3); have HT3 := Lib.hid ((HT2.out).trans t3 (fun _ _ e => e)); have hb := t3.blk (HBX0_2.out) (fun e => e); have HBX0_3 := Lib.hid hb; clear hb; have hb := t3.blk (HBX1_2.out) (fun e => e); have HBX1_3 := Lib.hid hb; clear hb; clear t3)
      | (go_at_call 24; have HM2 := HT1; go_must (refine ((HC.out _ (by exact HR.out.touch (HT1.out) (fun _ _ e => e)))).mono ?_); rintro e w2 ⟨rfl, t2⟩; have hz2 := t2.size; (try simp at hz2); have HT2 := Lib.hid ((HT1.out).trans t2 (fun _ _ e => e)); have hb := t2.blk (HBX0_1.out) (fun e => e); clear cX0_0 cX0_1 cX0_2; have cX0_0 := hb.cell 0; have cX0_1 := hb.cell 1; have cX0_2 := hb.cell 2; simp at cX0_0 cX0_1 cX0_2; have HBX0_2 := Lib.hid hb; clear hb; have hb := t2.blk (HBX1_1.out) (fun e => e); clear cX1_0 cX1_1 cX1_2 cX1_3; have cX1_0 := hb.cell 0; have cX1_1 := hb.cell 1; have cX1_2 := hb.cell 2; have cX1_3 := hb.cell 3; simp at cX1_0 cX1_1 cX1_2 cX1_3; have HBX1_2 := Lib.hid hb; clear hb; clear t2)
      | (go_at_call 48; go_must (refine ((light10_any B D m l x.wk.length x.cl.length x.off _)).mono ?_); rintro e w1 ⟨rfl, t1⟩; rw [hd]; have hz1 := t1.size; (try simp at hz1); have HT1 := Lib.hid ((HT0.out).trans t1 (fun _ _ e => e)); have hb := t1.blk (HBX0_0.out) (fun e => e); have cX0_0 := hb.cell 0; have cX0_1 := hb.cell 1; have cX0_2 := hb.cell 2; simp at cX0_0 cX0_1 cX0_2; have HBX0_1 := Lib.hid hb; clear hb; have hb := t1.blk (HBX1_0.out) (fun e => e); have cX1_0 := hb.cell 0; have cX1_1 := hb.cell 1; have cX1_2 := hb.cell 2; have cX1_3 := hb.cell 3; simp at cX1_0 cX1_1 cX1_2 cX1_3; have HBX1_1 := Lib.hid hb; clear hb; clear t1))
    go_ret
    exact ⟨rfl, (HT3.out).below⟩
  have hok := check_ok hce
  have HN := Lib.hid (fun w1 hr => cnew_yes (fun q => q < w.heap.size) B D m l x w1 hr hok)
  rw [hce] at HC
  clear hce hr
  have HG := Lib.hid (fun w1 h => fgood_any (fun q => q < w.heap.size) A n t2 w1 h)
  cases hg : goodB t2
  · rw [hg] at HG
    clear hok HN
    go_enter Try.func11, Try.ntmps11
    go_wp2_with (first
      | (go_at_call 37; have HM4 := HT3; go_must (refine ((lives16_any _)).mono ?_); rintro e w4 ⟨rfl, t4⟩; have hz4 := t4.size; (try simp at hz4); have HT4 := Lib.hid ((HT3.out).trans t4 (fun _ _ e => e)); have hb := t4.blk (HBX0_3.out) (fun e => e); have HBX0_4 := Lib.hid hb; clear hb; have hb := t4.blk (HBX1_3.out) (fun e => e); have HBX1_4 := Lib.hid hb; clear hb; clear t4)
      | (go_at_call 31; have HM3 := HT2; go_must (refine ((HG.out _ (by exact HL.out.touch (HT2.out) (fun _ _ e => e)))).mono ?_); rintro e w3 ⟨rfl, t3⟩; have hz3 := t3.size; (try simp at hz3); have HT3 := Lib.hid ((HT2.out).trans t3 (fun _ _ e => e)); have hb := t3.blk (HBX0_2.out) (fun e => e); clear cX0_0 cX0_1 cX0_2; have cX0_0 := hb.cell 0; have cX0_1 := hb.cell 1; have cX0_2 := hb.cell 2; simp at cX0_0 cX0_1 cX0_2; have HBX0_3 := Lib.hid hb; clear hb; have hb := t3.blk (HBX1_2.out) (fun e => e); clear cX1_0 cX1_1 cX1_2 cX1_3; have cX1_0 := hb.cell 0; have cX1_1 := hb.cell 1; have cX1_2 := hb.cell 2; have cX1_3 := hb.cell 3; simp at cX1_0 cX1_1 cX1_2 cX1_3; have HBX1_3 := Lib.hid hb; clear hb; clear t3)
      | (go_at_call 24; have HM2 := HT1; go_must (refine ((HC.out _ (by exact HR.out.touch (HT1.out) (fun _ _ e => e)))).mono ?_); rintro e w2 ⟨rfl, t2⟩; have hz2 := t2.size; (try simp at hz2); have HT2 := Lib.hid ((HT1.out).trans t2 (fun _ _ e => e)); have hb := t2.blk (HBX0_1.out) (fun e => e); clear cX0_0 cX0_1 cX0_2; have cX0_0 := hb.cell 0; have cX0_1 := hb.cell 1; have cX0_2 := hb.cell 2; simp at cX0_0 cX0_1 cX0_2; have HBX0_2 := Lib.hid hb; clear hb; have hb := t2.blk (HBX1_1.out) (fun e => e); clear cX1_0 cX1_1 cX1_2 cX1_3; have cX1_0 := hb.cell 0; have cX1_1 := hb.cell 1; have cX1_2 := hb.cell 2; have cX1_3 := hb.cell 3; simp at cX1_0 cX1_1 cX1_2 cX1_3; have HBX1_2 := Lib.hid hb; clear hb; clear t2)
      | (go_at_call 48; go_must (refine ((light10_any B D m l x.wk.length x.cl.length x.off _)).mono ?_); rintro e w1 ⟨rfl, t1⟩; rw [hd]; have hz1 := t1.size; (try simp at hz1); have HT1 := Lib.hid ((HT0.out).trans t1 (fun _ _ e => e)); have hb := t1.blk (HBX0_0.out) (fun e => e); have cX0_0 := hb.cell 0; have cX0_1 := hb.cell 1; have cX0_2 := hb.cell 2; simp at cX0_0 cX0_1 cX0_2; have HBX0_1 := Lib.hid hb; clear hb; have hb := t1.blk (HBX1_0.out) (fun e => e); have cX1_0 := hb.cell 0; have cX1_1 := hb.cell 1; have cX1_2 := hb.cell 2; have cX1_3 := hb.cell 3; simp at cX1_0 cX1_1 cX1_2 cX1_3; have HBX1_1 := Lib.hid hb; clear hb; clear t1))
    go_ret
    exact ⟨rfl, (HT4.out).below⟩
  rw [hg] at HG
  by_cases hn0 : now < 0
  · clear hok HN hg
    go_enter Try.func11, Try.ntmps11
    go_wp2_with (first
      | (go_at_call 37; have HM4 := HT3; go_must (refine ((lives16_any _)).mono ?_); rintro e w4 ⟨rfl, t4⟩; have hz4 := t4.size; (try simp at hz4); have HT4 := Lib.hid ((HT3.out).trans t4 (fun _ _ e => e)); have hb := t4.blk (HBX0_3.out) (fun e => e); have HBX0_4 := Lib.hid hb; clear hb; have hb := t4.blk (HBX1_3.out) (fun e => e); have HBX1_4 := Lib.hid hb; clear hb; clear t4)
      | (go_at_call 31; have HM3 := HT2; go_must (refine ((HG.out _ (by exact HL.out.touch (HT2.out) (fun _ _ e => e)))).mono ?_); rintro e w3 ⟨rfl, t3⟩; have hz3 := t3.size; (try simp at hz3); have HT3 := Lib.hid ((HT2.out).trans t3 (fun _ _ e => e)); have hb := t3.blk (HBX0_2.out) (fun e => e); clear cX0_0 cX0_1 cX0_2; have cX0_0 := hb.cell 0; have cX0_1 := hb.cell 1; have cX0_2 := hb.cell 2; simp at cX0_0 cX0_1 cX0_2; have HBX0_3 := Lib.hid hb; clear hb; have hb := t3.blk (HBX1_2.out) (fun e => e); clear cX1_0 cX1_1 cX1_2 cX1_3; have cX1_0 := hb.cell 0; have cX1_1 := hb.cell 1; have cX1_2 := hb.cell 2; have cX1_3 := hb.cell 3; simp at cX1_0 cX1_1 cX1_2 cX1_3; have HBX1_3 := Lib.hid hb; clear hb; clear t3)
      | (go_at_call 24; have HM2 := HT1; go_must (refine ((HC.out _ (by exact HR.out.touch (HT1.out) (fun _ _ e => e)))).mono ?_); rintro e w2 ⟨rfl, t2⟩; have hz2 := t2.size; (try simp at hz2); have HT2 := Lib.hid ((HT1.out).trans t2 (fun _ _ e => e)); have hb := t2.blk (HBX0_1.out) (fun e => e); clear cX0_0 cX0_1 cX0_2; have cX0_0 := hb.cell 0; have cX0_1 := hb.cell 1; have cX0_2 := hb.cell 2; simp at cX0_0 cX0_1 cX0_2; have HBX0_2 := Lib.hid hb; clear hb; have hb := t2.blk (HBX1_1.out) (fun e => e); clear cX1_0 cX1_1 cX1_2 cX1_3; have cX1_0 := hb.cell 0; have cX1_1 := hb.cell 1; have cX1_2 := hb.cell 2; have cX1_3 := hb.cell 3; simp at cX1_0 cX1_1 cX1_2 cX1_3; have HBX1_2 := Lib.hid hb; clear hb; clear t2)
      | (go_at_call 48; go_must (refine ((light10_any B D m l x.wk.length x.cl.length x.off _)).mono ?_); rintro e w1 ⟨rfl, t1⟩; rw [hd]; have hz1 := t1.size; (try simp at hz1); have HT1 := Lib.hid ((HT0.out).trans t1 (fun _ _ e => e)); have hb := t1.blk (HBX0_0.out) (fun e => e); have cX0_0 := hb.cell 0; have cX0_1 := hb.cell 1; have cX0_2 := hb.cell 2; simp at cX0_0 cX0_1 cX0_2; have HBX0_1 := Lib.hid hb; clear hb; have hb := t1.blk (HBX1_0.out) (fun e => e); have cX1_0 := hb.cell 0; have cX1_1 := hb.cell 1; have cX1_2 := hb.cell 2; have cX1_3 := hb.cell 3; simp at cX1_0 cX1_1 cX1_2 cX1_3; have HBX1_1 := Lib.hid hb; clear hb; clear t1))
    go_ret
    exact ⟨rfl, (HT4.out).below⟩
  by_cases hn1 : 1125899906842624 < now
  · clear hok HN hg
    go_enter Try.func11, Try.ntmps11
    go_wp2_with (first
      | (go_at_call 37; have HM4 := HT3; go_must (refine ((lives16_any _)).mono ?_); rintro e w4 ⟨rfl, t4⟩; have hz4 := t4.size; (try simp at hz4); have HT4 := Lib.hid ((HT3.out).trans t4 (fun _ _ e => e)); have hb := t4.blk (HBX0_3.out) (fun e => e); have HBX0_4 := Lib.hid hb; clear hb; have hb := t4.blk (HBX1_3.out) (fun e => e); have HBX1_4 := Lib.hid hb; clear hb; clear t4)
      | (go_at_call 31; have HM3 := HT2; go_must (refine ((HG.out _ (by exact HL.out.touch (HT2.out) (fun _ _ e => e)))).mono ?_); rintro e w3 ⟨rfl, t3⟩; have hz3 := t3.size; (try simp at hz3); have HT3 := Lib.hid ((HT2.out).trans t3 (fun _ _ e => e)); have hb := t3.blk (HBX0_2.out) (fun e => e); clear cX0_0 cX0_1 cX0_2; have cX0_0 := hb.cell 0; have cX0_1 := hb.cell 1; have cX0_2 := hb.cell 2; simp at cX0_0 cX0_1 cX0_2; have HBX0_3 := Lib.hid hb; clear hb; have hb := t3.blk (HBX1_2.out) (fun e => e); clear cX1_0 cX1_1 cX1_2 cX1_3; have cX1_0 := hb.cell 0; have cX1_1 := hb.cell 1; have cX1_2 := hb.cell 2; have cX1_3 := hb.cell 3; simp at cX1_0 cX1_1 cX1_2 cX1_3; have HBX1_3 := Lib.hid hb; clear hb; clear t3)
      | (go_at_call 24; have HM2 := HT1; go_must (refine ((HC.out _ (by exact HR.out.touch (HT1.out) (fun _ _ e => e)))).mono ?_); rintro e w2 ⟨rfl, t2⟩; have hz2 := t2.size; (try simp at hz2); have HT2 := Lib.hid ((HT1.out).trans t2 (fun _ _ e => e)); have hb := t2.blk (HBX0_1.out) (fun e => e); clear cX0_0 cX0_1 cX0_2; have cX0_0 := hb.cell 0; have cX0_1 := hb.cell 1; have cX0_2 := hb.cell 2; simp at cX0_0 cX0_1 cX0_2; have HBX0_2 := Lib.hid hb; clear hb; have hb := t2.blk (HBX1_1.out) (fun e => e); clear cX1_0 cX1_1 cX1_2 cX1_3; have cX1_0 := hb.cell 0; have cX1_1 := hb.cell 1; have cX1_2 := hb.cell 2; have cX1_3 := hb.cell 3; simp at cX1_0 cX1_1 cX1_2 cX1_3; have HBX1_2 := Lib.hid hb; clear hb; clear t2)
      | (go_at_call 48; go_must (refine ((light10_any B D m l x.wk.length x.cl.length x.off _)).mono ?_); rintro e w1 ⟨rfl, t1⟩; rw [hd]; have hz1 := t1.size; (try simp at hz1); have HT1 := Lib.hid ((HT0.out).trans t1 (fun _ _ e => e)); have hb := t1.blk (HBX0_0.out) (fun e => e); have cX0_0 := hb.cell 0; have cX0_1 := hb.cell 1; have cX0_2 := hb.cell 2; simp at cX0_0 cX0_1 cX0_2; have HBX0_1 := Lib.hid hb; clear hb; have hb := t1.blk (HBX1_0.out) (fun e => e); have cX1_0 := hb.cell 0; have cX1_1 := hb.cell 1; have cX1_2 := hb.cell 2; have cX1_3 := hb.cell 3; simp at cX1_0 cX1_1 cX1_2 cX1_3; have HBX1_1 := Lib.hid hb; clear hb; clear t1))
    go_ret
    exact ⟨rfl, (HT4.out).below⟩
  have H1 := Lib.hid (fun k a p b G w1 (hk : CkAt w1 k a p b x G) (h : SpR w1 (fun q => q < w.heap.size) A t2.lv.length t2.lv) => topen_any k a p b x G (fun q => q < w.heap.size) A n 1 2 t2 now w1 hk h)
  by_cases he : (topenV x 1 2 t2 now).2 = 0
  rotate_left
  · have hz := opened_no he
    have hne : ((topenV x 1 2 t2 now).2 != 0) = true := by simpa using he
    unfold CkT at H1
    rw [hz] at H1
    generalize (topenV x 1 2 t2 now).2 = er at *
    clear hok he hz hg
    go_enter Try.func11, Try.ntmps11
    go_wp2_with (first
      | (go_at_call 37; have HM6 := HT5; go_must (refine ((lives16_any _)).mono ?_); rintro e w6 ⟨rfl, t6⟩; have hz6 := t6.size; (try simp at hz6); have HT6 := Lib.hid ((HT5.out.alloc (.cells #[.int .u64 0, .int .i64 0, .int .i64 0, .int .i64 0, .int .u64 0, .int .i64 0, .int .i64 0, .int .i64 0, .int .i64 0] 74)).trans t6 (fun _ _ e => e)); have hb := t6.blk (HBX0_5.out.alloc (.cells #[.int .u64 0, .int .i64 0, .int .i64 0, .int .i64 0, .int .u64 0, .int .i64 0, .int .i64 0, .int .i64 0, .int .i64 0] 74)) (fun e => e); have HBX0_6 := Lib.hid hb; clear hb; have hb := t6.blk (HBX1_5.out.alloc (.cells #[.int .u64 0, .int .i64 0, .int .i64 0, .int .i64 0, .int .u64 0, .int .i64 0, .int .i64 0, .int .i64 0, .int .i64 0] 74)) (fun e => e); have HBX1_6 := Lib.hid hb; clear hb; have hb := t6.blk (Blk.new w5 74 #[.int .u64 0, .int .i64 0, .int .i64 0, .int .i64 0, .int .u64 0, .int .i64 0, .int .i64 0, .int .i64 0, .int .i64 0]) (fun e => e); have HBP1_6 := Lib.hid hb; clear hb; have HK6 := Lib.hid ((HK5.out.none ((Touch.refl (fun _ => False) w5).alloc (.cells #[.int .u64 0, .int .i64 0, .int .i64 0, .int .i64 0, .int .u64 0, .int .i64 0, .int .i64 0, .int .i64 0, .int .i64 0] 74))).none t6); clear t6)
      | (go_at_call 49; have HM5 := HT4; go_must (refine ((H1.out _ _ _ _ _ _ (by exact (HK4.out.none ((Touch.refl (fun _ => False) w4)))) (by exact HL.out.touch (HT4.out) (fun _ _ e => e)))).mono ?_); rintro e w5 ⟨rfl, ck, t5⟩; simp only [TkV.z]; have hz5 := t5.size; (try simp at hz5); have HT5 := Lib.hid ((HT4.out).trans t5 (fun q hq e => by omega)); have hb := t5.blk (HBX0_4.out) (by omega); clear cX0_0 cX0_1 cX0_2; have cX0_0 : (w5.alloc (.cells #[.int .u64 0, .int .i64 0, .int .i64 0, .int .i64 0, .int .u64 0, .int .i64 0, .int .i64 0, .int .i64 0, .int .i64 0] 74)).cell? ⟨w.heap.size, 0, none⟩ = some (.int .i64 x.off) := (hb.alloc _).cell 0; have cX0_1 : (w5.alloc (.cells #[.int .u64 0, .int .i64 0, .int .i64 0, .int .i64 0, .int .u64 0, .int .i64 0, .int .i64 0, .int .i64 0, .int .i64 0] 74)).cell? ⟨w.heap.size, 1, none⟩ = some (.slice B x.wk.length m) := (hb.alloc _).cell 1; have cX0_2 : (w5.alloc (.cells #[.int .u64 0, .int .i64 0, .int .i64 0, .int .i64 0, .int .u64 0, .int .i64 0, .int .i64 0, .int .i64 0, .int .i64 0] 74)).cell? ⟨w.heap.size, 2, none⟩ = some (.slice D x.cl.length l) := (hb.alloc _).cell 2; have HBX0_5 := Lib.hid hb; clear hb; have hb := t5.blk (HBX1_4.out) (by omega); clear cX1_0 cX1_1 cX1_2 cX1_3; have cX1_0 : (w5.alloc (.cells #[.int .u64 0, .int .i64 0, .int .i64 0, .int .i64 0, .int .u64 0, .int .i64 0, .int .i64 0, .int .i64 0, .int .i64 0] 74)).cell? ⟨(w.heap.size + 1), 0, none⟩ = some (.int .i64 t2.cal) := (hb.alloc _).cell 0; have cX1_1 : (w5.alloc (.cells #[.int .u64 0, .int .i64 0, .int .i64 0, .int .i64 0, .int .u64 0, .int .i64 0, .int .i64 0, .int .i64 0, .int .i64 0] 74)).cell? ⟨(w.heap.size + 1), 1, none⟩ = some (.slice A t2.lv.length n) := (hb.alloc _).cell 1; have cX1_2 : (w5.alloc (.cells #[.int .u64 0, .int .i64 0, .int .i64 0, .int .i64 0, .int .u64 0, .int .i64 0, .int .i64 0, .int .i64 0, .int .i64 0] 74)).cell? ⟨(w.heap.size + 1), 2, none⟩ = some (.int .i64 t2.rt) := (hb.alloc _).cell 2; have cX1_3 : (w5.alloc (.cells #[.int .u64 0, .int .i64 0, .int .i64 0, .int .i64 0, .int .u64 0, .int .i64 0, .int .i64 0, .int .i64 0, .int .i64 0] 74)).cell? ⟨(w.heap.size + 1), 3, none⟩ = some (.int .i64 t2.bk) := (hb.alloc _).cell 3; have HBX1_5 := Lib.hid hb; clear hb; have hnX0_5 : ¬ w.heap.size = w5.heap.size := (by omega); have hnX1_5 : ¬ (w.heap.size + 1) = w5.heap.size := (by omega); have HK5 := Lib.hid ck; clear ck; clear t5)
      | (go_at_call 26; have HM4 := HT3; go_must (refine ((HN.out _ (by exact HR.out.touch (HT3.out) (fun _ _ e => e)))).mono ?_); rintro e w4 ⟨k, a, p, b, rfl, ck, b1, b2, t4⟩; have hz4 := t4.size; (try simp at hz4); have HT4 := Lib.hid ((HT3.out).trans t4 (fun _ _ e => e)); have hb := t4.blk (HBX0_3.out) (fun e => e); clear cX0_0 cX0_1 cX0_2; have cX0_0 := hb.cell 0; have cX0_1 := hb.cell 1; have cX0_2 := hb.cell 2; simp at cX0_0 cX0_1 cX0_2; have HBX0_4 := Lib.hid hb; clear hb; have hb := t4.blk (HBX1_3.out) (fun e => e); clear cX1_0 cX1_1 cX1_2 cX1_3; have cX1_0 := hb.cell 0; have cX1_1 := hb.cell 1; have cX1_2 := hb.cell 2; have cX1_3 := hb.cell 3; simp at cX1_0 cX1_1 cX1_2 cX1_3; have HBX1_4 := Lib.hid hb; clear hb; have HK4 := Lib.hid ck; have hbl : w.heap.size + 2 ≤ b := (by have := b1; omega); have hbh : b < w4.heap.size := ck.bl; clear ck b1 b2; clear t4)
      | (go_at_call 31; have HM3 := HT2; go_must (refine ((HG.out _ (by exact HL.out.touch (HT2.out) (fun _ _ e => e)))).mono ?_); rintro e w3 ⟨rfl, t3⟩; have hz3 := t3.size; (try simp at hz3); have HT3 := Lib.hid ((HT2.out).trans t3 (fun _ _ e => e)); have hb := t3.blk (HBX0_2.out) (fun e => e); clear cX0_0 cX0_1 cX0_2; have cX0_0 := hb.cell 0; have cX0_1 := hb.cell 1; have cX0_2 := hb.cell 2; simp at cX0_0 cX0_1 cX0_2; have HBX0_3 := Lib.hid hb; clear hb; have hb := t3.blk (HBX1_2.out) (fun e => e); clear cX1_0 cX1_1 cX1_2 cX1_3; have cX1_0 := hb.cell 0; have cX1_1 := hb.cell 1; have cX1_2 := hb.cell 2; have cX1_3 := hb.cell 3; simp at cX1_0 cX1_1 cX1_2 cX1_3; have HBX1_3 := Lib.hid hb; clear hb; clear t3)
      | (go_at_call 24; have HM2 := HT1; go_must (refine ((HC.out _ (by exact HR.out.touch (HT1.out) (fun _ _ e => e)))).mono ?_); rintro e w2 ⟨rfl, t2⟩; have hz2 := t2.size; (try simp at hz2); have HT2 := Lib.hid ((HT1.out).trans t2 (fun _ _ e => e)); have hb := t2.blk (HBX0_1.out) (fun e => e); clear cX0_0 cX0_1 cX0_2; have cX0_0 := hb.cell 0; have cX0_1 := hb.cell 1; have cX0_2 := hb.cell 2; simp at cX0_0 cX0_1 cX0_2; have HBX0_2 := Lib.hid hb; clear hb; have hb := t2.blk (HBX1_1.out) (fun e => e); clear cX1_0 cX1_1 cX1_2 cX1_3; have cX1_0 := hb.cell 0; have cX1_1 := hb.cell 1; have cX1_2 := hb.cell 2; have cX1_3 := hb.cell 3; simp at cX1_0 cX1_1 cX1_2 cX1_3; have HBX1_2 := Lib.hid hb; clear hb; clear t2)
      | (go_at_call 48; go_must (refine ((light10_any B D m l x.wk.length x.cl.length x.off _)).mono ?_); rintro e w1 ⟨rfl, t1⟩; rw [hd]; have hz1 := t1.size; (try simp at hz1); have HT1 := Lib.hid ((HT0.out).trans t1 (fun _ _ e => e)); have hb := t1.blk (HBX0_0.out) (fun e => e); have cX0_0 := hb.cell 0; have cX0_1 := hb.cell 1; have cX0_2 := hb.cell 2; simp at cX0_0 cX0_1 cX0_2; have HBX0_1 := Lib.hid hb; clear hb; have hb := t1.blk (HBX1_0.out) (fun e => e); have cX1_0 := hb.cell 0; have cX1_1 := hb.cell 1; have cX1_2 := hb.cell 2; have cX1_3 := hb.cell 3; simp at cX1_0 cX1_1 cX1_2 cX1_3; have HBX1_1 := Lib.hid hb; clear hb; clear t1))
    go_ret
    exact ⟨rfl, (HT6.out).below⟩
  have hinv := TInv.opened hg (by omega) he
  unfold CkT at H1
  rw [he] at H1
  generalize (topenV x 1 2 t2 now).1 = t0 at *
  clear he
  have HINV := Lib.hid hinv
  have HOK := Lib.hid hok
  clear hinv hok
  go_enter Try.func11, Try.ntmps11
  go_wp2_with (first
    | (go_at_call 49; have HM5 := HT4; go_must (refine ((H1.out _ _ _ _ _ _ (by exact (HK4.out.none ((Touch.refl (fun _ => False) w4)))) (by exact HL.out.touch (HT4.out) (fun _ _ e => e)))).mono ?_); rintro e w5 ⟨rfl, ck, t5⟩; have hz5 := t5.size; (try simp at hz5); have HT5 := Lib.hid ((HT4.out).trans t5 (fun q hq e => by omega)); have hb := t5.blk (HBX0_4.out) (by omega); clear cX0_0 cX0_1 cX0_2; have cX0_0 : (w5.alloc (.cells #[.int .u64 t0.id, .int .i64 t0.contract, .int .i64 t0.state, .int .i64 t0.level, .int .u64 t0.gen, .int .i64 t0.from_, .int .i64 t0.left, .int .i64 t0.due, .int .i64 t0.told] 74)).cell? ⟨w.heap.size, 0, none⟩ = some (.int .i64 x.off) := (hb.alloc _).cell 0; have cX0_1 : (w5.alloc (.cells #[.int .u64 t0.id, .int .i64 t0.contract, .int .i64 t0.state, .int .i64 t0.level, .int .u64 t0.gen, .int .i64 t0.from_, .int .i64 t0.left, .int .i64 t0.due, .int .i64 t0.told] 74)).cell? ⟨w.heap.size, 1, none⟩ = some (.slice B x.wk.length m) := (hb.alloc _).cell 1; have cX0_2 : (w5.alloc (.cells #[.int .u64 t0.id, .int .i64 t0.contract, .int .i64 t0.state, .int .i64 t0.level, .int .u64 t0.gen, .int .i64 t0.from_, .int .i64 t0.left, .int .i64 t0.due, .int .i64 t0.told] 74)).cell? ⟨w.heap.size, 2, none⟩ = some (.slice D x.cl.length l) := (hb.alloc _).cell 2; have HBX0_5 := Lib.hid hb; clear hb; have hb := t5.blk (HBX1_4.out) (by omega); clear cX1_0 cX1_1 cX1_2 cX1_3; have cX1_0 : (w5.alloc (.cells #[.int .u64 t0.id, .int .i64 t0.contract, .int .i64 t0.state, .int .i64 t0.level, .int .u64 t0.gen, .int .i64 t0.from_, .int .i64 t0.left, .int .i64 t0.due, .int .i64 t0.told] 74)).cell? ⟨(w.heap.size + 1), 0, none⟩ = some (.int .i64 t2.cal) := (hb.alloc _).cell 0; have cX1_1 : (w5.alloc (.cells #[.int .u64 t0.id, .int .i64 t0.contract, .int .i64 t0.state, .int .i64 t0.level, .int .u64 t0.gen, .int .i64 t0.from_, .int .i64 t0.left, .int .i64 t0.due, .int .i64 t0.told] 74)).cell? ⟨(w.heap.size + 1), 1, none⟩ = some (.slice A t2.lv.length n) := (hb.alloc _).cell 1; have cX1_2 : (w5.alloc (.cells #[.int .u64 t0.id, .int .i64 t0.contract, .int .i64 t0.state, .int .i64 t0.level, .int .u64 t0.gen, .int .i64 t0.from_, .int .i64 t0.left, .int .i64 t0.due, .int .i64 t0.told] 74)).cell? ⟨(w.heap.size + 1), 2, none⟩ = some (.int .i64 t2.rt) := (hb.alloc _).cell 2; have cX1_3 : (w5.alloc (.cells #[.int .u64 t0.id, .int .i64 t0.contract, .int .i64 t0.state, .int .i64 t0.level, .int .u64 t0.gen, .int .i64 t0.from_, .int .i64 t0.left, .int .i64 t0.due, .int .i64 t0.told] 74)).cell? ⟨(w.heap.size + 1), 3, none⟩ = some (.int .i64 t2.bk) := (hb.alloc _).cell 3; have HBX1_5 := Lib.hid hb; clear hb; have hnX0_5 : ¬ w.heap.size = w5.heap.size := (by omega); have hnX1_5 : ¬ (w.heap.size + 1) = w5.heap.size := (by omega); have HK5 := Lib.hid ck; clear ck; clear t5)
    | (go_at_call 26; have HM4 := HT3; go_must (refine ((HN.out _ (by exact HR.out.touch (HT3.out) (fun _ _ e => e)))).mono ?_); rintro e w4 ⟨k, a, p, b, rfl, ck, b1, b2, t4⟩; have hz4 := t4.size; (try simp at hz4); have HT4 := Lib.hid ((HT3.out).trans t4 (fun _ _ e => e)); have hb := t4.blk (HBX0_3.out) (fun e => e); clear cX0_0 cX0_1 cX0_2; have cX0_0 := hb.cell 0; have cX0_1 := hb.cell 1; have cX0_2 := hb.cell 2; simp at cX0_0 cX0_1 cX0_2; have HBX0_4 := Lib.hid hb; clear hb; have hb := t4.blk (HBX1_3.out) (fun e => e); clear cX1_0 cX1_1 cX1_2 cX1_3; have cX1_0 := hb.cell 0; have cX1_1 := hb.cell 1; have cX1_2 := hb.cell 2; have cX1_3 := hb.cell 3; simp at cX1_0 cX1_1 cX1_2 cX1_3; have HBX1_4 := Lib.hid hb; clear hb; have HK4 := Lib.hid ck; have hbl : w.heap.size + 2 ≤ b := (by have := b1; omega); have hbh : b < w4.heap.size := ck.bl; clear ck b1 b2; clear t4)
    | (go_at_call 31; have HM3 := HT2; go_must (refine ((HG.out _ (by exact HL.out.touch (HT2.out) (fun _ _ e => e)))).mono ?_); rintro e w3 ⟨rfl, t3⟩; have hz3 := t3.size; (try simp at hz3); have HT3 := Lib.hid ((HT2.out).trans t3 (fun _ _ e => e)); have hb := t3.blk (HBX0_2.out) (fun e => e); clear cX0_0 cX0_1 cX0_2; have cX0_0 := hb.cell 0; have cX0_1 := hb.cell 1; have cX0_2 := hb.cell 2; simp at cX0_0 cX0_1 cX0_2; have HBX0_3 := Lib.hid hb; clear hb; have hb := t3.blk (HBX1_2.out) (fun e => e); clear cX1_0 cX1_1 cX1_2 cX1_3; have cX1_0 := hb.cell 0; have cX1_1 := hb.cell 1; have cX1_2 := hb.cell 2; have cX1_3 := hb.cell 3; simp at cX1_0 cX1_1 cX1_2 cX1_3; have HBX1_3 := Lib.hid hb; clear hb; clear t3)
    | (go_at_call 24; have HM2 := HT1; go_must (refine ((HC.out _ (by exact HR.out.touch (HT1.out) (fun _ _ e => e)))).mono ?_); rintro e w2 ⟨rfl, t2⟩; have hz2 := t2.size; (try simp at hz2); have HT2 := Lib.hid ((HT1.out).trans t2 (fun _ _ e => e)); have hb := t2.blk (HBX0_1.out) (fun e => e); clear cX0_0 cX0_1 cX0_2; have cX0_0 := hb.cell 0; have cX0_1 := hb.cell 1; have cX0_2 := hb.cell 2; simp at cX0_0 cX0_1 cX0_2; have HBX0_2 := Lib.hid hb; clear hb; have hb := t2.blk (HBX1_1.out) (fun e => e); clear cX1_0 cX1_1 cX1_2 cX1_3; have cX1_0 := hb.cell 0; have cX1_1 := hb.cell 1; have cX1_2 := hb.cell 2; have cX1_3 := hb.cell 3; simp at cX1_0 cX1_1 cX1_2 cX1_3; have HBX1_2 := Lib.hid hb; clear hb; clear t2)
    | (go_at_call 48; go_must (refine ((light10_any B D m l x.wk.length x.cl.length x.off _)).mono ?_); rintro e w1 ⟨rfl, t1⟩; rw [hd]; have hz1 := t1.size; (try simp at hz1); have HT1 := Lib.hid ((HT0.out).trans t1 (fun _ _ e => e)); have hb := t1.blk (HBX0_0.out) (fun e => e); have cX0_0 := hb.cell 0; have cX0_1 := hb.cell 1; have cX0_2 := hb.cell 2; simp at cX0_0 cX0_1 cX0_2; have HBX0_1 := Lib.hid hb; clear hb; have hb := t1.blk (HBX1_0.out) (fun e => e); have cX1_0 := hb.cell 0; have cX1_1 := hb.cell 1; have cX1_2 := hb.cell 2; have cX1_3 := hb.cell 3; simp at cX1_0 cX1_1 cX1_2 cX1_3; have HBX1_1 := Lib.hid hb; clear hb; clear t1))
  obtain ⟨W5, hW5⟩ : ∃ W5, W5 = w5.alloc (.cells #[.int .u64 t0.id, .int .i64 t0.contract, .int .i64 t0.state, .int .i64 t0.level, .int .u64 t0.gen, .int .i64 t0.from_, .int .i64 t0.left, .int .i64 t0.due, .int .i64 t0.told] 74) := ⟨_, rfl⟩
  have HS0 := Lib.hid (show TsSt w W5 k a p b w5.heap.size w5.heap.size x #[.int .i64 x.off, .slice B x.wk.length m, .slice D x.cl.length l] #[.int .i64 t2.cal, .slice A t2.lv.length n, .int .i64 t2.rt, .int .i64 t2.bk] #[.int .u64 t0.id, .int .i64 t0.contract, .int .i64 t0.state, .int .i64 t0.level, .int .u64 t0.gen, .int .i64 t0.from_, .int .i64 t0.left, .int .i64 t0.due, .int .i64 t0.told] from hW5 ▸ by
    have ta := (Touch.refl (fun _ => False) w5).alloc (.cells #[.int .u64 t0.id, .int .i64 t0.contract, .int .i64 t0.state, .int .i64 t0.level, .int .u64 t0.gen, .int .i64 t0.from_, .int .i64 t0.left, .int .i64 t0.due, .int .i64 t0.told] 74)
    exact ⟨⟨_, HK5.out.shrink.none ta, fun e => by have := e.2; omega, fun e => by have := e.2; omega⟩, HT5.out.alloc _, HBX0_5.out.alloc _, HBX1_5.out.alloc _, Blk.new _ _ _⟩)
  have hNT1 : w.heap.size + 2 ≤ b := by omega
  have hNT2 : b < w5.heap.size := by omega
  rw [← hW5]
  generalize w5.heap.size = NT at *
  have HS3 := Lib.hid s3
  have HGD := Lib.hid hg
  have hgl := good_hd hg
  clear hW5 HT0 HT1 HT2 HT3 HT4 HT5 HK4 HK5 HBX0_0 HBX0_1 HBX0_2 HBX0_3 HBX0_4 HBX0_5 HBX1_0 HBX1_1 HBX1_2 HBX1_3 HBX1_4 HBX1_5 cX0_0 cX0_1 cX0_2 cX1_0 cX1_1 cX1_2 cX1_3 H1 HN HG HC HR s3 hg g3 z3 hl hd
  go_loopw [2, 12, 13, 14, 74] (fun vn ve vx vt vi wr => ∃ (j : Nat) (nw nx td er : Int) (t : TkV), j ≤ list.length ∧ vi = .int .i64 j ∧ vn = .int .i64 nw ∧ ve = .int .i64 er ∧ vx = .int .i64 nx ∧ vt = .int .i64 td ∧ TInv x t2 t nx td nw ∧ td ≤ j ∧ nw ≤ 1125899906842624 + j * 4294967296 ∧ TsSt w wr k a p b NT NT x #[.int .i64 x.off, .slice B x.wk.length m, .slice D x.cl.length l] #[.int .i64 t2.cal, .slice A t2.lv.length n, .int .i64 t2.rt, .int .i64 t2.bk] #[.int .u64 t.id, .int .i64 t.contract, .int .i64 t.state, .int .i64 t.level, .int .u64 t.gen, .int .i64 t.from_, .int .i64 t.left, .int .i64 t.due, .int .i64 t.told]) (fun _ _ _ _ vi _ => list.length - (intOf vi).toNat)
  case atStart => exact ⟨0, now, 0, 0, 0, t0, by omega, rfl, rfl, rfl, rfl, rfl, HINV.out, by omega, by omega, HS0.out⟩
  case round =>
    obtain ⟨j, nw, nx, td, er, t, hj, rfl, rfl, rfl, rfl, rfl, hinv, htd, hnw, hts⟩ := hrel
    have HI := Lib.hid hinv
    have HS := Lib.hid hts
    have hn00 := hinv.now0
    have hlv := hinv.lev
    have HTT := Lib.hid hinv.told
    have htb : 0 ≤ td := hinv.told.2.1
    clear hinv hts HINV HS0
    by_cases hjk : j < list.length
    · have ha : list[j]? = some (list[j]'hjk) := List.getElem?_eq_getElem _
      have hb3 := o3 _ (List.getElem_mem hjk)
      obtain ⟨g, off, rfl, hgz, -, hcs⟩ := (HS3.out.touch HS.out.t (fun _ _ e => e)).at_ (fun a _ => rfl) rfl ha
      generalize list[j]'hjk = ac at *
      obtain ⟨kd, wt⟩ := ac
      simp only at hb3
      have c0 : wr.cell? ⟨g, off + j * 2, none⟩ = some (.int .i64 kd) := hcs 0 _ rfl
      have c1 : wr.cell? ⟨g, off + j * 2 + 1, none⟩ = some (.int .u32 wt) := hcs 1 _ rfl
      clear hcs ha
      have hbt := HS.out.bt
      have q0 := hbt.cell 0; have q1 := hbt.cell 1; have q2 := hbt.cell 2; have q3 := hbt.cell 3; have q4 := hbt.cell 4; have q5 := hbt.cell 5; have q6 := hbt.cell 6; have q7 := hbt.cell 7; have q8 := hbt.cell 8; simp at q0 q1 q2 q3 q4 q5 q6 q7 q8
      have fq0 := hbt.frozen 0; have fq1 := hbt.frozen 1; have fq2 := hbt.frozen 2; have fq3 := hbt.frozen 3; have fq4 := hbt.frozen 4; have fq5 := hbt.frozen 5; have fq6 := hbt.frozen 6; have fq7 := hbt.frozen 7; have fq8 := hbt.frozen 8
      have hNl := hbt.lt
      have hN0 : ¬ NT = wr.heap.size := by omega
      have hN1 : ¬ wr.heap.size = NT := by omega
      clear hbt
      have hwn : IntKind.i64.wrap (nw + (wt : Int)) = nw + (wt : Int) := IntWalk.i64_in _ (by omega)
      have hwt : IntKind.i64.wrap (wt : Int) = (wt : Int) := IntWalk.i64_in _ (by omega)
      have hwj : IntKind.i64.wrap ((j : Int) + 1) = (j : Int) + 1 := IntWalk.i64_in _ (by omega)
      go_upto_if 81 with fail
      go_cut [] (fun wx => ∃ tv : TkV, TInv x t2 tv nx td (nw + (wt : Int)) ∧ tkSound tv = true ∧ TsSt w wx k a p b NT NT x #[.int .i64 x.off, .slice B x.wk.length m, .slice D x.cl.length l] #[.int .i64 t2.cal, .slice A t2.lv.length n, .int .i64 t2.rt, .int .i64 t2.bk] #[.int .u64 tv.id, .int .i64 tv.contract, .int .i64 tv.state, .int .i64 tv.level, .int .u64 tv.gen, .int .i64 tv.from_, .int .i64 tv.left, .int .i64 tv.due, .int .i64 tv.told] ∧ Blk wx wr.heap.size 98 #[.int .i64 kd, .int .u32 wt] ∧ wr.heap.size < wx.heap.size)
      case first =>
        by_cases hst : t.state = 1
        · have hsb : (t.state == 1) = true := by simpa using hst
          have HIv := Lib.hid (show TInv x t2 ⟨t.id, t.contract, 1, t.level, j + 1, t.from_, t.left, t.due, t.told⟩ nx td (nw + (wt : Int)) from by have h := (HI.out.gen hst (j + 1)).mono (show nw ≤ nw + (wt : Int) by omega); rw [hst] at h; exact h)
          have HSo := Lib.hid (show tkSound ⟨t.id, t.contract, 1, t.level, j + 1, t.from_, t.left, t.due, t.told⟩ = true from HIv.out.sound (by omega) (fun _ => ⟨by simp, by show j + 1 ≤ _; omega⟩))
          have HSg := Lib.hid (show TsSt w ((wr.setCell ⟨NT, 4, none⟩ (.int .u64 ((j : Int) + 1))).alloc (.cells #[.int .i64 kd, .int .u32 wt] 98)) k a p b NT NT x #[.int .i64 x.off, .slice B x.wk.length m, .slice D x.cl.length l] #[.int .i64 t2.cal, .slice A t2.lv.length n, .int .i64 t2.rt, .int .i64 t2.bk] #[.int .u64 t.id, .int .i64 t.contract, .int .i64 1, .int .i64 t.level, .int .u64 ((j : Int) + 1), .int .i64 t.from_, .int .i64 t.left, .int .i64 t.due, .int .i64 t.told] from by
            have hb4 := HS.out.bt.set_ 4 (.int .u64 ((j : Int) + 1))
            have t4 : Touch (fun q => q = NT) wr (wr.setCell ⟨NT, 4, none⟩ (.int .u64 ((j : Int) + 1))) := (Touch.refl (fun q => q = NT) wr).set (b := NT) (o := 4) (fun _ => rfl) _
            exact (HS.out.setT hNT1 hNT2 t4 (show Blk _ NT 74 #[.int .u64 t.id, .int .i64 t.contract, .int .i64 1, .int .i64 t.level, .int .u64 ((j : Int) + 1), .int .i64 t.from_, .int .i64 t.left, .int .i64 t.due, .int .i64 t.told] from by have h := hb4; rw [hst] at h; exact h)).far ((Touch.refl (fun _ => False) _).alloc _))
          have HBA := Lib.hid (show Blk ((wr.setCell ⟨NT, 4, none⟩ (.int .u64 ((j : Int) + 1))).alloc (.cells #[.int .i64 kd, .int .u32 wt] 98)) wr.heap.size 98 #[.int .i64 kd, .int .u32 wt] from by simpa using Blk.new (wr.setCell ⟨NT, 4, none⟩ (.int .u64 ((j : Int) + 1))) 98 #[.int .i64 kd, .int .u32 wt])
          clear hst
          go_wp2
          go_meet
          exact ⟨_, HIv.out, HSo.out, HSg.out, HBA.out, HBA.out.lt⟩
        · have hsb : (t.state == 1) = false := by simpa using hst
          have HIv := Lib.hid (HI.out.mono (show nw ≤ nw + (wt : Int) by omega))
          have HSo := Lib.hid (show tkSound t = true from HIv.out.sound (by omega) (fun h => absurd h hst))
          have HSg := Lib.hid (HS.out.far ((Touch.refl (fun _ => False) wr).alloc (.cells #[.int .i64 kd, .int .u32 wt] 98)))
          have HBA := Lib.hid (Blk.new wr 98 #[.int .i64 kd, .int .u32 wt])
          clear hst
          go_wp2
          go_meet
          exact ⟨_, HIv.out, HSo.out, HSg.out, HBA.out, HBA.out.lt⟩
      case rest =>
        obtain ⟨tv, hiv, hso0, hsg, hba, hbal⟩ := hcut
        have HIv := Lib.hid hiv
        have HSg := Lib.hid hsg
        have HBA := Lib.hid hba
        have HSo := Lib.hid (fun w1 => (show Calls Try.prog 38 #[.agg #[.int .u64 tv.id, .int .i64 tv.contract, .int .i64 tv.state, .int .i64 tv.level, .int .u64 tv.gen, .int .i64 tv.from_, .int .i64 tv.left, .int .i64 tv.due, .int .i64 tv.told]] w1 fun e w' => e = .returned (.bool true) ∧ Touch (fun _ => False) w1 w' from by have h := ttk_any tv w1 hiv.ok.1; rw [hso0] at h; exact h))
        have hle : tv.left ≤ 9223372036854775807 := by have := hiv.ok.2; omega
        have htld0 : 0 ≤ tv.told := by have := hiv.told; omega
        have hbt := hsg.bt
        have q0 := hbt.cell 0; have q1 := hbt.cell 1; have q2 := hbt.cell 2; have q3 := hbt.cell 3; have q4 := hbt.cell 4; have q5 := hbt.cell 5; have q6 := hbt.cell 6; have q7 := hbt.cell 7; have q8 := hbt.cell 8; simp at q0 q1 q2 q3 q4 q5 q6 q7 q8
        have a1 := hba.cell 1
        simp at a1
        clear hiv hso0 hsg hba hbt HI HS hn00 hlv HTT
        generalize wr.heap.size = NA at *
        go_upto_block 2 with (first
          | (go_at_call 38; go_must (refine (HSo.out _).mono ?_); rintro e2 w2 ⟨rfl, tt2⟩; have HS2 := Lib.hid (HSg.out.far tt2); have hb := HS2.out.bt; clear q0 q1 q2 q3 q4 q5 q6 q7 q8 a1; have q0 := hb.cell 0; have q1 := hb.cell 1; have q2 := hb.cell 2; have q3 := hb.cell 3; have q4 := hb.cell 4; have q5 := hb.cell 5; have q6 := hb.cell 6; have q7 := hb.cell 7; have q8 := hb.cell 8; simp at q0 q1 q2 q3 q4 q5 q6 q7 q8; have HBA2 := Lib.hid (tt2.blk HBA.out (fun e => e)); have A0 := (HBA2.out.alloc (.cells #[.int .u64 tv.id, .int .i64 tv.contract, .int .i64 tv.state, .int .i64 tv.level, .int .u64 tv.gen, .int .i64 tv.from_, .int .i64 tv.left, .int .i64 tv.due, .int .i64 tv.told] 74)).cell 0; have a1 := HBA2.out.cell 1; simp at A0 a1; have hal2 : ¬ NA = w2.heap.size := (by have := HBA2.out.lt; omega); clear hb tt2))
        have HSb0 := Lib.hid (HS2.out.new (.cells #[.int .u64 tv.id, .int .i64 tv.contract, .int .i64 tv.state, .int .i64 tv.level, .int .u64 tv.gen, .int .i64 tv.from_, .int .i64 tv.left, .int .i64 tv.due, .int .i64 tv.told] 74))
        have HBU0 := Lib.hid (Blk.new w2 74 #[.int .u64 tv.id, .int .i64 tv.contract, .int .i64 tv.state, .int .i64 tv.level, .int .u64 tv.gen, .int .i64 tv.from_, .int .i64 tv.left, .int .i64 tv.due, .int .i64 tv.told])
        have hNTl := HS2.out.bt.lt
        have hNUl0 : w2.heap.size < (w2.alloc (.cells #[.int .u64 tv.id, .int .i64 tv.contract, .int .i64 tv.state, .int .i64 tv.level, .int .u64 tv.gen, .int .i64 tv.from_, .int .i64 tv.left, .int .i64 tv.due, .int .i64 tv.told] 74)).heap.size := by simp
        obtain ⟨WB, hWB⟩ : ∃ WB, WB = w2.alloc (.cells #[.int .u64 tv.id, .int .i64 tv.contract, .int .i64 tv.state, .int .i64 tv.level, .int .u64 tv.gen, .int .i64 tv.from_, .int .i64 tv.left, .int .i64 tv.due, .int .i64 tv.told] 74) := ⟨_, rfl⟩
        obtain ⟨NU, hNU⟩ : ∃ NU, NU = w2.heap.size := ⟨_, rfl⟩
        rw [← hWB] at HSb0 HBU0 hNUl0 A0 ⊢
        rw [← hNU] at HSb0 HBU0 hNUl0 hNTl hal2 ⊢
        have HSb := HSb0
        have HBU := HBU0
        have hNUl := hNUl0
        have hNTU : NT < NU := hNTl
        have hb := HSb.out.bt
        have X0 := hb.cell 0; have X1 := hb.cell 1; have X2 := hb.cell 2; have X3 := hb.cell 3; have X4 := hb.cell 4; have X5 := hb.cell 5; have X6 := hb.cell 6; have X7 := hb.cell 7; have X8 := hb.cell 8; simp at X0 X1 X2 X3 X4 X5 X6 X7 X8
        have hby := HSb.out.b1
        have Y0 := hby.cell 0; have Y1 := hby.cell 1; have Y2 := hby.cell 2; have Y3 := hby.cell 3; simp at Y0 Y1 Y2 Y3
        have HSZ := HSb
        obtain ⟨G, ck, g1, g2⟩ := HSb.out.ck
        have HCK := Lib.hid ck
        have HGG := Lib.hid (And.intro g1 g2)
        clear ck g1 g2 hb hby HSb0 HBU0 hNUl0 hNTl hWB hNU q0 q1 q2 q3 q4 q5 q6 q7 q8 a1 HS2 HBA2 HSg HBA HSo
        go_cut [12, 13, 14] (fun se sn st wx => ∃ (rv : TkV) (er nx' td' : Int), se = .int .i64 er ∧ sn = .int .i64 nx' ∧ st = .int .i64 td' ∧ TsSt w wx k a p b NT NU x #[.int .i64 x.off, .slice B x.wk.length m, .slice D x.cl.length l] #[.int .i64 t2.cal, .slice A t2.lv.length n, .int .i64 t2.rt, .int .i64 t2.bk] #[.int .u64 tv.id, .int .i64 tv.contract, .int .i64 tv.state, .int .i64 tv.level, .int .u64 tv.gen, .int .i64 tv.from_, .int .i64 tv.left, .int .i64 tv.due, .int .i64 tv.told] ∧ Blk wx NU 74 #[.int .u64 rv.id, .int .i64 rv.contract, .int .i64 rv.state, .int .i64 rv.level, .int .u64 rv.gen, .int .i64 rv.from_, .int .i64 rv.left, .int .i64 rv.due, .int .i64 rv.told] ∧ (er = 0 → TInv x t2 rv nx' td' (nw + (wt : Int)) ∧ td' ≤ td + 1) ∧ (er ≠ 0 → nx' = nx ∧ td' = td))
        case first =>
          by_cases hk1 : kd = 1
          · subst hk1
            have HA := Lib.hid (fun G w1 (hk : CkAt w1 k a p b x G) => tresume_any k a p b x G tv (nw + (wt : Int)) w1 hk hle)
            unfold CkT at HA
            have HE := Lib.hid (fun (h : (tresumeV x tv (nw + (wt : Int))).2 = 0) => TInv.resume HIv.out h)
            generalize tresumeV x tv (nw + (wt : Int)) = r at *
            obtain ⟨rv, er2⟩ := r
            simp only at HA HE
            by_cases he2 : er2 = 0
            · subst he2
              have HI2 := Lib.hid (HE.out rfl)
              clear HE
              as_aux_lemma =>
                go_wp2_with (first
                  | (go_at_call 50; go_must (refine (HA.out _ _ (by exact HCK.out)).mono ?_); rintro e4 w4 ⟨rfl, ck4, t4⟩; have HS4 := Lib.hid (HSb.out.clk HGG.out.1 HGG.out.2 hNUl hNT1 hNT2 ck4 t4); have HBU4 := Lib.hid (t4.blk HBU.out (by omega)); clear ck4 t4 X0 X1 X2 X3 X4 X5 X6 X7 X8 Y0 Y1 Y2 Y3)
                  | (refine storeM rowTk _ _ rfl rfl NU rfl #[.int .u64 rv.id, .int .i64 rv.contract, .int .i64 rv.state, .int .i64 rv.level, .int .u64 rv.gen, .int .i64 rv.from_, .int .i64 rv.left, .int .i64 rv.due, .int .i64 rv.told] rfl _ _ HBU4.out rfl rfl (tk_one ..) ?_; intro w5 hb5 t5; have HS5 := Lib.hid (HS4.out.setU (by omega) hNT1 hNT2 t5); have HBU5 := Lib.hid hb5; have u0 := hb5.cell 0; have u1 := hb5.cell 1; have u2 := hb5.cell 2; have u3 := hb5.cell 3; have u4 := hb5.cell 4; have u5 := hb5.cell 5; have u6 := hb5.cell 6; have u7 := hb5.cell 7; have u8 := hb5.cell 8; simp at u0 u1 u2 u3 u4 u5 u6 u7 u8; clear hb5 t5))
                go_meet
                exact ⟨rv, 0, nx, td, rfl, rfl, rfl, HS5.out, HBU5.out, fun _ => ⟨HI2.out, by omega⟩, fun h => absurd rfl h⟩
            · have hne2 : (er2 == 0) = false := by simpa using he2
              have HNE := Lib.hid he2
              clear he2 HE
              as_aux_lemma =>
                go_wp2_with (first
                  | (go_at_call 50; go_must (refine (HA.out _ _ (by exact HCK.out)).mono ?_); rintro e4 w4 ⟨rfl, ck4, t4⟩; have HS4 := Lib.hid (HSb.out.clk HGG.out.1 HGG.out.2 hNUl hNT1 hNT2 ck4 t4); have HBU4 := Lib.hid (t4.blk HBU.out (by omega)); clear ck4 t4 X0 X1 X2 X3 X4 X5 X6 X7 X8 Y0 Y1 Y2 Y3)
                  | (refine storeM rowTk _ _ rfl rfl NU rfl #[.int .u64 rv.id, .int .i64 rv.contract, .int .i64 rv.state, .int .i64 rv.level, .int .u64 rv.gen, .int .i64 rv.from_, .int .i64 rv.left, .int .i64 rv.due, .int .i64 rv.told] rfl _ _ HBU4.out rfl rfl (tk_one ..) ?_; intro w5 hb5 t5; have HS5 := Lib.hid (HS4.out.setU (by omega) hNT1 hNT2 t5); have HBU5 := Lib.hid hb5; have u0 := hb5.cell 0; have u1 := hb5.cell 1; have u2 := hb5.cell 2; have u3 := hb5.cell 3; have u4 := hb5.cell 4; have u5 := hb5.cell 5; have u6 := hb5.cell 6; have u7 := hb5.cell 7; have u8 := hb5.cell 8; simp at u0 u1 u2 u3 u4 u5 u6 u7 u8; clear hb5 t5))
                go_meet
                exact ⟨rv, er2, nx, td, rfl, rfl, rfl, HS5.out, HBU5.out, fun h => absurd h HNE.out, fun _ => ⟨rfl, rfl⟩⟩
          by_cases hk2 : kd = 2
          · subst hk2
            have HA := Lib.hid (fun w1 => tresolve_any tv w1)
            have HE := Lib.hid (fun (h : (tresolveV tv).2 = 0) => TInv.resolve HIv.out h)
            generalize tresolveV tv = r at *
            obtain ⟨rv, er2⟩ := r
            simp only at HA HE
            by_cases he2 : er2 = 0
            · subst he2
              have HI2 := Lib.hid (HE.out rfl)
              clear HE
              as_aux_lemma =>
                go_wp2_with (first
                  | (go_at_call 51; go_must (refine (HA.out _).mono ?_); rintro e4 w4 ⟨rfl, t4⟩; have HS4 := Lib.hid (HSb.out.far t4); have HBU4 := Lib.hid (t4.blk HBU.out (fun e => e)); clear t4 X0 X1 X2 X3 X4 X5 X6 X7 X8 Y0 Y1 Y2 Y3)
                  | (refine storeM rowTk _ _ rfl rfl NU rfl #[.int .u64 rv.id, .int .i64 rv.contract, .int .i64 rv.state, .int .i64 rv.level, .int .u64 rv.gen, .int .i64 rv.from_, .int .i64 rv.left, .int .i64 rv.due, .int .i64 rv.told] rfl _ _ HBU4.out rfl rfl (tk_one ..) ?_; intro w5 hb5 t5; have HS5 := Lib.hid (HS4.out.setU (by omega) hNT1 hNT2 t5); have HBU5 := Lib.hid hb5; have u0 := hb5.cell 0; have u1 := hb5.cell 1; have u2 := hb5.cell 2; have u3 := hb5.cell 3; have u4 := hb5.cell 4; have u5 := hb5.cell 5; have u6 := hb5.cell 6; have u7 := hb5.cell 7; have u8 := hb5.cell 8; simp at u0 u1 u2 u3 u4 u5 u6 u7 u8; clear hb5 t5))
                go_meet
                exact ⟨rv, 0, nx, td, rfl, rfl, rfl, HS5.out, HBU5.out, fun _ => ⟨HI2.out, by omega⟩, fun h => absurd rfl h⟩
            · have hne2 : (er2 == 0) = false := by simpa using he2
              have HNE := Lib.hid he2
              clear he2 HE
              as_aux_lemma =>
                go_wp2_with (first
                  | (go_at_call 51; go_must (refine (HA.out _).mono ?_); rintro e4 w4 ⟨rfl, t4⟩; have HS4 := Lib.hid (HSb.out.far t4); have HBU4 := Lib.hid (t4.blk HBU.out (fun e => e)); clear t4 X0 X1 X2 X3 X4 X5 X6 X7 X8 Y0 Y1 Y2 Y3)
                  | (refine storeM rowTk _ _ rfl rfl NU rfl #[.int .u64 rv.id, .int .i64 rv.contract, .int .i64 rv.state, .int .i64 rv.level, .int .u64 rv.gen, .int .i64 rv.from_, .int .i64 rv.left, .int .i64 rv.due, .int .i64 rv.told] rfl _ _ HBU4.out rfl rfl (tk_one ..) ?_; intro w5 hb5 t5; have HS5 := Lib.hid (HS4.out.setU (by omega) hNT1 hNT2 t5); have HBU5 := Lib.hid hb5; have u0 := hb5.cell 0; have u1 := hb5.cell 1; have u2 := hb5.cell 2; have u3 := hb5.cell 3; have u4 := hb5.cell 4; have u5 := hb5.cell 5; have u6 := hb5.cell 6; have u7 := hb5.cell 7; have u8 := hb5.cell 8; simp at u0 u1 u2 u3 u4 u5 u6 u7 u8; clear hb5 t5))
                go_meet
                exact ⟨rv, er2, nx, td, rfl, rfl, rfl, HS5.out, HBU5.out, fun h => absurd h HNE.out, fun _ => ⟨rfl, rfl⟩⟩
          by_cases hk3 : kd = 3
          · subst hk3
            have HA := Lib.hid (fun G w1 (hk : CkAt w1 k a p b x G) (hl : SpR w1 (fun q => q < w.heap.size) A t2.lv.length t2.lv) => treopen_any k a p b x G (fun q => q < w.heap.size) A n tv t2 (nw + (wt : Int)) w1 hk hl)
            unfold CkT at HA
            have HE := Lib.hid (fun (h : (treopenV x tv t2 (nw + (wt : Int))).2 = 0) => TInv.reopen HIv.out HGD.out h)
            generalize treopenV x tv t2 (nw + (wt : Int)) = r at *
            obtain ⟨rv, er2⟩ := r
            simp only at HA HE
            by_cases he2 : er2 = 0
            · subst he2
              have HI2 := Lib.hid (HE.out rfl)
              clear HE
              as_aux_lemma =>
                go_wp2_with (first
                  | (go_at_call 52; go_must (refine (HA.out _ _ (by exact HCK.out) (by exact HL.out.touch HSb.out.t (fun _ _ e => e))).mono ?_); rintro e4 w4 ⟨rfl, ck4, t4⟩; have HS4 := Lib.hid (HSb.out.clk HGG.out.1 HGG.out.2 hNUl hNT1 hNT2 ck4 t4); have HBU4 := Lib.hid (t4.blk HBU.out (by omega)); clear ck4 t4 X0 X1 X2 X3 X4 X5 X6 X7 X8 Y0 Y1 Y2 Y3)
                  | (refine storeM rowTk _ _ rfl rfl NU rfl #[.int .u64 rv.id, .int .i64 rv.contract, .int .i64 rv.state, .int .i64 rv.level, .int .u64 rv.gen, .int .i64 rv.from_, .int .i64 rv.left, .int .i64 rv.due, .int .i64 rv.told] rfl _ _ HBU4.out rfl rfl (tk_one ..) ?_; intro w5 hb5 t5; have HS5 := Lib.hid (HS4.out.setU (by omega) hNT1 hNT2 t5); have HBU5 := Lib.hid hb5; have u0 := hb5.cell 0; have u1 := hb5.cell 1; have u2 := hb5.cell 2; have u3 := hb5.cell 3; have u4 := hb5.cell 4; have u5 := hb5.cell 5; have u6 := hb5.cell 6; have u7 := hb5.cell 7; have u8 := hb5.cell 8; simp at u0 u1 u2 u3 u4 u5 u6 u7 u8; clear hb5 t5))
                go_meet
                exact ⟨rv, 0, 0, td, rfl, rfl, rfl, HS5.out, HBU5.out, fun _ => ⟨HI2.out, by omega⟩, fun h => absurd rfl h⟩
            · have hne2 : (er2 == 0) = false := by simpa using he2
              have HNE := Lib.hid he2
              clear he2 HE
              as_aux_lemma =>
                go_wp2_with (first
                  | (go_at_call 52; go_must (refine (HA.out _ _ (by exact HCK.out) (by exact HL.out.touch HSb.out.t (fun _ _ e => e))).mono ?_); rintro e4 w4 ⟨rfl, ck4, t4⟩; have HS4 := Lib.hid (HSb.out.clk HGG.out.1 HGG.out.2 hNUl hNT1 hNT2 ck4 t4); have HBU4 := Lib.hid (t4.blk HBU.out (by omega)); clear ck4 t4 X0 X1 X2 X3 X4 X5 X6 X7 X8 Y0 Y1 Y2 Y3)
                  | (refine storeM rowTk _ _ rfl rfl NU rfl #[.int .u64 rv.id, .int .i64 rv.contract, .int .i64 rv.state, .int .i64 rv.level, .int .u64 rv.gen, .int .i64 rv.from_, .int .i64 rv.left, .int .i64 rv.due, .int .i64 rv.told] rfl _ _ HBU4.out rfl rfl (tk_one ..) ?_; intro w5 hb5 t5; have HS5 := Lib.hid (HS4.out.setU (by omega) hNT1 hNT2 t5); have HBU5 := Lib.hid hb5; have u0 := hb5.cell 0; have u1 := hb5.cell 1; have u2 := hb5.cell 2; have u3 := hb5.cell 3; have u4 := hb5.cell 4; have u5 := hb5.cell 5; have u6 := hb5.cell 6; have u7 := hb5.cell 7; have u8 := hb5.cell 8; simp at u0 u1 u2 u3 u4 u5 u6 u7 u8; clear hb5 t5))
                go_meet
                exact ⟨rv, er2, nx, td, rfl, rfl, rfl, HS5.out, HBU5.out, fun h => absurd h HNE.out, fun _ => ⟨rfl, rfl⟩⟩
          by_cases hk4 : kd = 4
          · subst hk4
            have HA := Lib.hid (fun G w1 (hk : CkAt w1 k a p b x G) (hl : SpR w1 (fun q => q < w.heap.size) A t2.lv.length t2.lv) (hz : w.heap.size ≤ w1.heap.size) => PF.tfire_any k a p b x G (fun q => q < w.heap.size) A n tv t2 (nw + (wt : Int)) w1 hk hl (fun q hq => by omega) (by omega) (by omega))
            unfold CkF at HA
            have HE := Lib.hid (fun (h : (tfireV x tv t2 (nw + (wt : Int))).2 = 0) => TInv.fire HGD.out HIv.out (by omega) h)
            generalize tfireV x tv t2 (nw + (wt : Int)) = r at *
            obtain ⟨⟨rv, met⟩, er2⟩ := r
            simp only at HA HE
            by_cases he2 : er2 = 0
            · subst he2
              obtain ⟨hi2, hmet, hlv2⟩ := HE.out rfl
              subst hmet
              obtain ⟨rid, rcon, rst, rlev, rgen, rfr, rle, rdu, rto⟩ := rv
              simp only at HA hi2 hlv2
              obtain rfl : rto = td + 1 := hi2.told.1
              clear HE
              have hwnx : IntKind.i64.wrap (met + 1) = met + 1 := IntWalk.i64_in _ (by have := hi2.ahead.2.2.2.2; have := hi2.ahead.2.1; have := hi2.ahead.2.2.1; omega)
              have hwtd : IntKind.i64.wrap (td + 1) = td + 1 := IntWalk.i64_in _ (by omega)
              by_cases hr1 : rst = 1
              · subst hr1
                obtain rfl : rlev = met + 1 := hlv2 rfl
                have HI2 := Lib.hid hi2
                clear hi2 hlv2
                as_aux_lemma =>
                  go_wp2_with (first
                    | (go_at_call 53; go_must (refine (HA.out _ _ (by exact HCK.out) (by exact HL.out.touch HSb.out.t (fun _ _ e => e)) (by have := HSb.out.t.size; omega)).mono ?_); rintro e4 w4 ⟨rfl, ck4, t4⟩; have HS4 := Lib.hid (HSb.out.clk HGG.out.1 HGG.out.2 hNUl hNT1 hNT2 ck4 t4); have HBU4 := Lib.hid (t4.blk HBU.out (by omega)); clear ck4 t4 X0 X1 X2 X3 X4 X5 X6 X7 X8 Y0 Y1 Y2 Y3)
                    | (refine storeM rowTk _ _ rfl rfl NU rfl #[.int .u64 rid, .int .i64 rcon, .int .i64 1, .int .i64 (met + 1), .int .u64 rgen, .int .i64 rfr, .int .i64 rle, .int .i64 rdu, .int .i64 (td + 1)] rfl _ _ HBU4.out rfl rfl (tk_one ..) ?_; intro w5 hb5 t5; have HS5 := Lib.hid (HS4.out.setU (by omega) hNT1 hNT2 t5); have HBU5 := Lib.hid hb5; have u0 := hb5.cell 0; have u1 := hb5.cell 1; have u2 := hb5.cell 2; have u3 := hb5.cell 3; have u4 := hb5.cell 4; have u5 := hb5.cell 5; have u6 := hb5.cell 6; have u7 := hb5.cell 7; have u8 := hb5.cell 8; simp at u0 u1 u2 u3 u4 u5 u6 u7 u8; clear hb5 t5))
                  go_meet
                  exact ⟨⟨rid, rcon, 1, met + 1, rgen, rfr, rle, rdu, td + 1⟩, 0, met + 1, td + 1, rfl, rfl, rfl, HS5.out, HBU5.out, fun _ => ⟨HI2.out, by omega⟩, fun h => absurd rfl h⟩
              · have hrb : (rst == 1) = false := by simpa using hr1
                have HI2 := Lib.hid hi2
                clear hi2 hlv2 hr1
                as_aux_lemma =>
                  go_wp2_with (first
                    | (go_at_call 53; go_must (refine (HA.out _ _ (by exact HCK.out) (by exact HL.out.touch HSb.out.t (fun _ _ e => e)) (by have := HSb.out.t.size; omega)).mono ?_); rintro e4 w4 ⟨rfl, ck4, t4⟩; have HS4 := Lib.hid (HSb.out.clk HGG.out.1 HGG.out.2 hNUl hNT1 hNT2 ck4 t4); have HBU4 := Lib.hid (t4.blk HBU.out (by omega)); clear ck4 t4 X0 X1 X2 X3 X4 X5 X6 X7 X8 Y0 Y1 Y2 Y3)
                    | (refine storeM rowTk _ _ rfl rfl NU rfl #[.int .u64 rid, .int .i64 rcon, .int .i64 rst, .int .i64 rlev, .int .u64 rgen, .int .i64 rfr, .int .i64 rle, .int .i64 rdu, .int .i64 (td + 1)] rfl _ _ HBU4.out rfl rfl (tk_one ..) ?_; intro w5 hb5 t5; have HS5 := Lib.hid (HS4.out.setU (by omega) hNT1 hNT2 t5); have HBU5 := Lib.hid hb5; have u0 := hb5.cell 0; have u1 := hb5.cell 1; have u2 := hb5.cell 2; have u3 := hb5.cell 3; have u4 := hb5.cell 4; have u5 := hb5.cell 5; have u6 := hb5.cell 6; have u7 := hb5.cell 7; have u8 := hb5.cell 8; simp at u0 u1 u2 u3 u4 u5 u6 u7 u8; clear hb5 t5))
                  go_meet
                  exact ⟨⟨rid, rcon, rst, rlev, rgen, rfr, rle, rdu, td + 1⟩, 0, met + 1, td + 1, rfl, rfl, rfl, HS5.out, HBU5.out, fun _ => ⟨HI2.out, by omega⟩, fun h => absurd rfl h⟩
            · have hne2 : (er2 == 0) = false := by simpa using he2
              have HNE := Lib.hid he2
              clear he2 HE
              as_aux_lemma =>
                go_wp2_with (first
                  | (go_at_call 53; go_must (refine (HA.out _ _ (by exact HCK.out) (by exact HL.out.touch HSb.out.t (fun _ _ e => e)) (by have := HSb.out.t.size; omega)).mono ?_); rintro e4 w4 ⟨rfl, ck4, t4⟩; have HS4 := Lib.hid (HSb.out.clk HGG.out.1 HGG.out.2 hNUl hNT1 hNT2 ck4 t4); have HBU4 := Lib.hid (t4.blk HBU.out (by omega)); clear ck4 t4 X0 X1 X2 X3 X4 X5 X6 X7 X8 Y0 Y1 Y2 Y3)
                  | (refine storeM rowTk _ _ rfl rfl NU rfl #[.int .u64 rv.id, .int .i64 rv.contract, .int .i64 rv.state, .int .i64 rv.level, .int .u64 rv.gen, .int .i64 rv.from_, .int .i64 rv.left, .int .i64 rv.due, .int .i64 rv.told] rfl _ _ HBU4.out rfl rfl (tk_one ..) ?_; intro w5 hb5 t5; have HS5 := Lib.hid (HS4.out.setU (by omega) hNT1 hNT2 t5); have HBU5 := Lib.hid hb5; have u0 := hb5.cell 0; have u1 := hb5.cell 1; have u2 := hb5.cell 2; have u3 := hb5.cell 3; have u4 := hb5.cell 4; have u5 := hb5.cell 5; have u6 := hb5.cell 6; have u7 := hb5.cell 7; have u8 := hb5.cell 8; simp at u0 u1 u2 u3 u4 u5 u6 u7 u8; clear hb5 t5))
                go_meet
                exact ⟨rv, er2, nx, td, rfl, rfl, rfl, HS5.out, HBU5.out, fun h => absurd h HNE.out, fun _ => ⟨rfl, rfl⟩⟩
          have hkb1 : (kd == 1) = false := by simpa using hk1
          have hkb2 : (kd == 2) = false := by simpa using hk2
          have hkb3 : (kd == 3) = false := by simpa using hk3
          have hkb4 : (kd == 4) = false := by simpa using hk4
          clear hk1 hk2 hk3 hk4
          have HA := Lib.hid (fun G w1 (hk : CkAt w1 k a p b x G) => tpause_any k a p b x G tv (nw + (wt : Int)) w1 hk hle)
          unfold CkT at HA
          have HE := Lib.hid (fun (h : (tpauseV x tv (nw + (wt : Int))).2 = 0) => TInv.pause HOK.out HIv.out h)
          generalize tpauseV x tv (nw + (wt : Int)) = r at *
          obtain ⟨rv, er2⟩ := r
          simp only at HA HE
          by_cases he2 : er2 = 0
          · subst he2
            have HI2 := Lib.hid (HE.out rfl)
            clear HE
            as_aux_lemma =>
              go_wp2_with (first
                | (go_at_call 54; go_must (refine (HA.out _ _ (by exact HCK.out)).mono ?_); rintro e4 w4 ⟨rfl, ck4, t4⟩; have HS4 := Lib.hid (HSb.out.clk HGG.out.1 HGG.out.2 hNUl hNT1 hNT2 ck4 t4); have HBU4 := Lib.hid (t4.blk HBU.out (by omega)); clear ck4 t4 X0 X1 X2 X3 X4 X5 X6 X7 X8 Y0 Y1 Y2 Y3)
                | (refine storeM rowTk _ _ rfl rfl NU rfl #[.int .u64 rv.id, .int .i64 rv.contract, .int .i64 rv.state, .int .i64 rv.level, .int .u64 rv.gen, .int .i64 rv.from_, .int .i64 rv.left, .int .i64 rv.due, .int .i64 rv.told] rfl _ _ HBU4.out rfl rfl (tk_one ..) ?_; intro w5 hb5 t5; have HS5 := Lib.hid (HS4.out.setU (by omega) hNT1 hNT2 t5); have HBU5 := Lib.hid hb5; have u0 := hb5.cell 0; have u1 := hb5.cell 1; have u2 := hb5.cell 2; have u3 := hb5.cell 3; have u4 := hb5.cell 4; have u5 := hb5.cell 5; have u6 := hb5.cell 6; have u7 := hb5.cell 7; have u8 := hb5.cell 8; simp at u0 u1 u2 u3 u4 u5 u6 u7 u8; clear hb5 t5))
              go_meet
              exact ⟨rv, 0, nx, td, rfl, rfl, rfl, HS5.out, HBU5.out, fun _ => ⟨HI2.out, by omega⟩, fun h => absurd rfl h⟩
          · have hne2 : (er2 == 0) = false := by simpa using he2
            have HNE := Lib.hid he2
            clear he2 HE
            as_aux_lemma =>
              go_wp2_with (first
                | (go_at_call 54; go_must (refine (HA.out _ _ (by exact HCK.out)).mono ?_); rintro e4 w4 ⟨rfl, ck4, t4⟩; have HS4 := Lib.hid (HSb.out.clk HGG.out.1 HGG.out.2 hNUl hNT1 hNT2 ck4 t4); have HBU4 := Lib.hid (t4.blk HBU.out (by omega)); clear ck4 t4 X0 X1 X2 X3 X4 X5 X6 X7 X8 Y0 Y1 Y2 Y3)
                | (refine storeM rowTk _ _ rfl rfl NU rfl #[.int .u64 rv.id, .int .i64 rv.contract, .int .i64 rv.state, .int .i64 rv.level, .int .u64 rv.gen, .int .i64 rv.from_, .int .i64 rv.left, .int .i64 rv.due, .int .i64 rv.told] rfl _ _ HBU4.out rfl rfl (tk_one ..) ?_; intro w5 hb5 t5; have HS5 := Lib.hid (HS4.out.setU (by omega) hNT1 hNT2 t5); have HBU5 := Lib.hid hb5; have u0 := hb5.cell 0; have u1 := hb5.cell 1; have u2 := hb5.cell 2; have u3 := hb5.cell 3; have u4 := hb5.cell 4; have u5 := hb5.cell 5; have u6 := hb5.cell 6; have u7 := hb5.cell 7; have u8 := hb5.cell 8; simp at u0 u1 u2 u3 u4 u5 u6 u7 u8; clear hb5 t5))
              go_meet
              exact ⟨rv, er2, nx, td, rfl, rfl, rfl, HS5.out, HBU5.out, fun h => absurd h HNE.out, fun _ => ⟨rfl, rfl⟩⟩
        case rest =>
          obtain ⟨rv, er, nx', td', rfl, rfl, rfl, hs5, hbu5, hy, hno⟩ := hcut
          have HS5 := Lib.hid hs5
          have HBU5 := Lib.hid hbu5
          have u0 := hbu5.cell 0; have u1 := hbu5.cell 1; have u2 := hbu5.cell 2; have u3 := hbu5.cell 3; have u4 := hbu5.cell 4; have u5 := hbu5.cell 5; have u6 := hbu5.cell 6; have u7 := hbu5.cell 7; have u8 := hbu5.cell 8; simp at u0 u1 u2 u3 u4 u5 u6 u7 u8
          clear hs5 hbu5 X0 X1 X2 X3 X4 X5 X6 X7 X8 Y0 Y1 Y2 Y3 A0
          by_cases he : er = 0
          · subst he
            obtain ⟨hi2, htd2⟩ := hy rfl
            have HIF := Lib.hid hi2
            clear hy hno hi2
            go_wp2_with (first
              | (refine loadC rowTk _ rfl rfl NU 0 rfl #[.int .u64 rv.id, .int .i64 rv.contract, .int .i64 rv.state, .int .i64 rv.level, .int .u64 rv.gen, .int .i64 rv.from_, .int .i64 rv.left, .int .i64 rv.due, .int .i64 rv.told] rfl HBU5.out.whole ?_)
              | (refine storeM rowTk _ _ rfl rfl NT rfl #[.int .u64 rv.id, .int .i64 rv.contract, .int .i64 rv.state, .int .i64 rv.level, .int .u64 rv.gen, .int .i64 rv.from_, .int .i64 rv.left, .int .i64 rv.due, .int .i64 rv.told] rfl _ _ HS5.out.bt rfl rfl (tk_one ..) ?_; intro w6 hb6 t6; have HS6 := Lib.hid ((HS5.out.setT hNT1 hNT2 t6 hb6).same); clear hb6 t6))
            have HSW := HS6
            obtain ⟨ha1, ha2, ha3, ha4, ha5⟩ := TInv.ahead HIF.out
            have hlvf := HIF.out.lev
            have HAh1 := fun w1 => tahead_any rv t2 A n w1 hlvf.1 (by omega) (by omega)
            try simp only at HAh1
            have HTOLD := Lib.hid (show rv.told = td' from HIF.out.told.1)
            have HAh := Lib.hid HAh1
            clear HAh1
            generalize aheadV rv t2 = av at *
            have hwa : IntKind.i64.wrap (nx' + av) = nx' + av := IntWalk.i64_in _ (by omega)
            have hca : ¬ (t2.lv.length : Int) < nx' + av := by omega
            have HDr := Lib.hid ((Touch.refl (fun _ => False) w6).drew)
            have hbx := HDr.out.blk HSW.out.bt (fun e => e)
            have hby := HDr.out.blk HSW.out.b1 (fun e => e)
            have v0 := hbx.cell 0; have v1 := hbx.cell 1; have v2 := hbx.cell 2; have v3 := hbx.cell 3; have v4 := hbx.cell 4; have v5 := hbx.cell 5; have v6 := hbx.cell 6; have v7 := hbx.cell 7; have v8 := hbx.cell 8; simp at v0 v1 v2 v3 v4 v5 v6 v7 v8
            have y0 := hby.cell 0; have y1 := hby.cell 1; have y2 := hby.cell 2; have y3 := hby.cell 3; simp at y0 y1 y2 y3
            have hly := hby.lt
            rw [HTOLD.out] at v8 HAh
            clear hbx hby
            refine wp_region_plan [(0, 0), (0, 1), (0, 2), (0, 3), (0, 4), (0, 6), (0, 7), (1, 5), (1, 10), (1, 11), (1, 12), (2, 8), (0, 9), (0, 13), (0, 14)] (fun _ => False) (by kernel_rfl) (by kernel_rfl) (fun c a d v w h => by cases d <;> exact h) ?_
            iterate 7
              refine plan_s1 rfl (by rfl) (fun Kc hKc => ?_)
              go_simp
              first
                | (refine hKc _ ?_)
              clear hKc Kc
            iterate 4
              apply plan_h
              · rfl
              · rfl
              · intro wh hT
                have hf0 := (hT.cell (p := ⟨w.heap.size + 1, 1, none⟩) hly (fun e => e)).trans y1
                go_simp
                try rfl
              go_frame
            refine plan_a1 rfl (by rfl) (fun Kc hKc => ?_)
            go_simp
            refine (HAh.out _).mono ?_
            rintro e7 w7 ⟨rfl, t7⟩
            refine hKc _ _ ⟨t7, ?_⟩
            clear hKc Kc
            have HS7 := Lib.hid ((HSW.out.far HDr.out).far t7)
            clear t7 v0 v1 v2 v3 v4 v5 v6 v7 v8 y0 y1 y2 y3 hly
            iterate 3
              refine plan_s1 rfl (by rfl) (fun Kc hKc => ?_)
              go_simp
              first
                | (refine hKc _ ?_)
              clear hKc Kc
            refine plan_done ?_
            go_wp2_with fail
            go_roundw
            case rel => exact ⟨j + 1, nw + (wt : Int), nx', td', 0, rv, by omega, by go_num, rfl, rfl, rfl, rfl, HIF.out, by omega, by omega, HS7.out⟩
            case measure => simp [intOf]; omega
          · obtain ⟨e1, e2⟩ := hno he
            subst e1 e2
            have HIF := HIv
            have hne2 : (er == 0) = false := by simpa using he
            clear hy hno he
            go_wp2_with fail
            have HSW := Lib.hid HS5.out.same
            obtain ⟨ha1, ha2, ha3, ha4, ha5⟩ := TInv.ahead HIF.out
            have hlvf := HIF.out.lev
            have HAh1 := fun w1 => tahead_any tv t2 A n w1 hlvf.1 (by omega) (by omega)
            try simp only at HAh1
            have HTOLD := Lib.hid (show tv.told = td' from HIF.out.told.1)
            have HAh := Lib.hid HAh1
            clear HAh1
            generalize aheadV tv t2 = av at *
            have hwa : IntKind.i64.wrap (nx' + av) = nx' + av := IntWalk.i64_in _ (by omega)
            have hca : ¬ (t2.lv.length : Int) < nx' + av := by omega
            have HDr := Lib.hid ((Touch.refl (fun _ => False) wc).drew)
            have hbx := HDr.out.blk HSW.out.bt (fun e => e)
            have hby := HDr.out.blk HSW.out.b1 (fun e => e)
            have v0 := hbx.cell 0; have v1 := hbx.cell 1; have v2 := hbx.cell 2; have v3 := hbx.cell 3; have v4 := hbx.cell 4; have v5 := hbx.cell 5; have v6 := hbx.cell 6; have v7 := hbx.cell 7; have v8 := hbx.cell 8; simp at v0 v1 v2 v3 v4 v5 v6 v7 v8
            have y0 := hby.cell 0; have y1 := hby.cell 1; have y2 := hby.cell 2; have y3 := hby.cell 3; simp at y0 y1 y2 y3
            have hly := hby.lt
            rw [HTOLD.out] at v8 HAh
            clear hbx hby
            refine wp_region_plan [(0, 0), (0, 1), (0, 2), (0, 3), (0, 4), (0, 6), (0, 7), (1, 5), (1, 10), (1, 11), (1, 12), (2, 8), (0, 9), (0, 13), (0, 14)] (fun _ => False) (by kernel_rfl) (by kernel_rfl) (fun c a d v w h => by cases d <;> exact h) ?_
            iterate 7
              refine plan_s1 rfl (by rfl) (fun Kc hKc => ?_)
              go_simp
              first
                | (refine hKc _ ?_)
              clear hKc Kc
            iterate 4
              apply plan_h
              · rfl
              · rfl
              · intro wh hT
                have hf0 := (hT.cell (p := ⟨w.heap.size + 1, 1, none⟩) hly (fun e => e)).trans y1
                go_simp
                try rfl
              go_frame
            refine plan_a1 rfl (by rfl) (fun Kc hKc => ?_)
            go_simp
            refine (HAh.out _).mono ?_
            rintro e7 w7 ⟨rfl, t7⟩
            refine hKc _ _ ⟨t7, ?_⟩
            clear hKc Kc
            have HS7 := Lib.hid ((HSW.out.far HDr.out).far t7)
            clear t7 v0 v1 v2 v3 v4 v5 v6 v7 v8 y0 y1 y2 y3 hly
            iterate 3
              refine plan_s1 rfl (by rfl) (fun Kc hKc => ?_)
              go_simp
              first
                | (refine hKc _ ?_)
              clear hKc Kc
            refine plan_done ?_
            go_wp2_with fail
            go_roundw
            case rel => exact ⟨j + 1, nw + (wt : Int), nx', td', er, tv, by omega, by go_num, rfl, rfl, rfl, rfl, HIF.out, by omega, by omega, HS7.out⟩
            case measure => simp [intOf]; omega
    · obtain rfl : j = list.length := by omega
      go_wp2_with (go_at_call 37; go_must (refine (lives16_any _).mono ?_); rintro e w1 ⟨rfl, t1⟩; have HTz := Lib.hid (HS.out.t.trans t1 (fun _ _ e => e)); clear t1)
      go_ret
      exact ⟨rfl, HTz.out.below⟩
end Go.Proofs.Ytcblbjhhlnmkjaa
