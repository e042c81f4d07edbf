/- law20.do where it looks. law20.do, all of it. -/
import Derived.Test.YtmgmjehebbggaaaVSesV
import Derived.Test.YtmgmjehebbggaaaVSesE
section
namespace Go.Proofs.Ytmgmjehebbggaaa
open Go.RowKit Go.Maps
set_option maxHeartbeats 4000000
set_option maxRecDepth 100000
set_option linter.unusedVariables false
attribute [local irreducible] wpPlan

def LookQ (K : Int) (RB : Array Value) (w : World) (e : Ending) (w' : World) : Prop :=
  ∃ RA : Array Value, e = .returned (.tuple #[.int .i64 K, .agg RA]) ∧ RA.size = 14 ∧ RA.all (·.oneCell') = true ∧ (∀ w2, Touch (fun _ => False) w' w2 → Calls Try.prog 11 #[.agg RA, .agg RB] w2 fun e w3 => e = .returned (.bool true) ∧ Touch (fun _ => False) w2 w3) ∧ Touch (fun _ => False) w w'
theorem lookQ_any (g b : Nat) (s : SesS) (F : Nat → Prop) (w : World) (h : SesAt w g b s F) (T : RT) (hT : RTs T s) (F0 : Nat → Prop) (hr : RTr T s w F0) (c q : Nat) (hc : c < 18446744073709551616) (hq : q < 18446744073709551616) :
    Calls Try.prog 10 #[.pointer (some ⟨g, 0, none⟩), .int .u64 c, .int .u64 q] w (LookQ (lookK s c q) (lookC T s c q) w) := by
  rcases lookK_cases s c q with ⟨hk, hl⟩ | ⟨hk, hl, hn⟩ | ⟨a, hk, hs, hl⟩
  · refine (slook_no g b s F w h c q hc hq (by rw [hk]; decide)).mono ?_
    rintro e w1 ⟨rfl, t1⟩
    refine ⟨#[.int .i64 0, .int .i64 0, .int .u64 0, .int .i64 0, .int .i64 0, .int .i64 0, .int .u64 0, .int .i64 0, .int .i64 0, .int .i64 0, .int .i64 0, .slice none 0 0, .int .u64 0, .int .i64 0], rfl, rfl, zRy_one, fun w2 t2 => ?_, t1⟩
    rw [show lookC T s c q = #[.int .i64 0, .int .i64 0, .int .u64 0, .int .i64 0, .int .i64 0, .int .i64 0, .int .u64 0, .int .i64 0, .int .i64 0, .int .i64 0, .int .i64 0, .slice none 0 0, .int .u64 0, .int .i64 0] by rw [lookC, if_neg (by rw [hk]; decide)]]
    have := rsameR_any (fun _ => False) (fun _ => False) none none 0 0 rpZ rpZ w2 (Rd.nil _ _ _) (Rd.nil _ _ _) (by simp [rpZ])
    rw [rpSame_refl] at this
    exact this
  · refine (slook_no g b s F w h c q hc hq (by rw [hk]; decide)).mono ?_
    rintro e w1 ⟨rfl, t1⟩
    refine ⟨#[.int .i64 0, .int .i64 0, .int .u64 0, .int .i64 0, .int .i64 0, .int .i64 0, .int .u64 0, .int .i64 0, .int .i64 0, .int .i64 0, .int .i64 0, .slice none 0 0, .int .u64 0, .int .i64 0], rfl, rfl, zRy_one, fun w2 t2 => ?_, t1⟩
    rw [show lookC T s c q = #[.int .i64 0, .int .i64 0, .int .u64 0, .int .i64 0, .int .i64 0, .int .i64 0, .int .u64 0, .int .i64 0, .int .i64 0, .int .i64 0, .int .i64 0, .slice none 0 0, .int .u64 0, .int .i64 0] by rw [lookC, if_neg (by rw [hk]; decide)]]
    have := rsameR_any (fun _ => False) (fun _ => False) none none 0 0 rpZ rpZ w2 (Rd.nil _ _ _) (Rd.nil _ _ _) (by simp [rpZ])
    rw [rpSame_refl] at this
    exact this
  · have h64 := h.ok.rep c q a hs
    have hw := h.ok.who c _ hs
    refine (slook_yes g b s F w h c q hc hq a hs).mono ?_
    rintro e w1 ⟨g3, rfl, hb3, hg3, t1⟩
    rw [hk]
    refine ⟨rpC a (some ⟨g3, 0, none⟩) a.fired.length, rfl, rpC_size _ _ _, rpC_one _ _ _, fun w2 t2 => ?_, t1⟩
    have hrd := hr c (by omega) q a hs
    obtain ⟨-, ha⟩ := hT.yes c (by omega) q a hs
    rw [show lookC T s c q = rpC a (T.A c) (T.c c) by rw [lookC, if_pos hk, ha]]
    have hb4 := t2.blk hb3 (fun e => e)
    have hR3 : Rd w2 (fun k => k = g3) (some ⟨g3, 0, none⟩) a.fired.length (a.fired.map U64) := ⟨by simp, fun _ => ⟨g3, 0, rfl, hb4.lt, rfl, fun j u hj => by rw [Nat.zero_add]; exact (hb4.cell j).trans (by simpa using hj)⟩⟩
    have := rsameR_any (fun k => k = g3) F0 (some ⟨g3, 0, none⟩) (T.A c) a.fired.length (T.c c) a a w2 hR3 ((hrd.touch t1 (fun _ _ e => e)).touch t2 (fun _ _ e => e)) (by omega)
    rw [rpSame_refl] at this
    exact this
theorem do20_look (g b : Nat) (s : SesS) (F : Nat → Prop) (w : World) (h : SesAt w g b s F) (T : RT) (hT : RTs T s) (F0 : Nat → Prop) (hr : RTr T s w F0) (hF0 : ∀ k, F0 k → k ≠ b) (OC R : Array Value) (c q : Nat) (hc : c < 18446744073709551616) (hq : q < 18446744073709551616) (hO : OpC OC R 1 c q) :
    Calls Try.prog 13 #[.pointer (some ⟨g, 0, none⟩), .agg T.cells, .agg OC] w (DoP g b F s T w) := by
  have HW := Lib.hid (DoW.new T OC h)
  have HN := Lib.hid T.cells_size
  have H1 := Lib.hid T.cells_one
  have HD := Lib.hid (fun w1 => flook20_any T s hT h.ok c q hq w1)
  have HP := Lib.hid (fun w1 (h1 : DoW w w1 g b s F T.cells OC) => lookQ_any g b s (F1 w F) w1 h1.ses T hT F0 (hr.touch h1.t (fun k hk => hF0 k hk)) c q hc hq)
  have HO := Lib.hid hO
  have HRBn := Lib.hid (show (lookC T s c q).size = 14 by unfold lookC; split <;> first | exact rpC_size _ _ _ | rfl)
  have HRB1 := Lib.hid (show (lookC T s c q).all (·.oneCell') = true by unfold lookC; split <;> first | exact rpC_one _ _ _ | exact zRy_one)
  unfold DoP
  unfold LookQ at HP
  generalize lookK s c q = K at *
  generalize lookC T s c q = RB at *
  generalize T.cells = C at *
  have q0 := HW.out.bo.cell 0
  have q1 := HW.out.bo.cell 1
  have q2 := HW.out.bo.cell 2
  rw [hO.k0] at q0
  rw [hO.k1] at q1
  rw [hO.k2] at q2
  clear h hT hO hr hF0
  go_enter Try.func13, Try.ntmps13
  go_wp2_with (first
    | ((with_reducible apply HW2.out.b0.ld rowRt HN.out); exact rfl; exact rfl; exact rfl)
    | (go_at_call 10; go_must (refine (HP.out _ HW.out).mono ?_); rintro e w1 ⟨RA, rfl, ra1, ra2, ra3, t1⟩
       have HRAn := Lib.hid ra1
       have HRA1 := Lib.hid ra2
       have HSm := Lib.hid ra3
       have HT2 := Lib.hid ((Touch.refl (fun _ => False) w1).alloc (.cells RA 35))
       have HW2 := Lib.hid ((HW.out.far t1).far HT2.out)
       have HBa := Lib.hid (Blk.new w1 35 RA)
       have hn1 := (HW.out.far t1).n
       have q1 := HW2.out.bo.cell 1
       have q2 := HW2.out.bo.cell 2
       rw [HO.out.k1] at q1
       rw [HO.out.k2] at q2
       clear ra1 ra2 ra3 t1)
    | (refine storeC rowRy _ _ rfl rfl w1 _ RA rfl rfl rfl rfl HRAn.out HRA1.out ?_)
    | (go_at_call 29; go_must (refine (HD.out _).mono ?_); rintro e w3 ⟨rfl, t3⟩
       have HT4 := Lib.hid (t3.trans ((Touch.refl (fun _ => False) w3).alloc (.cells RB 35)) (fun _ _ e => e))
       have HW4 := Lib.hid (HW2.out.far HT4.out)
       have HBa4 := Lib.hid (HT4.out.blk HBa.out (fun e => e))
       have HBb4 := Lib.hid (Blk.new w3 35 RB)
       have hn3 := t3.size
       clear t3)
    | (refine storeC rowRy _ _ rfl rfl w3 _ RB rfl rfl rfl rfl HRBn.out HRB1.out ?_))
  have hn3' : w1.heap.size + 1 ≤ w3.heap.size := by simpa using hn3
  have HT24 := Lib.hid (HT2.out.trans HT4.out (fun _ _ e => e))
  generalize hv : w3.alloc (.cells RB 35) = w4 at *
  clear q0 q1 q2 hn3
  have hlb := HW4.out.lb
  have hlg := HW4.out.lg
  have hbe : (K == K) = true := by simp
  refine wp_region_plan [(0, 1), (0, 2), (0, 3), (0, 4), (1, 5), (1, 6), (1, 0), (2, 7), (1, 8), (2, 9), (0, 10)] (fun k => k = w.heap.size + 2) (by kernel_rfl) (by kernel_rfl) (fun c a d v w h => by cases d <;> exact h) ?_
  iterate 4
    refine plan_s1 rfl (by rfl) (fun Kc hKc => ?_)
    go_simp
    first
      | (refine hKc _ ?_)
    clear hKc Kc
  refine plan_hC rowRy rfl _ rfl rfl w1.heap.size 0 rfl RA HRAn.out (fun wh hT => (hT.blk (HBa4.out.drewN 0) (by omega)).whole) ?_
  go_frame
  refine plan_hC rowRy rfl _ rfl rfl w3.heap.size 0 rfl RB HRBn.out (fun wh hT => (hT.blk (HBb4.out.drewN 0) (by omega)).whole) ?_
  go_frame
  refine plan_hC rowRt rfl _ rfl rfl w.heap.size 0 rfl C HN.out (fun wh hT => (hT.blk (HW4.out.far (Touch.refl _ _).drew).b0 (by omega)).whole) ?_
  go_frame
  refine plan_a1 rfl (by rfl) (fun Kc hKc => ?_)
  go_simp
  refine (HSm.out _ (HT24.out.trans (Touch.refl _ _).drew (fun _ _ e => e))).mono ?_
  rintro e w5 ⟨rfl, t5⟩
  have HW5 := Lib.hid ((HW4.out.far (Touch.refl _ _).drew).far t5)
  refine hKc _ _ ⟨t5.mono (fun _ _ e => e.elim), ?_⟩
  clear hKc Kc
  clear t5
  iterate 1
    apply plan_h
    · rfl
    · rfl
    · intro wh hT
      go_simp
      try rfl
    go_frame
  obtain ⟨Z, hZ, hZb⟩ := HW5.out.br
  refine plan_aM rowRt rfl rfl _ _ rfl (w.heap.size + 2) 0 rfl C rfl _ Z hZb (by omega) HN.out H1.out rfl ?_
  intro w6 hb6 t6 _
  go_frame
  rw [setAll_whole _ _ (by simp [HN.out, hZ])] at hb6
  have HB6 := Lib.hid (show Blk w6 (w.heap.size + 2) 46 C by simpa using hb6)
  have HS6 := Lib.hid (HW5.out.ses.touch t6 (by omega) (by omega) (fun k hk e => by rcases hk with hk | hk <;> omega))
  have hn6 := Nat.le_trans HW5.out.n t6.size
  have HT6 := Lib.hid (HW5.out.t.trans t6 (S := fun k => k = b) (fun q hq e => by omega))
  clear hb6 t6
  iterate 1
    refine plan_s1 rfl (by rfl) (fun Kc hKc => ?_)
    go_simp
    first
      | (refine hKc _ ?_)
    clear hKc Kc
  refine plan_done ?_
  go_wp2_with fail
  exact bodyPost_ret (results_cell2 6 7 rowRt HN.out (HB6.out.whole) rfl rfl) rfl ⟨rfl, HS6.out, hn6, HT6.out⟩
end Go.Proofs.Ytmgmjehebbggaaa
end

section
namespace Go.Proofs.Ytmgmjehebbggaaa
open Go.RowKit Go.Maps
set_option maxHeartbeats 4000000
set_option maxRecDepth 100000
set_option linter.unusedVariables false

/-- What do leaves. -/
def DoQ (g b : Nat) (F F0 : Nat → Prop) (w : World) (e : Ending) (w' : World) : Prop :=
  ∃ (T' : RT) (s' : SesS) (F' : Nat → Prop), e = .returned (.tuple #[.agg T'.cells, .bool true]) ∧ SesAt w' g b s' F' ∧ (∀ k, F' k → F k ∨ w.heap.size ≤ k) ∧ RTs T' s' ∧ RTr T' s' w' F0 ∧ SesGood s' ∧ Touch (fun k => k = b) w w'
theorem F1_in {w : World} {F : Nat → Prop} : ∀ k, F1 w F k → F k ∨ w.heap.size ≤ k := by
  rintro k (h | h)
  · exact .inl h.1
  · exact .inr (by omega)
theorem do20_any (g b : Nat) (s : SesS) (F : Nat → Prop) (w : World) (h : SesAt w g b s F) (T : RT) (hT : RTs T s) (F0 : Nat → Prop) (hr : RTr T s w F0) (hF0 : ∀ k, F0 k → k ≠ b ∧ k < w.heap.size) (hg : SesGood s) (k : Int) (c q : Nat) (hc : c < 18446744073709551616) (hq : q < 18446744073709551616) (a : RpV) (hak : a.okp) (A : Option Addr) (n : Nat) (hro : Rd w F0 A a.fired.length (a.fired.map U64)) (OC : Array Value) (hO : OpC OC (rpC a A n) k c q) :
    Calls Try.prog 13 #[.pointer (some ⟨g, 0, none⟩), .agg T.cells, .agg OC] w (DoQ g b F F0 w) := by
  by_cases h1 : k = 1
  · subst h1
    refine (do20_look g b s F w h T hT F0 hr (fun k hk => (hF0 k hk).1) OC _ c q hc hq hO).mono ?_
    rintro e w1 ⟨rfl, hs, -, t1⟩
    exact ⟨T, s, _, rfl, hs, F1_in, hT, hr.touch t1 (fun k hk => (hF0 k hk).1), hg, t1⟩
  by_cases h2 : k = 2
  · subst h2
    refine (do20_drop g b s F w h T hT OC _ c q hc hO).mono ?_
    rintro e w1 ⟨rfl, hs, -, t1⟩
    have hr1 := hr.touch t1 (fun k hk => (hF0 k hk).1)
    refine ⟨dropT T s c, dropS s c, _, rfl, hs, F1_in, ?_, ?_, ?_, t1⟩
    · unfold dropT dropS; split
      · exact hT.del c
      · exact hT
    · unfold dropT dropS; split
      · exact hr1.del c
      · exact hr1
    · unfold dropS; split
      · exact hg.del c
      · exact hg
  · refine (do20_done g b s F w h T hT OC k h1 h2 c q hc hq a A n hak.1 F0 hro hF0 hO).mono ?_
    rintro e w1 ⟨rfl, hs, -, t1⟩
    have hr1 := hr.touch t1 (fun k hk => (hF0 k hk).1)
    have hro1 := hro.touch t1 (fun k hk => (hF0 k hk).1)
    refine ⟨doneT T s c q a A n, doneS s c q a, _, rfl, hs, F1_in, ?_, ?_, ?_, t1⟩
    · unfold doneT doneS; split
      · exact hT.set c q a A n
      · exact hT
    · unfold doneT doneS; split
      · exact hr1.set c q a A n hro1
      · exact hr1
    · unfold doneS; split
      · rename_i he
        refine hg.set c q a ?_ hak
        unfold doneE at he
        split at he
        · rename_i hb; simp only [Bool.and_eq_true] at hb; exact hb.2
        · omega
      · exact hg
theorem SOpV.opc (o : SOpV) : OpC o.cells.toArray (rpC o.a o.A o.c) o.kind o.client o.req :=
  ⟨rfl, rfl, rfl, rfl, by simp [SOpV.cells, rpC], rpC_size _ _ _, rpC_one _ _ _⟩
end Go.Proofs.Ytmgmjehebbggaaa
end
