/- ref10.Read. What was put is read back. -/
import Derived.Test.YtlcefchbfjfifaaGreatVRdX
import Derived.Test.YtlcefchbfjfifaaGreatVShJ
section
namespace Go.Proofs.YtlcefchbfjfifaaGreat
open Go.RowKit Cal
set_option maxHeartbeats 4000000
set_option maxRecDepth 100000
set_option linter.unusedVariables false

/-- What is read as a calendar, before it is checked. -/
def rdC1 (b : Bool) (l : List UInt8) : List Sp × List UInt8 × Bool := rdRow (rdNum 9223372036854775807 true b l).bad (rdNum 9223372036854775807 true b l).left
def rdC2 (b : Bool) (l : List UInt8) : List Sp × List UInt8 × Bool := rdRow (rdC1 b l).2.2 (rdC1 b l).2.1
def rdCa (b : Bool) (l : List UInt8) : Ca := ⟨rdInt b l, (rdC1 b l).1, (rdC2 b l).1⟩
def rdOkC (b : Bool) (l : List UInt8) : Bool := !(rdC2 b l).2.2 && decide (checkE (rdCa b l) = 0)
/-- What reading a calendar answers. -/
structure CaRes where
  c : Ca
  ok : Bool
  left : List UInt8
  bad : Bool
def rdRes (b : Bool) (l : List UInt8) : CaRes := bif rdOkC b l then ⟨rdCa b l, true, (rdC2 b l).2.1, false⟩ else ⟨⟨0, [], []⟩, false, [], true⟩
def CaPost (q : CaRes) (w : World) (g : Nat) (F : Nat → Prop) (e : Ending) (w' : World) : Prop :=
  ∃ A B k m, e = .returned (.tuple #[.agg #[.int .i64 q.c.off, .slice A q.c.wk.length k, .slice B q.c.cl.length m], .bool q.ok]) ∧ CaR w' (fun p => w.heap.size ≤ p) q.c A B ∧ RfAt w' g F q.left q.bad ∧ Touch (fun p => p = g) w w'
theorem RfAt.blk {w : World} {g : Nat} {F : Nat → Prop} {l : List UInt8} {bad : Bool} (h : RfAt w g F l bad) : ∃ A cap, Blk w g 44 #[.slice A l.length cap, .bool bad] := by
  obtain ⟨_, A, cap, _, _, hb, _⟩ := h
  exact ⟨A, cap, hb⟩
theorem fread10_any (g : Nat) (F : Nat → Prop) (b : Bool) (l : List UInt8) (w : World) (h : RfAt w g F l b) (hF : ∀ k, F k → k < w.heap.size) (hg : g < w.heap.size) :
    Calls Tryz.prog 70 #[.pointer (some ⟨g, 0, none⟩)] w (CaPost (rdRes b l) w g F) := by
  have t0 := (Touch.refl (fun _ => False) w).alloc (.cells #[.int .i64 0, .slice none 0 0, .slice none 0 0] 51)
  have HT0 := Lib.hid t0
  have HB0 := Lib.hid (Blk.new w 51 #[.int .i64 0, .slice none 0 0, .slice none 0 0])
  have HI := Lib.hid (rf_int g F b l _ (rfAt_touch h t0 (fun e => e) (fun _ _ e => e)))
  have HSp := Lib.hid (fun b l w1 (h : RfAt w1 g F l b) (hs : w.heap.size ≤ w1.heap.size) => fspans_any g F b l w1 h (fun k hk => by have := hF k hk; omega) (by omega))
  have HF := Lib.hid (fun k (hk : F k) => hF k hk)
  have HRs := Lib.hid (show rdRes b l = bif rdOkC b l then ⟨rdCa b l, true, (rdC2 b l).2.1, false⟩ else ⟨⟨0, [], []⟩, false, [], true⟩ from rfl)
  have HOk := Lib.hid (show rdOkC b l = (!(rdC2 b l).2.2 && decide (checkE (rdCa b l) = 0)) from rfl)
  have HCa := Lib.hid (show rdCa b l = ⟨rdInt b l, (rdC1 b l).1, (rdC2 b l).1⟩ from rfl)
  have HC1 := Lib.hid (show rdC1 b l = rdRow (rdNum 9223372036854775807 true b l).bad (rdNum 9223372036854775807 true b l).left from rfl)
  have HC2 := Lib.hid (show rdC2 b l = rdRow (rdC1 b l).2.2 (rdC1 b l).2.1 from rfl)
  generalize rdInt b l = o at *
  generalize rdNum 9223372036854775807 true b l = R0 at *
  obtain ⟨v0, m0, l0, b0⟩ := R0
  simp only at HC1 HI
  have hn1 := rdRow_len b0 l0
  have HS1 := Lib.hid (fun w1 h hs => HSp.out b0 l0 w1 h hs)
  unfold RowPost at HS1
  rw [← HC1.out] at HS1 hn1
  generalize rdC1 b l = q1 at *
  obtain ⟨wk, l1, b1⟩ := q1
  simp only at HC2 HCa HS1 hn1
  have hn2 := rdRow_len b1 l1
  have HS2 := Lib.hid (fun w1 h hs => HSp.out b1 l1 w1 h hs)
  unfold RowPost at HS2
  rw [← HC2.out] at HS2 hn2
  generalize rdC2 b l = q2 at *
  obtain ⟨cl, l2, b2⟩ := q2
  simp only at HCa HS2 HOk HRs hn2
  clear HC1 HC2 HSp h hF t0
  rw [HCa.out] at HOk HRs
  have HCk := Lib.hid (fun F A B k m w1 hr => fcheck_any F A B k m ⟨o, wk, cl⟩ w1 hr (by simp only; omega) (by simp only; omega))
  simp only at HCk
  have hgb : ¬ w.heap.size = g := by omega
  generalize checkE ⟨o, wk, cl⟩ = v at *
  cases b2
  · by_cases hv : v = 0
    · subst hv
      simp only [Bool.not_false, Bool.true_and, decide_true] at HOk
      go_enter Tryz.func70, Tryz.ntmps70
      go_wp2_with (first
        | (go_at_call 100; go_must (refine HI.out.mono ?_); rintro e w1 ⟨rfl, r1, t1⟩; have hs1 : w.heap.size + 1 ≤ w1.heap.size := (by have := t1.size; simpa using this); have hgt : ¬ w1.heap.size = g := (by omega); have hrt : ¬ w1.heap.size = w.heap.size := (by omega); have HR1 := Lib.hid (And.intro r1 t1); have HBt := Lib.hid (Blk.new w1 51 #[.int .i64 o, .slice none 0 0, .slice none 0 0]); clear r1 t1)
        | (go_at_call 101; have HM9 := HR2
           go_must (refine (HS2.out _ (by exact rfAt_touch HR2.out.2.1 ((Touch.refl (fun q => q = w1.heap.size) w2).set (b := w1.heap.size) (o := 1) (fun _ => rfl) _) (fun e => hgt e.symm) (fun k hk e => by have := HF.out k hk; omega)) (by have := HR2.out.2.2.size; simp at this ⊢; omega)).mono ?_)
           rintro e w3 ⟨A3, c3, rfl, s3, r3, t3⟩
           have hb3 := t3.blk (by simpa using HB2.out.set_ 1 (.slice A2 wk.length c2) : Blk (w2.setCell ⟨w1.heap.size, 1, none⟩ (.slice A2 wk.length c2)) w1.heap.size 51 #[.int .i64 o, .slice A2 wk.length c2, .slice none 0 0]) hgt
           clear p0 p1 p2 y0 y1 y2
           have p0 := hb3.cell 0; have p1 := hb3.cell 1; have p2 := hb3.cell 2
           have y0 := hb3.frozen 0; have y1 := hb3.frozen 1; have y2 := hb3.frozen 2
           simp at p0 p1 p2
           obtain ⟨Ag, kg, hbg⟩ := r3.blk
           have g1 := hbg.cell 1
           simp at g1
           have ts : Touch (fun q => q = w1.heap.size) w3 (w3.setCell ⟨w1.heap.size, 2, none⟩ (.slice A3 cl.length c3)) := (Touch.refl (fun q => q = w1.heap.size) w3).set (b := w1.heap.size) (o := 2) (fun _ => rfl) _
           have tq : Touch (fun q => q = w1.heap.size) w2 (w2.setCell ⟨w1.heap.size, 1, none⟩ (.slice A2 wk.length c2)) := (Touch.refl (fun q => q = w1.heap.size) w2).set (b := w1.heap.size) (o := 1) (fun _ => rfl) _
           have hz2 : w1.heap.size + 1 ≤ w2.heap.size := (by have := HR2.out.2.2.size; simpa using this)
           have HCR := Lib.hid (show CaR (w3.setCell ⟨w1.heap.size, 2, none⟩ (.slice A3 cl.length c3)) (fun p => w1.heap.size + 1 ≤ p) ⟨o, wk, cl⟩ A2 A3 from ⟨((((HR2.out.1.mono (F' := fun p => w1.heap.size + 1 ≤ p) (fun q hq => by simpa using hq)).touch tq (fun q hq e => by omega)).touch t3 (fun q hq e => by omega))).touch ts (fun q hq e => by omega), ((s3.mono (F' := fun p => w1.heap.size + 1 ≤ p) (fun q hq => by simp at hq; omega)).touch ts (fun q hq e => by omega))⟩)
           have HRf := Lib.hid (rfAt_touch r3 ts (fun e => hgt e.symm) (fun k hk e => by have := HF.out k hk; omega))
           have HTw := Lib.hid (((((HR1.out.2.trans ((Touch.refl (fun _ => False) w1).alloc (.cells #[.int .i64 o, .slice none 0 0, .slice none 0 0] 51)) (fun _ _ e => e.elim)).trans HR2.out.2.2 (fun _ _ e => e)).trans tq (fun q hq e => by simp at hq; omega)).trans t3 (fun _ _ e => e)).trans ts (fun q hq e => by simp at hq; omega))
           have HBt2 := Lib.hid (by simpa using hb3.set_ 2 (.slice A3 cl.length c3) : Blk (w3.setCell ⟨w1.heap.size, 2, none⟩ (.slice A3 cl.length c3)) w1.heap.size 51 #[.int .i64 o, .slice A2 wk.length c2, .slice A3 cl.length c3])
           clear t3 s3 r3 hbg ts tq hb3)
        | (go_at_call 101
           go_must (refine (HS1.out _ (by exact rfAt_touch HR1.out.1 ((Touch.refl (fun _ => False) w1).alloc _) (fun e => e) (fun _ _ e => e)) (by simp; omega)).mono ?_)
           rintro e w2 ⟨A2, c2, rfl, s2, r2, t2⟩
           have HB2 := Lib.hid (t2.blk HBt.out hgt)
           have p0 := HB2.out.cell 0; have p1 := HB2.out.cell 1; have p2 := HB2.out.cell 2
           have y0 := HB2.out.frozen 0; have y1 := HB2.out.frozen 1; have y2 := HB2.out.frozen 2
           simp at p0 p1 p2
           have HR2 := Lib.hid (And.intro s2 (And.intro r2 t2))
           clear s2 r2 t2)
        | (go_at_call 82; go_must (refine (HCk.out _ A2 A3 c2 c3 _ (by exact HCR.out)).mono ?_); rintro e we ⟨rfl, t4⟩; have HT4 := Lib.hid t4; have HTe := Lib.hid ((HT0.out.mono (S' := fun q => q = g) (fun _ _ e => e.elim)).trans (HTw.out.trans t4 (fun _ _ e => e.elim)) (fun _ _ e => e)); have hb4 := t4.blk (HBt2.out) (fun e => e); clear p0 p1 p2 y0 y1 y2; have p0 := hb4.cell 0; have p1 := hb4.cell 1; have p2 := hb4.cell 2; simp at p0 p1 p2; have HBe := Lib.hid ((HTw.out.trans t4 (fun _ _ e => e.elim)).blk HB0.out hgb); have x0 := HBe.out.frozen 0; have x1 := HBe.out.frozen 1; have x2 := HBe.out.frozen 2; have X0 := HBe.out.cell 0; have X1 := HBe.out.cell 1; have X2 := HBe.out.cell 2; simp at X0 X1 X2; clear t4 hb4))
      have hs := ((HBe.out.set_ 0 (.int .i64 o)).set_ 1 (.slice A2 wk.length c2)).set_ 2 (.slice A3 cl.length c3)
      have e0 := hs.cell 0; have e1 := hs.cell 1; have e2 := hs.cell 2
      simp at e0 e1 e2
      refine bodyPost_ret (v := .tuple #[.agg #[.int .i64 o, .slice A2 wk.length c2, .slice A3 cl.length c3], .bool true]) (by simp [results, Tryz.results70, go_sem, e0, e1, e2]) rfl ?_
      have tf := (((Touch.refl (fun q => q = w.heap.size) we).set (b := w.heap.size) (o := 0) (fun _ => rfl) (.int .i64 o)).set (b := w.heap.size) (o := 1) (fun _ => rfl) (.slice A2 wk.length c2)).set (b := w.heap.size) (o := 2) (fun _ => rfl) (.slice A3 cl.length c3)
      refine ⟨A2, A3, c2, c3, by rw [HRs.out, HOk.out]; rfl, ?_, ?_, ?_⟩
      · rw [HRs.out, HOk.out]; exact ((HCR.out.touch HT4.out (fun _ _ e => e)).touch tf (fun q hq e => by omega)) |> fun h => ⟨h.wk.mono (fun q hq => by omega), h.cl.mono (fun q hq => by omega)⟩
      · rw [HRs.out, HOk.out]; exact rfAt_touch (rfAt_touch HRf.out HT4.out (fun e => e) (fun _ _ e => e)) tf (fun e => hgb e.symm) (fun k hk e => by have := HF.out k hk; omega)
      · exact (HTe.out.trans tf (fun q hq e => by omega))
    · have hv' : (v != 0) = true := by simpa using hv
      simp only [hv, Bool.not_false, Bool.true_and, decide_false] at HOk
      clear hv
      go_enter Tryz.func70, Tryz.ntmps70
      go_wp2_with (first
        | (go_at_call 100; go_must (refine HI.out.mono ?_); rintro e w1 ⟨rfl, r1, t1⟩; have hs1 : w.heap.size + 1 ≤ w1.heap.size := (by have := t1.size; simpa using this); have hgt : ¬ w1.heap.size = g := (by omega); have hrt : ¬ w1.heap.size = w.heap.size := (by omega); have HR1 := Lib.hid (And.intro r1 t1); have HBt := Lib.hid (Blk.new w1 51 #[.int .i64 o, .slice none 0 0, .slice none 0 0]); clear r1 t1)
        | (go_at_call 101; have HM9 := HR2
           go_must (refine (HS2.out _ (by exact rfAt_touch HR2.out.2.1 ((Touch.refl (fun q => q = w1.heap.size) w2).set (b := w1.heap.size) (o := 1) (fun _ => rfl) _) (fun e => hgt e.symm) (fun k hk e => by have := HF.out k hk; omega)) (by have := HR2.out.2.2.size; simp at this ⊢; omega)).mono ?_)
           rintro e w3 ⟨A3, c3, rfl, s3, r3, t3⟩
           have hb3 := t3.blk (by simpa using HB2.out.set_ 1 (.slice A2 wk.length c2) : Blk (w2.setCell ⟨w1.heap.size, 1, none⟩ (.slice A2 wk.length c2)) w1.heap.size 51 #[.int .i64 o, .slice A2 wk.length c2, .slice none 0 0]) hgt
           clear p0 p1 p2 y0 y1 y2
           have p0 := hb3.cell 0; have p1 := hb3.cell 1; have p2 := hb3.cell 2
           have y0 := hb3.frozen 0; have y1 := hb3.frozen 1; have y2 := hb3.frozen 2
           simp at p0 p1 p2
           obtain ⟨Ag, kg, hbg⟩ := r3.blk
           have g1 := hbg.cell 1
           simp at g1
           have ts : Touch (fun q => q = w1.heap.size) w3 (w3.setCell ⟨w1.heap.size, 2, none⟩ (.slice A3 cl.length c3)) := (Touch.refl (fun q => q = w1.heap.size) w3).set (b := w1.heap.size) (o := 2) (fun _ => rfl) _
           have tq : Touch (fun q => q = w1.heap.size) w2 (w2.setCell ⟨w1.heap.size, 1, none⟩ (.slice A2 wk.length c2)) := (Touch.refl (fun q => q = w1.heap.size) w2).set (b := w1.heap.size) (o := 1) (fun _ => rfl) _
           have hz2 : w1.heap.size + 1 ≤ w2.heap.size := (by have := HR2.out.2.2.size; simpa using this)
           have HCR := Lib.hid (show CaR (w3.setCell ⟨w1.heap.size, 2, none⟩ (.slice A3 cl.length c3)) (fun p => w1.heap.size + 1 ≤ p) ⟨o, wk, cl⟩ A2 A3 from ⟨((((HR2.out.1.mono (F' := fun p => w1.heap.size + 1 ≤ p) (fun q hq => by simpa using hq)).touch tq (fun q hq e => by omega)).touch t3 (fun q hq e => by omega))).touch ts (fun q hq e => by omega), ((s3.mono (F' := fun p => w1.heap.size + 1 ≤ p) (fun q hq => by simp at hq; omega)).touch ts (fun q hq e => by omega))⟩)
           have HRf := Lib.hid (rfAt_touch r3 ts (fun e => hgt e.symm) (fun k hk e => by have := HF.out k hk; omega))
           have HTw := Lib.hid (((((HR1.out.2.trans ((Touch.refl (fun _ => False) w1).alloc (.cells #[.int .i64 o, .slice none 0 0, .slice none 0 0] 51)) (fun _ _ e => e.elim)).trans HR2.out.2.2 (fun _ _ e => e)).trans tq (fun q hq e => by simp at hq; omega)).trans t3 (fun _ _ e => e)).trans ts (fun q hq e => by simp at hq; omega))
           have HBt2 := Lib.hid (by simpa using hb3.set_ 2 (.slice A3 cl.length c3) : Blk (w3.setCell ⟨w1.heap.size, 2, none⟩ (.slice A3 cl.length c3)) w1.heap.size 51 #[.int .i64 o, .slice A2 wk.length c2, .slice A3 cl.length c3])
           clear t3 s3 r3 hbg ts tq hb3)
        | (go_at_call 101
           go_must (refine (HS1.out _ (by exact rfAt_touch HR1.out.1 ((Touch.refl (fun _ => False) w1).alloc _) (fun e => e) (fun _ _ e => e)) (by simp; omega)).mono ?_)
           rintro e w2 ⟨A2, c2, rfl, s2, r2, t2⟩
           have HB2 := Lib.hid (t2.blk HBt.out hgt)
           have p0 := HB2.out.cell 0; have p1 := HB2.out.cell 1; have p2 := HB2.out.cell 2
           have y0 := HB2.out.frozen 0; have y1 := HB2.out.frozen 1; have y2 := HB2.out.frozen 2
           simp at p0 p1 p2
           have HR2 := Lib.hid (And.intro s2 (And.intro r2 t2))
           clear s2 r2 t2)
        | (go_at_call 82; go_must (refine (HCk.out _ A2 A3 c2 c3 _ (by exact HCR.out)).mono ?_); rintro e w4 ⟨rfl, t4⟩; have HT4 := Lib.hid t4; clear t4)
        | (go_at_call 48; go_must (refine (rf_fail g F l2 false _ (by exact (rfAt_touch HRf.out HT4.out (fun e => e) (fun _ _ e => e)))).mono ?_); rintro e we ⟨rfl, r5, t5⟩; have HRl := Lib.hid r5; have HTe := Lib.hid ((HT0.out.mono (S' := fun q => q = g) (fun _ _ e => e.elim)).trans ((HTw.out.trans HT4.out (fun _ _ e => e.elim)).trans t5 (fun _ _ e => e)) (fun _ _ e => e)); have HBe := Lib.hid (((HTw.out.trans HT4.out (fun _ _ e => e.elim)).trans t5 (fun _ _ e => e)).blk HB0.out hgb); have x0 := HBe.out.frozen 0; have x1 := HBe.out.frozen 1; have x2 := HBe.out.frozen 2; have X0 := HBe.out.cell 0; have X1 := HBe.out.cell 1; have X2 := HBe.out.cell 2; simp at X0 X1 X2; clear t5 r5))
      have hs := ((HBe.out.set_ 0 (.int .i64 0)).set_ 1 (.slice none 0 0)).set_ 2 (.slice none 0 0)
      have e0 := hs.cell 0; have e1 := hs.cell 1; have e2 := hs.cell 2
      simp at e0 e1 e2
      refine bodyPost_ret (v := .tuple #[.agg #[.int .i64 0, .slice none 0 0, .slice none 0 0], .bool false]) (by simp [results, Tryz.results70, go_sem, e0, e1, e2]) rfl ?_
      have tf := (((Touch.refl (fun q => q = w.heap.size) we).set (b := w.heap.size) (o := 0) (fun _ => rfl) (.int .i64 0)).set (b := w.heap.size) (o := 1) (fun _ => rfl) (.slice none 0 0)).set (b := w.heap.size) (o := 2) (fun _ => rfl) (.slice none 0 0)
      refine ⟨none, none, 0, 0, by rw [HRs.out, HOk.out]; rfl, ?_, ?_, ?_⟩
      · rw [HRs.out, HOk.out]; exact ⟨SpR.nil _ _ _, SpR.nil _ _ _⟩
      · rw [HRs.out, HOk.out]; exact rfAt_touch HRl.out tf (fun e => hgb e.symm) (fun k hk e => by have := HF.out k hk; omega)
      · exact (HTe.out.trans tf (fun q hq e => by omega))
  · have hbv : v = v := rfl
    by_cases hq : v = v
    · simp only [Bool.not_true, Bool.false_and] at HOk
      clear hq hbv
      go_enter Tryz.func70, Tryz.ntmps70
      go_wp2_with (first
        | (go_at_call 100; go_must (refine HI.out.mono ?_); rintro e w1 ⟨rfl, r1, t1⟩; have hs1 : w.heap.size + 1 ≤ w1.heap.size := (by have := t1.size; simpa using this); have hgt : ¬ w1.heap.size = g := (by omega); have hrt : ¬ w1.heap.size = w.heap.size := (by omega); have HR1 := Lib.hid (And.intro r1 t1); have HBt := Lib.hid (Blk.new w1 51 #[.int .i64 o, .slice none 0 0, .slice none 0 0]); clear r1 t1)
        | (go_at_call 101; have HM9 := HR2
           go_must (refine (HS2.out _ (by exact rfAt_touch HR2.out.2.1 ((Touch.refl (fun q => q = w1.heap.size) w2).set (b := w1.heap.size) (o := 1) (fun _ => rfl) _) (fun e => hgt e.symm) (fun k hk e => by have := HF.out k hk; omega)) (by have := HR2.out.2.2.size; simp at this ⊢; omega)).mono ?_)
           rintro e w3 ⟨A3, c3, rfl, s3, r3, t3⟩
           have hb3 := t3.blk (by simpa using HB2.out.set_ 1 (.slice A2 wk.length c2) : Blk (w2.setCell ⟨w1.heap.size, 1, none⟩ (.slice A2 wk.length c2)) w1.heap.size 51 #[.int .i64 o, .slice A2 wk.length c2, .slice none 0 0]) hgt
           clear p0 p1 p2 y0 y1 y2
           have p0 := hb3.cell 0; have p1 := hb3.cell 1; have p2 := hb3.cell 2
           have y0 := hb3.frozen 0; have y1 := hb3.frozen 1; have y2 := hb3.frozen 2
           simp at p0 p1 p2
           obtain ⟨Ag, kg, hbg⟩ := r3.blk
           have g1 := hbg.cell 1
           simp at g1
           have ts : Touch (fun q => q = w1.heap.size) w3 (w3.setCell ⟨w1.heap.size, 2, none⟩ (.slice A3 cl.length c3)) := (Touch.refl (fun q => q = w1.heap.size) w3).set (b := w1.heap.size) (o := 2) (fun _ => rfl) _
           have tq : Touch (fun q => q = w1.heap.size) w2 (w2.setCell ⟨w1.heap.size, 1, none⟩ (.slice A2 wk.length c2)) := (Touch.refl (fun q => q = w1.heap.size) w2).set (b := w1.heap.size) (o := 1) (fun _ => rfl) _
           have hz2 : w1.heap.size + 1 ≤ w2.heap.size := (by have := HR2.out.2.2.size; simpa using this)
           have HCR := Lib.hid (show CaR (w3.setCell ⟨w1.heap.size, 2, none⟩ (.slice A3 cl.length c3)) (fun p => w1.heap.size + 1 ≤ p) ⟨o, wk, cl⟩ A2 A3 from ⟨((((HR2.out.1.mono (F' := fun p => w1.heap.size + 1 ≤ p) (fun q hq => by simpa using hq)).touch tq (fun q hq e => by omega)).touch t3 (fun q hq e => by omega))).touch ts (fun q hq e => by omega), ((s3.mono (F' := fun p => w1.heap.size + 1 ≤ p) (fun q hq => by simp at hq; omega)).touch ts (fun q hq e => by omega))⟩)
           have HRf := Lib.hid (rfAt_touch r3 ts (fun e => hgt e.symm) (fun k hk e => by have := HF.out k hk; omega))
           have HTw := Lib.hid (((((HR1.out.2.trans ((Touch.refl (fun _ => False) w1).alloc (.cells #[.int .i64 o, .slice none 0 0, .slice none 0 0] 51)) (fun _ _ e => e.elim)).trans HR2.out.2.2 (fun _ _ e => e)).trans tq (fun q hq e => by simp at hq; omega)).trans t3 (fun _ _ e => e)).trans ts (fun q hq e => by simp at hq; omega))
           have HBt2 := Lib.hid (by simpa using hb3.set_ 2 (.slice A3 cl.length c3) : Blk (w3.setCell ⟨w1.heap.size, 2, none⟩ (.slice A3 cl.length c3)) w1.heap.size 51 #[.int .i64 o, .slice A2 wk.length c2, .slice A3 cl.length c3])
           clear t3 s3 r3 hbg ts tq hb3)
        | (go_at_call 101
           go_must (refine (HS1.out _ (by exact rfAt_touch HR1.out.1 ((Touch.refl (fun _ => False) w1).alloc _) (fun e => e) (fun _ _ e => e)) (by simp; omega)).mono ?_)
           rintro e w2 ⟨A2, c2, rfl, s2, r2, t2⟩
           have HB2 := Lib.hid (t2.blk HBt.out hgt)
           have p0 := HB2.out.cell 0; have p1 := HB2.out.cell 1; have p2 := HB2.out.cell 2
           have y0 := HB2.out.frozen 0; have y1 := HB2.out.frozen 1; have y2 := HB2.out.frozen 2
           simp at p0 p1 p2
           have HR2 := Lib.hid (And.intro s2 (And.intro r2 t2))
           clear s2 r2 t2)
        | (go_at_call 48; go_must (refine (rf_fail g F l2 true _ (by exact HRf.out)).mono ?_); rintro e we ⟨rfl, r5, t5⟩; have HRl := Lib.hid r5; have HTe := Lib.hid ((HT0.out.mono (S' := fun q => q = g) (fun _ _ e => e.elim)).trans (HTw.out.trans t5 (fun _ _ e => e)) (fun _ _ e => e)); have HBe := Lib.hid ((HTw.out.trans t5 (fun _ _ e => e)).blk HB0.out hgb); have x0 := HBe.out.frozen 0; have x1 := HBe.out.frozen 1; have x2 := HBe.out.frozen 2; have X0 := HBe.out.cell 0; have X1 := HBe.out.cell 1; have X2 := HBe.out.cell 2; simp at X0 X1 X2; clear t5 r5))
      have hs := ((HBe.out.set_ 0 (.int .i64 0)).set_ 1 (.slice none 0 0)).set_ 2 (.slice none 0 0)
      have e0 := hs.cell 0; have e1 := hs.cell 1; have e2 := hs.cell 2
      simp at e0 e1 e2
      refine bodyPost_ret (v := .tuple #[.agg #[.int .i64 0, .slice none 0 0, .slice none 0 0], .bool false]) (by simp [results, Tryz.results70, go_sem, e0, e1, e2]) rfl ?_
      have tf := (((Touch.refl (fun q => q = w.heap.size) we).set (b := w.heap.size) (o := 0) (fun _ => rfl) (.int .i64 0)).set (b := w.heap.size) (o := 1) (fun _ => rfl) (.slice none 0 0)).set (b := w.heap.size) (o := 2) (fun _ => rfl) (.slice none 0 0)
      refine ⟨none, none, 0, 0, by rw [HRs.out, HOk.out]; rfl, ?_, ?_, ?_⟩
      · rw [HRs.out, HOk.out]; exact ⟨SpR.nil _ _ _, SpR.nil _ _ _⟩
      · rw [HRs.out, HOk.out]; exact rfAt_touch HRl.out tf (fun e => hgb e.symm) (fun k hk e => by have := HF.out k hk; omega)
      · exact (HTe.out.trans tf (fun q hq e => by omega))
    · exact absurd rfl hq
end Go.Proofs.YtlcefchbfjfifaaGreat
end

section
namespace Go.Proofs.YtlcefchbfjfifaaGreat
open Go.RowKit Cal
set_option maxHeartbeats 4000000
set_option maxRecDepth 100000
set_option linter.unusedVariables false

theorem rdSt_back (L : List Sp) (rest : List UInt8) (hb : ∀ s ∈ L, 0 ≤ s.f ∧ s.f ≤ 1125899906842624 ∧ 0 ≤ s.t ∧ s.t ≤ 1125899906842624) : ∀ j, j ≤ L.length → rdSt (encSps L ++ rest) false j = (L.take j, encSps (L.drop j) ++ rest, false)
  | 0, _ => by simp [rdSt]
  | j + 1, h => by
    have ih := rdSt_back L rest hb j (by omega)
    have hs := List.drop_eq_getElem_cons (l := L) (i := j) (by omega)
    have hbs := hb _ (List.getElem_mem (show j < L.length by omega))
    have ht := List.take_succ_eq_append_getElem (show j < L.length by omega)
    generalize L[j]'_ = s at *
    obtain ⟨f, t⟩ := s
    simp only at hbs
    obtain ⟨b1, b2, b3, b4⟩ := hbs
    obtain ⟨f, rfl⟩ : ∃ f' : Nat, f = (f' : Int) := ⟨f.toNat, by omega⟩
    obtain ⟨t, rfl⟩ : ∃ t' : Nat, t = (t' : Int) := ⟨t.toNat, by omega⟩
    have e : encSps (L.drop j) ++ rest = encN 0 f ++ (encN 0 t ++ (encSps (L.drop (j + 1)) ++ rest)) := by
      rw [hs]; simp [encSps, encS2, encs]
    rw [rdSt_succ, ih]
    simp only
    rw [e, written_read _ f false _ (by omega) (by omega)]
    simp only
    rw [written_read _ t false _ (by omega) (by omega), ht]
theorem rdRow_back (L : List Sp) (rest : List UInt8) (hb : ∀ s ∈ L, 0 ≤ s.f ∧ s.f ≤ 1125899906842624 ∧ 0 ≤ s.t ∧ s.t ≤ 1125899906842624) (hl : L.length ≤ 32) : rdRow false (encRow L ++ rest) = (L, rest, false) := by
  have e : encRow L ++ rest = encN 0 L.length ++ (encSps L ++ rest) := by simp [encRow, encs]
  rw [rdRow, e, written_read 32 L.length false _ (by omega) hl]
  simp only
  rw [rdSt_back L rest hb L.length (Nat.le_refl _)]
  simp [encSps]
theorem row_sp {l : List Sp} : ∀ {e : Int}, 0 ≤ e → Row e l → ∀ s ∈ l, 0 ≤ s.f ∧ s.f ≤ 1125899906842624 ∧ 0 ≤ s.t ∧ s.t ≤ 1125899906842624 := by
  induction l with
  | nil => intro e _ _ s hs; cases hs
  | cons x l ih =>
    intro e he h s hs
    obtain ⟨h1, h2, h3, h4⟩ := h
    rcases List.mem_cons.1 hs with rfl | hs
    · omega
    · exact ih (by omega) h4 s hs
theorem rdRes_back (c : Ca) (hk : checkE c = 0) : rdRes false (encCa c) = ⟨c, true, [], false⟩ := by
  have h := check_ok hk
  have ho := h.off
  have e : encCa c = encI c.off ++ (encRow c.wk ++ (encRow c.cl ++ [])) := by simp [encCa, encIs]
  obtain ⟨i1, i2, i3⟩ := written_readI c.off false (encRow c.wk ++ (encRow c.cl ++ [])) (by omega) (by omega)
  have e1 : rdC1 false (encCa c) = (c.wk, encRow c.cl ++ [], false) := by
    rw [rdC1, e, i2, i3, rdRow_back c.wk _ (row_sp (Int.le_refl 0) h.wk.1) h.wk.2.1]
  have e2 : rdC2 false (encCa c) = (c.cl, [], false) := by
    rw [rdC2, e1, rdRow_back c.cl _ (row_sp (Int.le_refl 0) h.cl) h.cn]
  have e3 : rdCa false (encCa c) = c := by
    rw [rdCa, e1, e2, e, i1]
  rw [rdRes, rdOkC, e3, e2, hk]
  rfl
end Go.Proofs.YtlcefchbfjfifaaGreat
end
