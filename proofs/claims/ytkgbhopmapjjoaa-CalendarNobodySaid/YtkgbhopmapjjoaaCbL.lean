/- calendar.Plain; CalendarChecks walked. -/
import Derived.Test.YtkgbhopmapjjoaaCbG
namespace Go.Proofs.Ytkgbhopmapjjoaa
open Go.RowKit Cal
set_option maxHeartbeats 4000000
set_option maxRecDepth 100000
set_option linter.unusedVariables false
attribute [local irreducible] wpPlan

def PlainV (w : World) (c : Ca) (e : Ending) (w' : World) : Prop :=
  ∃ A n B m, e = .returned (.agg #[.int .i64 c.off, .slice A c.wk.length n, .slice B c.cl.length m]) ∧ CaR w' (fun q => w.heap.size ≤ q) c A B ∧ Touch (fun _ => False) w w'
theorem cplain_any (k a p b : Nat) (c : Ca) (G : Nat → Prop) (w : World) (h : CkAt w k a p b c G) :
    Calls Try.prog 19 #[.pointer (some ⟨k, 0, none⟩)] w (PlainV w c) := by
  have q0 := h.blk.cell 0; have q1 := h.blk.cell 1; have q2 := h.blk.cell 2
  simp at q0 q1 q2
  have hkl := h.blk.lt
  have hkn : k ≠ w.heap.size := by omega
  have hoff := h.ok.off
  have HN := Lib.hid (fun w1 (hh : CkAt w1 k a p b c G) => cnone_any k a p b c G w1 hh)
  have HWr := Lib.hid (fun w1 A n (hh : PlAt w1 p c.wk A n b G) => wrow_any p c.wk A n b G w1 hh h.ok.wk)
  have HAr := Lib.hid (fun w1 B m (hh : AlAt w1 a c.cl B m G) => alrow_any a c.cl B m G w1 hh (by have := h.ok.cn; omega))
  have HH := Lib.hid h
  have HTa := Lib.hid ((Touch.refl (fun _ => False) w).alloc (.cells #[.int .i64 0, .slice none 0 0, .slice none 0 0] 24))
  have hw1 : IntKind.i64.wrap (604800 - (604800 - c.off)) = c.off := by rw [show 604800 - (604800 - c.off) = c.off by omega]; exact IntWalk.i64_in _ (by omega)
  obtain ⟨s, hs⟩ : ∃ s, s = 604800 - c.off := ⟨_, rfl⟩
  have HSs := Lib.hid hs
  rw [← hs] at hw1 q2
  clear hs h hoff
  go_enter Try.func19, Try.ntmps19
  go_wp2_with (go_at_call 30; go_must (refine (HN.out _ (by exact HH.out.none HTa.out)).mono ?_); rintro e w1 ⟨rfl, rfl⟩)
  have HT1 := Lib.hid (HTa.out.drew)
  have HH1 := Lib.hid (HH.out.none HT1.out)
  have HBn := Lib.hid (((Touch.refl (fun _ => False) (w.alloc (.cells #[.int .i64 0, .slice none 0 0, .slice none 0 0] 24))).drew).blk (Blk.new w 24 #[.int .i64 0, .slice none 0 0, .slice none 0 0]) (fun e => e))
  have r0 := HH1.out.blk.cell 0; have r2 := HH1.out.blk.cell 2
  simp only [List.getElem?_toArray, List.getElem?_cons_zero, List.getElem?_cons_succ] at r0 r2
  rw [← HSs.out] at r2
  have hkl1 := HH1.out.blk.lt
  obtain ⟨A1, n1, hpl⟩ := HH1.out.pn.pl
  obtain ⟨B1, m1, hal⟩ := HH1.out.al
  have HPl := Lib.hid hpl
  have HAl := Lib.hid hal
  clear hpl hal
  refine wp_region_plan [(0, 5), (0, 6), (0, 7), (0, 8), (1, 0), (1, 1), (1, 2), (1, 3), (1, 4), (1, 10), (1, 11), (1, 12), (1, 13), (2, 9), (2, 14), (0, 15), (2, 16)] (fun q => q = w.heap.size) (by kernel_rfl) (by kernel_rfl) (fun c a d v w h => by cases d <;> exact h) ?_
  iterate 4
    refine plan_s1 rfl (by rfl) (fun Kc hKc => ?_)
    go_simp
    first
      | (refine hKc _ ?_)
    clear hKc Kc
  iterate 9
    apply plan_h
    · rfl
    · rfl
    · intro wh hT
      have hf0 := (hT.cell (p := ⟨k, 2, none⟩) hkl1 hkn).trans r2
      have hf1 := (hT.cell (p := ⟨k, 0, none⟩) hkl1 hkn).trans r0
      go_simp
      try rfl
    go_frame
  refine plan_a1 rfl (by rfl) (fun Kc hKc => ?_)
  go_simp
  refine (HWr.out _ _ _ (by exact HPl.out)).mono ?_
  rintro e w2 ⟨A2, c2, rfl, -, -, -, s2, t2⟩
  refine hKc _ _ ⟨(t2.mono (fun _ _ e => e.elim)), ?_⟩
  clear hKc Kc
  have HS2 := Lib.hid s2
  have HT2 := Lib.hid t2
  clear s2 t2
  refine plan_a1 rfl (by rfl) (fun Kc hKc => ?_)
  go_simp
  refine (HAr.out _ _ _ (by exact HAl.out.touch HT2.out (fun e => e) (fun _ _ e => e))).mono ?_
  rintro e w3 ⟨A3, c3, rfl, -, -, -, s3, t3⟩
  refine hKc _ _ ⟨(t3.mono (fun _ _ e => e.elim)), ?_⟩
  clear hKc Kc
  have HS3 := Lib.hid s3
  have HT3 := Lib.hid t3
  clear s3 t3
  have hcb := (HT2.out.trans HT3.out (fun _ _ e => e)).blk HBn.out (fun e => e)
  have g0 := hcb.cell 0; have g1 := hcb.cell 1; have g2 := hcb.cell 2
  have z0 := hcb.frozen 0; have z1 := hcb.frozen 1; have z2 := hcb.frozen 2
  simp at g0 g1 g2
  have HCb := Lib.hid hcb
  clear hcb
  iterate 1
    refine plan_s1 rfl (by rfl) (fun Kc hKc => ?_)
    go_simp
    first
      | (refine hKc _ ?_)
    clear hKc Kc
  refine plan_a1 rfl (by rfl) (fun Kc hKc => ?_)
  go_simp
  refine hKc _ _ ⟨((((Touch.refl (fun q => q = w.heap.size) _).set (b := w.heap.size) (o := 0) (fun _ => rfl) _).set (b := w.heap.size) (o := 1) (fun _ => rfl) _).set (b := w.heap.size) (o := 2) (fun _ => rfl) _), ?_⟩
  clear hKc Kc
  refine plan_done ?_
  clear hw1
  go_wp2
  have hs2 := ((HCb.out.set_ 0 (.int .i64 c.off)).set_ 1 (.slice A2 c.wk.length c2)).set_ 2 (.slice A3 c.cl.length c3)
  have e0 := hs2.cell 0; have e1 := hs2.cell 1; have e2 := hs2.cell 2
  simp at e0 e1 e2
  refine bodyPost_ret (v := .agg #[.int .i64 c.off, .slice A2 c.wk.length c2, .slice A3 c.cl.length c3]) (by simp [results, Try.results19, go_sem, e0, e1, e2]) rfl ?_
  have tst := (((Touch.refl (fun q => q = w.heap.size) w3).set (b := w.heap.size) (o := 0) (fun _ => rfl) (.int .i64 c.off)).set (b := w.heap.size) (o := 1) (fun _ => rfl) (.slice A2 c.wk.length c2)).set (b := w.heap.size) (o := 2) (fun _ => rfl) (.slice A3 c.cl.length c3)
  have z1 := HT1.out.size
  have z2 := HT2.out.size
  simp at z2
  refine ⟨A2, c2, A3, c3, rfl, ⟨(((HS2.out.touch HT3.out (fun _ _ e => e)).touch tst (fun q hq e => by simp at hq; omega))).mono (fun q hq => by simp at hq; omega), ((HS3.out.touch tst (fun q hq e => by omega))).mono (fun q hq => by omega)⟩, ((HT1.out.trans HT2.out (fun _ _ e => e)).trans HT3.out (fun _ _ e => e)).trans tst (fun q hq e => by omega)⟩
end Go.Proofs.Ytkgbhopmapjjoaa
