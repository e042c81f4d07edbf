/- ref10.row, ref10.Put: the same bytes. (written by gencd.py) -/
import Derived.Test.YtcblbjhhlnmkjaaGreatCcBv
import Derived.Test.YtcblbjhhlnmkjaaGreatPlanv
namespace Go.Proofs.YtcblbjhhlnmkjaaGreat
open Go.RowKit Cal
set_option maxHeartbeats 4000000
set_option maxRecDepth 100000
set_option linter.unusedVariables false
attribute [local irreducible] wpPlan

/-- v is a row with the bytes l, of the call's own since w0. -/
def OwnX (w0 w : World) (l : List UInt8) (v : Value) : Prop :=
  ∃ r, Own w 5 1 v r l.length (l.map B8) ∧ (∀ q, r = some q → w0.heap.size ≤ q) ∧ Touch (fun _ => False) w0 w
theorem OwnX.start {w0 w : World} (t : Touch (fun _ => False) w0 w) : OwnX w0 w [] (.slice none 0 0) := ⟨none, Own.nil _ _ _, (fun _ e => by cases e), t⟩
theorem OwnX.far {w0 w w1 : World} {l : List UInt8} {v : Value} (h : OwnX w0 w l v) (t : Touch (fun _ => False) w w1) : OwnX w0 w1 l v := by
  obtain ⟨r, ho, hr, t0⟩ := h
  exact ⟨r, ho.touch t (fun _ _ e => e), hr, t0.trans t (fun _ _ e => e)⟩
theorem OwnX.of {w0 w w1 : World} {l : List UInt8} {e : Ending} (t : Touch (fun _ => False) w0 w) (h : NewOwn w l e w1) : ∃ v, e = .returned v ∧ OwnX w0 w1 l v := by
  obtain ⟨v, k, he, ho, hk, t1⟩ := h
  exact ⟨v, he, some k, ho, fun q e => by injection e with e; have := t.size; omega, t.trans t1 (fun _ _ e => e)⟩
theorem OwnX.new {w0 w : World} {l : List UInt8} {v : Value} (h : OwnX w0 w l v) (hl : 0 < l.length) : NewOwn w0 l (.returned v) w := by
  obtain ⟨r, ho, hr, t0⟩ := h
  obtain ⟨g, cap, cur, e, -⟩ := ho.2.resolve_left (fun ⟨_, hn, _⟩ => by omega)
  subst e
  exact ⟨v, g, rfl, ho, hr g rfl, t0⟩
/-- Behind an append. -/
theorem OwnX.app {w0 w w2 : World} {l m : List UInt8} {v1 : Value} {r r1 : Option Nat} (hr : ∀ q, r = some q → w0.heap.size ≤ q) (t0 : Touch (fun _ => False) w0 w) (ho1 : Own w2 5 1 v1 r1 (l.length + m.length) (l.map B8 ++ m.map B8)) (ht1 : Touch (fun k => r = some k) w w2) (hr1 : r1 = r ∨ ∃ k, r1 = some k ∧ w.heap.size ≤ k) : OwnX w0 w2 (l ++ m) v1 := by
  have hs := t0.size
  refine ⟨r1, by rw [List.length_append, List.map_append]; exact ho1, fun q e => ?_, t0.trans ht1 (fun q hq e => by have := hr q e; omega)⟩
  rcases hr1 with e' | ⟨q', e', hq'⟩
  · exact hr q (e'.symm.trans e)
  · rw [e'] at e; injection e with e; omega

theorem NewOwn.before {w w1 w2 : World} {l : List UInt8} {e : Ending} (t : Touch (fun _ => False) w w1) (h : NewOwn w1 l e w2) : NewOwn w l e w2 := by
  obtain ⟨v, k, he, ho, hk, t1⟩ := h
  exact ⟨v, k, he, ho, Nat.le_trans t.size hk, t.trans t1 (fun _ _ e => e)⟩
theorem Rd.litB (w : World) (g : Nat) (hg : w.heap.size = g) (t : TypeId) (cs : List Value) (n : Nat) (hn : cs.length = n) : Rd (w.alloc (.cells cs.toArray t)) (fun k => k = g) (some ⟨g, 0, none⟩) n cs := by
  subst hg; exact Rd.lit w t cs n hn
theorem own_append_list {ops : Array Oper} {rest : List Oper} {o : Oper} {a : Act} {Q : Exit → Act → World → Prop} {w w0 wx : World} (hgd : o.guard = none) (s x : Operand)
    (ho : o.op = .call { callee := .builtin .append, args := #[s, x], argTypes := #[49, 49] })
    (l m : List UInt8) (v xv : Value) (hsv : a.eval s = v) (hx : a.eval x = xv) (h1 : OwnX w0 w l v) (h2 : OwnX wx w m xv) (hsm : l.length + m.length ≤ 1000000)
    (h : ∀ v' w', OwnX w0 w' (l ++ m) v' → Touch (fun q => w0.heap.size ≤ q) w w' → wpList Tryz.prog ops Q rest (a.put o.dst v') w') : wpList Tryz.prog ops Q (o :: rest) a w := by
  obtain ⟨i0, hi, hz0, hz1, hz2⟩ := info_parts info8
  obtain ⟨r, ho1, hr, t0⟩ := h1
  obtain ⟨rx, hox, hrx, tx⟩ := h2
  refine wpList_own_append hgd s x 49 49 ho 5 i0 (.int .u8 0) 1 1 Tryz.underlying49 hi hz0 hz1 hz2 rfl v r l.length (l.map B8) hsv ho1 xv m.length (m.map B8) hx hox.src (by simp only [maxLen]; omega) (by omega) ?_
  intro v1 r1 w2 ho2 ht2 hr2
  exact h v1 w2 (OwnX.app hr t0 ho2 ht2 hr2) (ht2.mono (fun q _ e => hr q e))
theorem own_append_op {o : Oper} {a : Act} {K : Act → World → Prop} {Q : Exit → Act → World → Prop} {w w0 wx : World} (s x : Operand)
    (ho : o.op = .call { callee := .builtin .append, args := #[s, x], argTypes := #[49, 49] })
    (l m : List UInt8) (v xv : Value) (hsv : a.eval s = v) (hx : a.eval x = xv) (h1 : OwnX w0 w l v) (h2 : OwnX wx w m xv) (hsm : l.length + m.length ≤ 1000000)
    (h : ∀ v' w', OwnX w0 w' (l ++ m) v' → Touch (fun q => w0.heap.size ≤ q) w w' → K (a.put o.dst v') w') : o.wp Tryz.prog a w K Q := by
  obtain ⟨i0, hi, hz0, hz1, hz2⟩ := info_parts info8
  obtain ⟨r, ho1, hr, t0⟩ := h1
  obtain ⟨rx, hox, hrx, tx⟩ := h2
  refine wp_own_append s x 49 49 ho 5 i0 (.int .u8 0) 1 1 Tryz.underlying49 hi hz0 hz1 hz2 rfl v r l.length (l.map B8) hsv ho1 xv m.length (m.map B8) hx hox.src (by simp only [maxLen]; omega) (by omega) ?_
  intro v1 r1 w2 ho2 ht2 hr2
  exact h v1 w2 (OwnX.app hr t0 ho2 ht2 hr2) (ht2.mono (fun q _ e => hr q e))

theorem OwnX.blk {w0 w : World} {l : List UInt8} {v : Value} (h : OwnX w0 w l v) {b : Nat} {T : TypeId} {cs : Array Value} (hb : Blk w0 b T cs) : Blk w b T cs := by
  obtain ⟨_, _, _, t⟩ := h
  exact t.blk hb (fun e => e)
theorem NewOwn.touch {w w1 : World} {l : List UInt8} {e : Ending} (h : NewOwn w l e w1) : Touch (fun _ => False) w w1 := by obtain ⟨_, _, _, _, _, t⟩ := h; exact t
theorem OwnX.touch {w0 w : World} {l : List UInt8} {v : Value} (h : OwnX w0 w l v) : Touch (fun _ => False) w0 w := by obtain ⟨_, _, _, t⟩ := h; exact t

theorem fbrow_any (F : Nat → Prop) (A : Option Addr) (k : Nat) (L : List Sp) (w : World) (hr : SpR w F A L.length L) (hbd : ∀ s ∈ L, 0 ≤ s.f ∧ s.f < 9223372036854775808 ∧ 0 ≤ s.t ∧ s.t < 9223372036854775808) (h1 : L.length ≤ 1000) :
    Calls Tryz.prog 62 #[.slice A L.length k] w (NewOwn w (encRow L)) := by
  have HR := Lib.hid hr
  have HB := Lib.hid hbd
  have hcv : IntKind.u64.wrap ((L.length : Nat) : Int) = ((L.length : Nat) : Int) := IntWalk.u64_in _ (by omega)
  have hl0 := encN_len 0 L.length
  clear hr hbd
  go_enter Tryz.func62, Tryz.ntmps62
  go_wp2_with (
    go_at_call 74
    go_must (refine (fnum_any L.length _ (by omega)).mono ?_)
    rintro e w1 h2
    obtain ⟨x, rfl, hx2⟩ := OwnX.of (Touch.refl _ _) h2
    have HX := Lib.hid hx2
    clear h2 hx2)
  clear hcv
  go_loopw [3, 4] (fun b i wr => ∃ j : Nat, j ≤ L.length ∧ i = .int .i64 j ∧ OwnX w wr (encN 0 L.length ++ encSps (L.take j)) b) (fun _ i _ => L.length - (intOf i).toNat)
  case atStart => exact ⟨0, by omega, rfl, by simpa [encSps] using HX.out⟩
  case round =>
    obtain ⟨j, hj, rfl, hM⟩ := hrel
    have HM := Lib.hid hM
    clear hM HX
    by_cases hjk : j < L.length
    · have ha : L[j]? = some (L[j]'hjk) := List.getElem?_eq_getElem _
      obtain ⟨gb, off, rfl, hgb, -, hc0, hc1⟩ := HR.out.at_ ha
      have hbs := HB.out _ (List.getElem_mem hjk)
      have HTk := Lib.hid (encSps_take L j _ ha)
      have hl2 := encSps_len (L.take j)
      have hl3 : (L.take j).length ≤ 1000 := by simp; omega
      generalize L[j]'hjk = s at *
      obtain ⟨f, t⟩ := s
      simp only at hc0 hc1 hbs HTk
      obtain ⟨b1, b2, b3, b4⟩ := hbs
      obtain ⟨f, rfl⟩ : ∃ f' : Nat, f = (f' : Int) := ⟨f.toNat, by omega⟩
      obtain ⟨t, rfl⟩ : ∃ t' : Nat, t = (t' : Int) := ⟨t.toNat, by omega⟩
      have hcf : IntKind.u64.wrap ((f : Nat) : Int) = (f : Int) := IntWalk.u64_in _ (by omega)
      have hct : IntKind.u64.wrap ((t : Nat) : Int) = (t : Int) := IntWalk.u64_in _ (by omega)
      have hl4 := encN_len 0 f
      have hl5 := encN_len 0 t
      clear ha
      have q0 := (HM.out.touch.cell (p := ⟨gb, off + j * 2, none⟩) hgb (fun e => e)).trans hc0
      go_wp2_with (first
          | (at_builtin
             have HM9 := HX6
             go_must (refine own_append_list rfl _ _ rfl _ _ _ _ rfl rfl HM6.out HX6.out (by simp; omega) ?_)
             intro v7 w7 h3 t3
             have HM7 := Lib.hid h3
             clear h3 t3)
          | (go_at_call 74
             have HM9 := HM5
             go_must (refine (fnum_any t _ (by omega)).mono ?_)
             rintro e w6 h2
             have hm2 := HM5.out.far h2.touch
             obtain ⟨x6, rfl, hx2⟩ := OwnX.of (Touch.refl _ _) h2
             have HM6 := Lib.hid hm2
             have HX6 := Lib.hid hx2
             clear h2 hm2 hx2)
          | (at_builtin
             have HM9 := HX4
             go_must (refine own_append_list rfl _ _ rfl _ _ _ _ rfl rfl HM4.out HX4.out (by simp; omega) ?_)
             intro v5 w5 h3 t3
             have HM5 := Lib.hid h3
             clear h3 t3; have q1 := (HM5.out.touch.cell (p := ⟨gb, off + j * 2 + 1, none⟩) hgb (fun e => e)).trans hc1)
          | (go_at_call 74
             have HM9 := HM
             go_must (refine (fnum_any f _ (by omega)).mono ?_)
             rintro e w4 h2
             have hm2 := HM.out.far h2.touch
             obtain ⟨x4, rfl, hx2⟩ := OwnX.of (Touch.refl _ _) h2
             have HM4 := Lib.hid hm2
             have HX4 := Lib.hid hx2
             clear h2 hm2 hx2))
      go_roundw
      case rel => exact ⟨j + 1, by omega, by go_num, by rw [HTk.out]; have := HM7.out; simpa [encS2, encs] using this⟩
      case measure => simp [intOf]; omega
    · obtain rfl : j = L.length := by omega
      have hm0 := HM.out
      rw [List.take_length] at hm0
      have HM := Lib.hid hm0
      clear hm0
      go_wp2
      go_ret
      have := OwnX.new HM.out (by simp [encN])
      simpa [encRow, encs] using this
theorem fput10_any (F : Nat → Prop) (A B : Option Addr) (k m : Nat) (c : Ca) (w : World) (hr : CaR w F c A B) (hbd : ∀ s ∈ c.wk ++ c.cl, 0 ≤ s.f ∧ s.f < 9223372036854775808 ∧ 0 ≤ s.t ∧ s.t < 9223372036854775808) (ho : -9223372036854775808 ≤ c.off ∧ c.off ≤ 9223372036854775807) (h1 : c.wk.length ≤ 1000) (h2 : c.cl.length ≤ 1000) :
    Calls Tryz.prog 21 #[.agg #[.int .i64 c.off, .slice A c.wk.length k, .slice B c.cl.length m]] w (NewOwn w (encCa c)) := by
  have HR := Lib.hid (hr.touch ((Touch.refl (fun _ => False) w).alloc (.cells #[.int .i64 c.off, .slice A c.wk.length k, .slice B c.cl.length m] 24)) (fun _ _ e => e))
  have HW := Lib.hid (fun w1 hr => fbrow_any F A k c.wk w1 hr (fun s hs => hbd s (by simp [hs])) h1)
  have HC := Lib.hid (fun w1 hr => fbrow_any F B m c.cl w1 hr (fun s hs => hbd s (by simp [hs])) h2)
  have hl1 := encI_len c.off
  have hl2 := encRow_len c.wk
  have hl3 := encRow_len c.cl
  have hpos : 0 < (encCa c).length := by simp [encCa, encRow, encs, encN]; omega
  have HQ := Lib.hid (show encCa c = encI c.off ++ encRow c.wk ++ encRow c.cl by simp [encCa, encIs])
  generalize encCa c = Q at *
  generalize encRow c.wk = R1 at *
  generalize encRow c.cl = R2 at *
  have hs : (w.alloc (.cells #[.int .i64 c.off, .slice A c.wk.length k, .slice B c.cl.length m] 24)).heap.size = w.heap.size + 1 := by simp
  obtain ⟨W1, hW1⟩ : ∃ W1, W1 = w.alloc (.cells #[.int .i64 c.off, .slice A c.wk.length k, .slice B c.cl.length m] 24) := ⟨_, rfl⟩
  have HT0 := Lib.hid (show Touch (fun _ => False) w W1 from hW1 ▸ (Touch.refl (fun _ => False) w).alloc _)
  have hbk : Blk W1 w.heap.size 24 #[.int .i64 c.off, .slice A c.wk.length k, .slice B c.cl.length m] := hW1 ▸ Blk.new w _ _
  rw [← hW1] at HR hs
  have hbd1 := ((Touch.refl (fun _ => False) W1).drew).blk hbk (fun e => e)
  have q0 := hbd1.cell 0; have q1 := hbd1.cell 1; have q2 := hbd1.cell 2
  simp at q0 q1 q2
  have hlt := hbd1.lt
  have hns : ¬ w.heap.size < w.heap.size := by omega
  have HWW := Lib.hid hW1
  clear hr hbd hbk hbd1 hW1
  go_enter Tryz.func21, Tryz.ntmps21
  go_wp2_with fail
  rw [← HWW.out]
  refine wp_region_plan [(0, 0), (0, 1), (1, 3), (1, 4), (1, 7), (1, 8), (2, 2), (2, 5), (2, 6), (2, 9), (2, 10), (0, 11)] (fun q => w.heap.size < q) (by kernel_rfl) (by kernel_rfl) (fun c a d v w h => by cases d <;> exact h) ?_
  iterate 2
    refine plan_s1 rfl (by rfl) (fun Kc hKc => ?_)
    go_simp
    first
      | (refine hKc _ ?_)
    clear hKc Kc
  iterate 4
    apply plan_h
    · rfl
    · rfl
    · intro wh hT
      have hf0 := (hT.cell (p := ⟨w.heap.size, 1, none⟩) hlt hns).trans q1
      have hf1 := (hT.cell (p := ⟨w.heap.size, 2, none⟩) hlt hns).trans q2
      go_simp
      try rfl
    go_frame
  refine plan_a1 rfl (by rfl) (fun Kc hKc => ?_)
  go_simp
  refine (fint_any _ _ (by omega) (by omega)).mono ?_
  rintro e w2 h2
  obtain ⟨x, rfl, hx2⟩ := OwnX.of (Touch.refl _ _).drew h2
  have HM := Lib.hid hx2
  have t2 : Touch (fun _ => False) W1.drew w2 := by obtain ⟨_, _, _, t⟩ := hx2; exact ⟨t.os, t.tape, t.output, t.size, t.block⟩
  clear h2 hx2
  refine hKc _ _ ⟨t2.mono (fun _ _ e => e.elim), ?_⟩
  clear hKc Kc
  clear t2
  refine plan_a1 rfl (by rfl) (fun Kc hKc => ?_)
  go_simp
  refine (HW.out _ (by exact HR.out.wk.touch HM.out.touch (fun _ _ e => e))).mono ?_
  rintro e w3 h3
  have t3 : Touch (fun _ => False) w2 w3 := h3.touch
  have HM := Lib.hid (HM.out.far t3)
  obtain ⟨x3, rfl, hx3⟩ := OwnX.of (Touch.refl _ _) h3
  have HX := Lib.hid hx3
  clear h3 hx3
  refine hKc _ _ ⟨t3.mono (fun _ _ e => e.elim), ?_⟩
  clear hKc Kc
  clear t3
  refine plan_a1 rfl (by rfl) (fun Kc hKc => ?_)
  refine own_append_op _ _ rfl _ _ _ _ rfl rfl HM.out HX.out (by omega) ?_
  intro v4 w4 h4 t4
  have HM := Lib.hid h4
  refine hKc _ _ ⟨t4.mono (fun q _ e => by omega), ?_⟩
  clear hKc Kc h4 t4
  refine plan_a1 rfl (by rfl) (fun Kc hKc => ?_)
  go_simp
  refine (HC.out _ (by exact HR.out.cl.touch HM.out.touch (fun _ _ e => e))).mono ?_
  rintro e w5 h5
  have t5 : Touch (fun _ => False) w4 w5 := h5.touch
  have HM := Lib.hid (HM.out.far t5)
  obtain ⟨x5, rfl, hx5⟩ := OwnX.of (Touch.refl _ _) h5
  have HX := Lib.hid hx5
  clear h5 hx5
  refine hKc _ _ ⟨t5.mono (fun _ _ e => e.elim), ?_⟩
  clear hKc Kc
  clear t5
  refine plan_a1 rfl (by rfl) (fun Kc hKc => ?_)
  refine own_append_op _ _ rfl _ _ _ _ rfl rfl HM.out HX.out (by simp; omega) ?_
  intro v6 w6 h6 t6
  have HM := Lib.hid h6
  refine hKc _ _ ⟨t6.mono (fun q _ e => by omega), ?_⟩
  clear hKc Kc h6 t6
  iterate 1
    refine plan_s1 rfl (by rfl) (fun Kc hKc => ?_)
    go_simp
    first
      | (refine hKc _ ?_)
    clear hKc Kc
  refine plan_done ?_
  go_wp2
  go_ret
  exact NewOwn.before HT0.out (OwnX.new (by rw [HQ.out]; exact HM.out) hpos)
end Go.Proofs.YtcblbjhhlnmkjaaGreat
