/- ref15.Plan, walked. (written by gencho.py) -/
import Derived.Test.YtcblbjhhlnmkjaaGreatChL
import Derived.Test.YtcblbjhhlnmkjaaGreatChD
namespace Go.Proofs.YtcblbjhhlnmkjaaGreat
open Go.RowKit Cal
set_option maxHeartbeats 4000000
set_option maxRecDepth 100000
set_option linter.unusedVariables false

theorem infoFt : (Tryz.prog.info? 47).map (fun i => (i.zero, i.size, i.bytes)) = some (some (.agg #[.int .i64 0, .int .i64 0, .int .i64 0, .int .i64 0]), 4, 32) := by kernel_rfl
theorem stC_oneF (s : St) : ∀ u ∈ stC s, u.oneCell' = true := by
  intro u hu; simp [stC] at hu; rcases hu with rfl | rfl | rfl | rfl <;> rfl
theorem Own.rdF {w : World} {T : TypeId} {v : Value} {r : Option Nat} {n sz : Nat} {xs : List Value} (h : Own w T sz v r n xs) : ∃ A c, v = .slice A n c ∧ RdZ w (fun k => r = some k) sz A n xs := by
  rcases h.2 with ⟨hv, hn, _⟩ | ⟨g, cap, cur, hr, hv, hb, hn, hc, hs, ht⟩
  · exact ⟨none, 0, by rw [hv, hn], h.1, fun h0 => by omega⟩
  · refine ⟨_, cap, hv, h.1, fun hpos => ⟨g, 0, rfl, hb.lt, hr, fun j u hj => ?_⟩⟩
    rw [Nat.zero_add, hb.cell]
    rw [← ht, List.getElem?_take] at hj
    split at hj
    · simpa using hj
    · cases hj
structure FlSt (w wr : World) (N : Nat) (r : Option Nat) (v : Value) (L : List St) (c0 c1 sc : Array Value) : Prop where
  own : Own wr 47 4 v r L.length (L.flatMap stC)
  rk : ∀ q, r = some q → w.heap.size + 2 ≤ q ∧ q ≠ N
  t : Touch (fun _ => False) w wr
  b0 : Blk wr w.heap.size 24 c0
  b1 : Blk wr (w.heap.size + 1) 27 c1
  bn : Blk wr N 47 sc
  lo : w.heap.size + 2 ≤ N
def FlP (r : List St × Int) (w : World) (e : Ending) (w' : World) : Prop :=
  ∃ A n, e = .returned (.tuple #[.slice A r.1.length n, .int .i64 r.2]) ∧ RdZ w' (fun q => w.heap.size ≤ q) 4 A r.1.length (r.1.flatMap stC) ∧ Touch (fun _ => False) w w'
theorem FlSt.step {w wr w1 w2 w3 W6 : World} {N : Nat} {r r1 : Option Nat} {v v1 : Value} {L : List St} {s : St} {c0 c1 sc sc' : Array Value} (h : FlSt w wr N r v L c0 c1 sc)
    (ta : Touch (fun _ => False) wr w1) (h1 : wr.heap.size < w1.heap.size) (ho : Own w2 47 4 v1 r1 (L.length + 1) (L.flatMap stC ++ stC s)) (ht1 : Touch (fun q => r = some q) w1 w2) (hr1 : r1 = r ∨ ∃ q, r1 = some q ∧ w1.heap.size ≤ q)
    (t3 : Touch (fun _ => False) w2 w3) (tn : Touch (fun q => q = N) w3 W6) (hbn : Blk W6 N 47 sc') : FlSt w W6 N r1 v1 (L ++ [s]) c0 c1 sc' := by
  have hN := h.bn.lt
  have s1 := ht1.size
  have s3 := t3.size
  have s6 := tn.size
  have s0 := h.t.size
  have lo := h.lo
  have hrk : ∀ q, r1 = some q → w.heap.size + 2 ≤ q ∧ q ≠ N := by
    intro q e
    rcases hr1 with e' | ⟨q', e', hq⟩
    · exact h.rk q (by rw [← e']; exact e)
    · rw [e'] at e; injection e with e; subst e; omega
  refine ⟨?_, hrk, ?_, ?_, ?_, hbn, lo⟩
  · have ho2 := (ho.touch t3 (fun q e hq => hq)).touch tn (fun q e hq => (hrk q e).2 hq)
    simpa using ho2
  · exact (((h.t.trans ta (fun _ _ e => e.elim)).trans ht1 (fun q hq e => by have := h.rk q e; omega)).trans t3 (fun _ _ e => e)).trans tn (fun q hq e => by omega)
  · exact tn.blk (t3.blk (ht1.blk (ta.blk h.b0 (fun e => e)) (fun e => by have := h.rk _ e; omega)) (fun e => e)) (by omega)
  · exact tn.blk (t3.blk (ht1.blk (ta.blk h.b1 (fun e => e)) (fun e => by have := h.rk _ e; omega)) (fun e => e)) (by omega)
theorem fplan_any (F : Nat → Prop) (B D : Option Addr) (m l : Nat) (c : Ca) (F2 : Nat → Prop) (A : Option Addr) (n : Nat) (t : Co) (now : Int) (w : World) (hr : CaR w F c B D) (hc : c.Ok) (hl : SpR w F2 A t.lv.length t.lv) (hlen : t.lv.length ≤ 1000) :
    Calls Tryz.prog 11 #[.agg #[.int .i64 c.off, .slice B c.wk.length m, .slice D c.cl.length l], .agg #[.int .i64 t.cal, .slice A t.lv.length n, .int .i64 t.rt, .int .i64 t.bk], .int .i64 now] w (FlP (planV c t now) w) := by
  obtain ⟨i0, hi, hz0, hz1, hz2⟩ := info_parts infoFt
  have ht0 : Touch (fun _ => False) w ((w.alloc (.cells #[.int .i64 c.off, .slice B c.wk.length m, .slice D c.cl.length l] 24)).alloc (.cells #[.int .i64 t.cal, .slice A t.lv.length n, .int .i64 t.rt, .int .i64 t.bk] 27)) := ((Touch.refl _ w).alloc _).alloc _
  have HT0 := Lib.hid ht0
  have HB0 := Lib.hid ((Blk.new w 24 #[.int .i64 c.off, .slice B c.wk.length m, .slice D c.cl.length l]).alloc (.cells #[.int .i64 t.cal, .slice A t.lv.length n, .int .i64 t.rt, .int .i64 t.bk] 27))
  have HC0 := Lib.hid (show Blk ((w.alloc (.cells #[.int .i64 c.off, .slice B c.wk.length m, .slice D c.cl.length l] 24)).alloc (.cells #[.int .i64 t.cal, .slice A t.lv.length n, .int .i64 t.rt, .int .i64 t.bk] 27)) (w.heap.size + 1) 27 #[.int .i64 t.cal, .slice A t.lv.length n, .int .i64 t.rt, .int .i64 t.bk] by simpa using Blk.new (w.alloc (.cells #[.int .i64 c.off, .slice B c.wk.length m, .slice D c.cl.length l] 24)) 27 #[.int .i64 t.cal, .slice A t.lv.length n, .int .i64 t.rt, .int .i64 t.bk])
  have HL := Lib.hid hl
  have HR := Lib.hid hr
  have HF1 := Lib.hid (fun w1 (hr : CaR w1 F c B D) (hl : SpR w1 F2 A t.lv.length t.lv) => ffirst_any F B D m l c F2 A n t now w1 hr hc hl)
  unfold ElS at HF1
  have HPA := Lib.hid (PlanAt.start c t now)
  generalize firstV c t now = r1 at *
  clear hr hl ht0
  go_enter Tryz.func11, Tryz.ntmps11
  go_wp2_with (go_at_call 45; go_must (refine (HF1.out _ (by exact HR.out.touch HT0.out (fun _ _ e => e)) (by exact HL.out.touch HT0.out (fun _ _ e => e))).mono ?_); rintro e w1 ⟨rfl, t1⟩; have HT1 := Lib.hid t1; clear t1)
  have hzz : w.heap.size + 2 ≤ w1.heap.size := by have := HT1.out.size; simpa using this
  obtain ⟨W5, hW5⟩ : ∃ W5, W5 = w1.alloc (.cells #[.int .i64 r1.1.lv, .int .i64 r1.1.fr, .int .i64 r1.1.le, .int .i64 r1.1.du] 47) := ⟨_, rfl⟩
  have HS0 := Lib.hid (show FlSt w W5 w1.heap.size none (.slice none 0 0) [] #[.int .i64 c.off, .slice B c.wk.length m, .slice D c.cl.length l] #[.int .i64 t.cal, .slice A t.lv.length n, .int .i64 t.rt, .int .i64 t.bk] #[.int .i64 r1.1.lv, .int .i64 r1.1.fr, .int .i64 r1.1.le, .int .i64 r1.1.du] from hW5 ▸ by
    have ta := (Touch.refl (fun _ => False) w1).alloc (.cells #[.int .i64 r1.1.lv, .int .i64 r1.1.fr, .int .i64 r1.1.le, .int .i64 r1.1.du] 47)
    exact ⟨Own.nil _ _ _, fun q e => (by cases e), (HT0.out.trans HT1.out (fun _ _ e => e)).trans ta (fun _ _ e => e.elim), ta.blk (HT1.out.blk HB0.out (fun e => e)) (fun e => e), ta.blk (HT1.out.blk HC0.out (fun e => e)) (fun e => e), Blk.new _ _ _, by omega⟩)
  rw [← hW5]
  generalize w1.heap.size = N at *
  clear hW5 HT1 HF1 HB0 HC0
  go_loopw [8, 10, 11] (fun vl ve vk wr => ∃ (ok : Bool) (e : Int) (L : List St) (s : St) (r : Option Nat), vk = .bool ok ∧ ve = .int .i64 e ∧ ((ok = true ∧ PlanAt c t now L s e) ∨ (ok = false ∧ e = 0 ∧ planV c t now = (L, 0))) ∧ L.length ≤ t.lv.length ∧ (∃ B m, vl = .slice B L.length m) ∧ FlSt w wr N r vl L #[.int .i64 c.off, .slice B c.wk.length m, .slice D c.cl.length l] #[.int .i64 t.cal, .slice A t.lv.length n, .int .i64 t.rt, .int .i64 t.bk] #[.int .i64 s.lv, .int .i64 s.fr, .int .i64 s.le, .int .i64 s.du]) (fun vl ve vk _ => t.lv.length + 2 - (match vl with | .slice _ m _ => m | _ => 0))
  case atStart => exact ⟨true, r1.2, [], r1.1, none, rfl, rfl, .inl ⟨rfl, HPA.out⟩, by simp, ⟨none, 0, rfl⟩, HS0.out⟩
  case round =>
    obtain ⟨ok, e, L, s, r, rfl, rfl, hpa, hLl, ⟨Bv, mv, rfl⟩, hp⟩ := hrel
    have HP := Lib.hid hp
    clear hp HS0 HPA
    rcases hpa with ⟨rfl, hpa⟩ | ⟨rfl, rfl, hv⟩
    rotate_left
    · go_wp2
      go_ret2
      rw [hv]
      obtain ⟨A2, c2, hv2, hrd⟩ := HP.out.own.rdF
      injection hv2 with e1 e2 e3
      subst e1 e3
      exact ⟨Bv, mv, rfl, ⟨hrd.1, fun hp => by obtain ⟨g, off, x1, x2, x3, x4⟩ := hrd.2 hp; exact ⟨g, off, x1, x2, by have := HP.out.rk g x3; omega, x4⟩⟩, HP.out.t⟩
    have HPA := Lib.hid hpa
    clear hpa
    by_cases he : e = 0
    rotate_left
    · have hne : (e != 0) = true := by simpa using he
      have hv : planV c t now = ([], e) := by
        rcases HPA.out with h | h
        · exact h.2
        · exact absurd h.1 he
      go_wp2
      go_ret2
      rw [hv]
      exact ⟨none, 0, rfl, ⟨by simp, fun h => absurd h (by simp)⟩, HP.out.t⟩
    subst he
    by_cases hla : L.length + 1 = t.lv.length
    · obtain ⟨hpv, hnx⟩ := HPA.out.last hla
      have HNx := Lib.hid (fun w1 (hr : CaR w1 F c B D) (hl : SpR w1 F2 A t.lv.length t.lv) => PF.fnext_any F B D m l c F2 A n t s s.du w1 hr hc hl (by omega))
      unfold ElN at HNx
      rw [hnx] at HNx
      have hbn := HP.out.bn
      have q0 := hbn.cell 0; have q1 := hbn.cell 1; have q2 := hbn.cell 2; have q3 := hbn.cell 3; simp at q0 q1 q2 q3
      have fq0 := hbn.frozen 0; have fq1 := hbn.frozen 1; have fq2 := hbn.frozen 2; have fq3 := hbn.frozen 3
      have hNl := hbn.lt
      have hNw : ¬ N = wr.heap.size := by omega
      clear hbn
      go_wp2_with (first
        | (at_builtin
           go_must (refine wpList_own_append rfl _ _ 38 38 rfl 47 i0 (.agg #[.int .i64 0, .int .i64 0, .int .i64 0, .int .i64 0]) 4 32 Tryz.underlying38 hi hz0 hz1 hz2 rfl _ r L.length (L.flatMap stC) rfl (by exact HP.out.own.touch ((Touch.refl (fun _ => False) wr).alloc _) (fun _ _ e => e)) _ 1 (stC s) rfl (by exact Src.lit Tryz.underlying38 _ 1 1 _ #[.int .i64 s.lv, .int .i64 s.fr, .int .i64 s.le, .int .i64 s.du] (Blk.new wr _ _) rfl (stC_oneF s)) (by simp only [maxLen]; omega) (by omega) ?_)
           intro v1 r1 w2 ho1 ht1 hr1
           obtain ⟨A1, c1, rfl, -, -⟩ := ho1.form
           have ta : Touch (fun _ => False) wr (wr.alloc (.cells #[.int .i64 s.lv, .int .i64 s.fr, .int .i64 s.le, .int .i64 s.du] 47)) := (Touch.refl _ wr).alloc _
           have hz2 : wr.heap.size + 1 ≤ w2.heap.size := by have := ht1.size; simpa using this
           have HT2 := Lib.hid ((HP.out.t.trans ta (fun _ _ e => e.elim)).trans ht1 (fun q hq e => by have := HP.out.rk q e; omega))
           have HN2 := Lib.hid (ht1.blk (ta.blk HP.out.bn (fun e => e)) (fun e => (HP.out.rk _ e).2 rfl))
           have HB2 := Lib.hid (ht1.blk (ta.blk HP.out.b0 (fun e => e)) (fun e => by have := HP.out.rk _ e; omega))
           have HC2 := Lib.hid (ht1.blk (ta.blk HP.out.b1 (fun e => e)) (fun e => by have := HP.out.rk _ e; omega))
           have HO2 := Lib.hid ho1
           have HR2 := Lib.hid hr1
           have HT12 := Lib.hid ht1
           clear q0 q1 q2 q3 fq0 fq1 fq2 fq3 ho1 ht1 hr1
           have q0 := HN2.out.cell 0; have q1 := HN2.out.cell 1; have q2 := HN2.out.cell 2; have q3 := HN2.out.cell 3; simp at q0 q1 q2 q3
           have y0 := HB2.out.cell 0; have y1 := HB2.out.cell 1; have y2 := HB2.out.cell 2; simp at y0 y1 y2
           have z0 := HC2.out.cell 0; have z1 := HC2.out.cell 1; have z2 := HC2.out.cell 2; have z3 := HC2.out.cell 3; simp at z0 z1 z2 z3)
        | (go_at_call 46
           go_must (refine (HNx.out _ (by exact HR.out.touch HT2.out (fun _ _ e => e)) (by exact HL.out.touch HT2.out (fun _ _ e => e))).mono ?_)
           rintro e3 w3 ⟨rfl, t3⟩
           have hz3 : w2.heap.size ≤ w3.heap.size := t3.size
           have HN3 := Lib.hid (t3.blk HN2.out (fun e => e))
           have HB3 := Lib.hid (t3.blk HB2.out (fun e => e))
           have HC3 := Lib.hid (t3.blk HC2.out (fun e => e))
           have HT23 := Lib.hid t3
           clear q0 q1 q2 q3 y0 y1 y2 z0 z1 z2 z3 t3
           have q0 := HN3.out.cell 0; have q1 := HN3.out.cell 1; have q2 := HN3.out.cell 2; have q3 := HN3.out.cell 3; simp at q0 q1 q2 q3
           have fq0 := HN3.out.frozen 0; have fq1 := HN3.out.frozen 1; have fq2 := HN3.out.frozen 2; have fq3 := HN3.out.frozen 3))
      have HS6 := Lib.hid (HP.out.step ((Touch.refl (fun _ => False) wr).alloc (.cells #[.int .i64 s.lv, .int .i64 s.fr, .int .i64 s.le, .int .i64 s.du] 47)) (by simp) HO2.out HT12.out HR2.out HT23.out (((((Touch.refl (fun q => q = N) w3).set (b := N) (o := 0) (fun _ => rfl) (.int .i64 St.z.lv)).set (b := N) (o := 1) (fun _ => rfl) (.int .i64 St.z.fr)).set (b := N) (o := 2) (fun _ => rfl) (.int .i64 St.z.le)).set (b := N) (o := 3) (fun _ => rfl) (.int .i64 St.z.du)) (((((HN3.out).set_ 0 (.int .i64 St.z.lv)).set_ 1 (.int .i64 St.z.fr)).set_ 2 (.int .i64 St.z.le)).set_ 3 (.int .i64 St.z.du)))
      clear HO2 HR2 HT12 HT23 HN3 HB3 HC3 HN2 HB2 HC2 q0 q1 q2 q3 fq0 fq1 fq2 fq3
      go_roundw
      case rel => exact ⟨false, 0, L ++ [s], St.z, r1, rfl, rfl, .inr ⟨rfl, rfl, hpv⟩, by simp; omega, ⟨A1, c1, by simp [hla]⟩, by simpa [hla] using HS6.out⟩
      case measure => simp; omega
    · have hlt : L.length < t.lv.length := by
        rcases HPA.out with h | h
        · exact absurd rfl h.1
        · exact h.2.2.1
      obtain ⟨hp1, hp2⟩ := HPA.out.next (by omega)
      generalize hnx : nextV c t s s.du = nvr at hp1 hp2
      obtain ⟨⟨nS, nm⟩, ne⟩ := nvr
      simp only at hp1 hp2
      by_cases hne : ne = 0
      · subst hne
        have hp3 : nm = true := by simpa using hp2
        clear hp2
        subst hp3
        have HNx := Lib.hid (fun w1 (hr : CaR w1 F c B D) (hl : SpR w1 F2 A t.lv.length t.lv) => PF.fnext_any F B D m l c F2 A n t s s.du w1 hr hc hl (by omega))
        unfold ElN at HNx
        rw [hnx] at HNx
        have hbn := HP.out.bn
        have q0 := hbn.cell 0; have q1 := hbn.cell 1; have q2 := hbn.cell 2; have q3 := hbn.cell 3; simp at q0 q1 q2 q3
        have fq0 := hbn.frozen 0; have fq1 := hbn.frozen 1; have fq2 := hbn.frozen 2; have fq3 := hbn.frozen 3
        have hNl := hbn.lt
        have hNw : ¬ N = wr.heap.size := by omega
        clear hbn
        go_wp2_with (first
          | (at_builtin
             go_must (refine wpList_own_append rfl _ _ 38 38 rfl 47 i0 (.agg #[.int .i64 0, .int .i64 0, .int .i64 0, .int .i64 0]) 4 32 Tryz.underlying38 hi hz0 hz1 hz2 rfl _ r L.length (L.flatMap stC) rfl (by exact HP.out.own.touch ((Touch.refl (fun _ => False) wr).alloc _) (fun _ _ e => e)) _ 1 (stC s) rfl (by exact Src.lit Tryz.underlying38 _ 1 1 _ #[.int .i64 s.lv, .int .i64 s.fr, .int .i64 s.le, .int .i64 s.du] (Blk.new wr _ _) rfl (stC_oneF s)) (by simp only [maxLen]; omega) (by omega) ?_)
             intro v1 r1 w2 ho1 ht1 hr1
             obtain ⟨A1, c1, rfl, -, -⟩ := ho1.form
             have ta : Touch (fun _ => False) wr (wr.alloc (.cells #[.int .i64 s.lv, .int .i64 s.fr, .int .i64 s.le, .int .i64 s.du] 47)) := (Touch.refl _ wr).alloc _
             have hz2 : wr.heap.size + 1 ≤ w2.heap.size := by have := ht1.size; simpa using this
             have HT2 := Lib.hid ((HP.out.t.trans ta (fun _ _ e => e.elim)).trans ht1 (fun q hq e => by have := HP.out.rk q e; omega))
             have HN2 := Lib.hid (ht1.blk (ta.blk HP.out.bn (fun e => e)) (fun e => (HP.out.rk _ e).2 rfl))
             have HB2 := Lib.hid (ht1.blk (ta.blk HP.out.b0 (fun e => e)) (fun e => by have := HP.out.rk _ e; omega))
             have HC2 := Lib.hid (ht1.blk (ta.blk HP.out.b1 (fun e => e)) (fun e => by have := HP.out.rk _ e; omega))
             have HO2 := Lib.hid ho1
             have HR2 := Lib.hid hr1
             have HT12 := Lib.hid ht1
             clear q0 q1 q2 q3 fq0 fq1 fq2 fq3 ho1 ht1 hr1
             have q0 := HN2.out.cell 0; have q1 := HN2.out.cell 1; have q2 := HN2.out.cell 2; have q3 := HN2.out.cell 3; simp at q0 q1 q2 q3
             have y0 := HB2.out.cell 0; have y1 := HB2.out.cell 1; have y2 := HB2.out.cell 2; simp at y0 y1 y2
             have z0 := HC2.out.cell 0; have z1 := HC2.out.cell 1; have z2 := HC2.out.cell 2; have z3 := HC2.out.cell 3; simp at z0 z1 z2 z3)
          | (go_at_call 46
             go_must (refine (HNx.out _ (by exact HR.out.touch HT2.out (fun _ _ e => e)) (by exact HL.out.touch HT2.out (fun _ _ e => e))).mono ?_)
             rintro e3 w3 ⟨rfl, t3⟩
             have hz3 : w2.heap.size ≤ w3.heap.size := t3.size
             have HN3 := Lib.hid (t3.blk HN2.out (fun e => e))
             have HB3 := Lib.hid (t3.blk HB2.out (fun e => e))
             have HC3 := Lib.hid (t3.blk HC2.out (fun e => e))
             have HT23 := Lib.hid t3
             clear q0 q1 q2 q3 y0 y1 y2 z0 z1 z2 z3 t3
             have q0 := HN3.out.cell 0; have q1 := HN3.out.cell 1; have q2 := HN3.out.cell 2; have q3 := HN3.out.cell 3; simp at q0 q1 q2 q3
             have fq0 := HN3.out.frozen 0; have fq1 := HN3.out.frozen 1; have fq2 := HN3.out.frozen 2; have fq3 := HN3.out.frozen 3))
        have HS6 := Lib.hid (HP.out.step ((Touch.refl (fun _ => False) wr).alloc (.cells #[.int .i64 s.lv, .int .i64 s.fr, .int .i64 s.le, .int .i64 s.du] 47)) (by simp) HO2.out HT12.out HR2.out HT23.out (((((Touch.refl (fun q => q = N) w3).set (b := N) (o := 0) (fun _ => rfl) (.int .i64 nS.lv)).set (b := N) (o := 1) (fun _ => rfl) (.int .i64 nS.fr)).set (b := N) (o := 2) (fun _ => rfl) (.int .i64 nS.le)).set (b := N) (o := 3) (fun _ => rfl) (.int .i64 nS.du)) (((((HN3.out).set_ 0 (.int .i64 nS.lv)).set_ 1 (.int .i64 nS.fr)).set_ 2 (.int .i64 nS.le)).set_ 3 (.int .i64 nS.du)))
        clear HO2 HR2 HT12 HT23 HN3 HB3 HC3 HN2 HB2 HC2 q0 q1 q2 q3 fq0 fq1 fq2 fq3
        go_roundw
        case rel => exact ⟨true, 0, L ++ [s], nS, r1, rfl, rfl, .inl ⟨rfl, hp1⟩, by simp; omega, ⟨A1, c1, by simp⟩, by simpa using HS6.out⟩
        case measure => simp; omega
      · have hneb : (ne != 0) = true := by simpa using hne
        have hp3 : nm = false := by simpa [hne] using hp2
        clear hp2
        subst hp3
        have hpe : planV c t now = ([], ne) := by
          rcases hp1 with h | h
          · exact h.2
          · exact absurd h.1 hne
        have HNx := Lib.hid (fun w1 (hr : CaR w1 F c B D) (hl : SpR w1 F2 A t.lv.length t.lv) => PF.fnext_any F B D m l c F2 A n t s s.du w1 hr hc hl (by omega))
        unfold ElN at HNx
        rw [hnx] at HNx
        have hbn := HP.out.bn
        have q0 := hbn.cell 0; have q1 := hbn.cell 1; have q2 := hbn.cell 2; have q3 := hbn.cell 3; simp at q0 q1 q2 q3
        have fq0 := hbn.frozen 0; have fq1 := hbn.frozen 1; have fq2 := hbn.frozen 2; have fq3 := hbn.frozen 3
        have hNl := hbn.lt
        have hNw : ¬ N = wr.heap.size := by omega
        clear hbn
        go_wp2_with (first
          | (at_builtin
             go_must (refine wpList_own_append rfl _ _ 38 38 rfl 47 i0 (.agg #[.int .i64 0, .int .i64 0, .int .i64 0, .int .i64 0]) 4 32 Tryz.underlying38 hi hz0 hz1 hz2 rfl _ r L.length (L.flatMap stC) rfl (by exact HP.out.own.touch ((Touch.refl (fun _ => False) wr).alloc _) (fun _ _ e => e)) _ 1 (stC s) rfl (by exact Src.lit Tryz.underlying38 _ 1 1 _ #[.int .i64 s.lv, .int .i64 s.fr, .int .i64 s.le, .int .i64 s.du] (Blk.new wr _ _) rfl (stC_oneF s)) (by simp only [maxLen]; omega) (by omega) ?_)
             intro v1 r1 w2 ho1 ht1 hr1
             obtain ⟨A1, c1, rfl, -, -⟩ := ho1.form
             have ta : Touch (fun _ => False) wr (wr.alloc (.cells #[.int .i64 s.lv, .int .i64 s.fr, .int .i64 s.le, .int .i64 s.du] 47)) := (Touch.refl _ wr).alloc _
             have hz2 : wr.heap.size + 1 ≤ w2.heap.size := by have := ht1.size; simpa using this
             have HT2 := Lib.hid ((HP.out.t.trans ta (fun _ _ e => e.elim)).trans ht1 (fun q hq e => by have := HP.out.rk q e; omega))
             have HN2 := Lib.hid (ht1.blk (ta.blk HP.out.bn (fun e => e)) (fun e => (HP.out.rk _ e).2 rfl))
             have HB2 := Lib.hid (ht1.blk (ta.blk HP.out.b0 (fun e => e)) (fun e => by have := HP.out.rk _ e; omega))
             have HC2 := Lib.hid (ht1.blk (ta.blk HP.out.b1 (fun e => e)) (fun e => by have := HP.out.rk _ e; omega))
             have HO2 := Lib.hid ho1
             have HR2 := Lib.hid hr1
             have HT12 := Lib.hid ht1
             clear q0 q1 q2 q3 fq0 fq1 fq2 fq3 ho1 ht1 hr1
             have q0 := HN2.out.cell 0; have q1 := HN2.out.cell 1; have q2 := HN2.out.cell 2; have q3 := HN2.out.cell 3; simp at q0 q1 q2 q3
             have y0 := HB2.out.cell 0; have y1 := HB2.out.cell 1; have y2 := HB2.out.cell 2; simp at y0 y1 y2
             have z0 := HC2.out.cell 0; have z1 := HC2.out.cell 1; have z2 := HC2.out.cell 2; have z3 := HC2.out.cell 3; simp at z0 z1 z2 z3)
          | (go_at_call 46
             go_must (refine (HNx.out _ (by exact HR.out.touch HT2.out (fun _ _ e => e)) (by exact HL.out.touch HT2.out (fun _ _ e => e))).mono ?_)
             rintro e3 w3 ⟨rfl, t3⟩
             have hz3 : w2.heap.size ≤ w3.heap.size := t3.size
             have HN3 := Lib.hid (t3.blk HN2.out (fun e => e))
             have HB3 := Lib.hid (t3.blk HB2.out (fun e => e))
             have HC3 := Lib.hid (t3.blk HC2.out (fun e => e))
             have HT23 := Lib.hid t3
             clear q0 q1 q2 q3 y0 y1 y2 z0 z1 z2 z3 t3
             have q0 := HN3.out.cell 0; have q1 := HN3.out.cell 1; have q2 := HN3.out.cell 2; have q3 := HN3.out.cell 3; simp at q0 q1 q2 q3
             have fq0 := HN3.out.frozen 0; have fq1 := HN3.out.frozen 1; have fq2 := HN3.out.frozen 2; have fq3 := HN3.out.frozen 3))
        have HS6 := Lib.hid (HP.out.step ((Touch.refl (fun _ => False) wr).alloc (.cells #[.int .i64 s.lv, .int .i64 s.fr, .int .i64 s.le, .int .i64 s.du] 47)) (by simp) HO2.out HT12.out HR2.out HT23.out (((((Touch.refl (fun q => q = N) w3).set (b := N) (o := 0) (fun _ => rfl) (.int .i64 nS.lv)).set (b := N) (o := 1) (fun _ => rfl) (.int .i64 nS.fr)).set (b := N) (o := 2) (fun _ => rfl) (.int .i64 nS.le)).set (b := N) (o := 3) (fun _ => rfl) (.int .i64 nS.du)) (((((HN3.out).set_ 0 (.int .i64 nS.lv)).set_ 1 (.int .i64 nS.fr)).set_ 2 (.int .i64 nS.le)).set_ 3 (.int .i64 nS.du)))
        clear HO2 HR2 HT12 HT23 HN3 HB3 HC3 HN2 HB2 HC2 q0 q1 q2 q3 fq0 fq1 fq2 fq3
        go_ret2
        rw [hpe]
        exact ⟨none, 0, rfl, ⟨by simp, fun h => absurd h (by simp)⟩, HS6.out.t⟩
end Go.Proofs.YtcblbjhhlnmkjaaGreat
