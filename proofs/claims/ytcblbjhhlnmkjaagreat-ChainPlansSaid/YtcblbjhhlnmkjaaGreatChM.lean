/- Package chain: Plan by a clock, walked. (written by genchm.py) -/
import Derived.Test.YtcblbjhhlnmkjaaGreatChL
namespace Go.Proofs.YtcblbjhhlnmkjaaGreat
open Go.RowKit Cal
set_option maxHeartbeats 4000000
set_option maxRecDepth 100000
set_option linter.unusedVariables false

theorem infoSt : (Tryz.prog.info? 46).map (fun i => (i.zero, i.size, i.bytes)) = some (some (.agg #[.int .i64 0, .int .i64 0, .int .i64 0, .int .i64 0]), 4, 32) := by kernel_rfl
theorem stC_one (s : St) : ∀ u ∈ stC s, u.oneCell' = true := by
  intro u hu; simp [stC] at hu; rcases hu with rfl | rfl | rfl | rfl <;> rfl
structure PlSt (w wr : World) (k a p b : Nat) (c : Ca) (G : Nat → Prop) (N : Nat) (r : Option Nat) (v : Value) (L : List St) (c0 sc : Array Value) : Prop where
  ck : ∃ Gn, CkAt wr k a p b c Gn ∧ ¬ Gn N ∧ (∀ q, r = some q → ¬ Gn q) ∧ ∀ q, Gn q → (G q ∧ q < w.heap.size) ∨ (w.heap.size ≤ q ∧ q < wr.heap.size)
  own : Own wr 46 4 v r L.length (L.flatMap stC)
  rk : ∀ q, r = some q → w.heap.size + 1 ≤ q ∧ q ≠ N
  t : Touch (fun q => q = b) w wr
  b0 : Blk wr w.heap.size 27 c0
  bn : Blk wr N 46 sc
  lo : w.heap.size + 1 ≤ N
def CkP (k a p b : Nat) (c : Ca) (G : Nat → Prop) (r : List St × Int) (w : World) (e : Ending) (w' : World) : Prop :=
  ∃ A n, e = .returned (.tuple #[.slice A r.1.length n, .int .i64 r.2]) ∧ RdZ w' (fun q => w.heap.size ≤ q) 4 A r.1.length (r.1.flatMap stC) ∧ CkAt w' k a p b c (More G w w') ∧ Touch (fun q => q = b) w w'
theorem PlSt.out {w wr : World} {k a p b : Nat} {c : Ca} {G : Nat → Prop} {N : Nat} {r : Option Nat} {v : Value} {L : List St} {c0 sc : Array Value} (h : PlSt w wr k a p b c G N r v L c0 sc) (hh : CkAt w k a p b c G) : CkAt wr k a p b c (More G w wr) ∧ Touch (fun q => q = b) w wr := by
  obtain ⟨Gn, ck, h1, h2, h3⟩ := h.ck
  refine ⟨ck.grow (fun q hq => ?_) (fun e => ?_), h.t⟩
  · rcases h3 q hq with e | e
    · exact .inl e.1
    · exact .inr e
  · rcases e with e | e
    · exact hh.nb e
    · have := hh.bl; omega

theorem Own.rdZ {w : World} {T : TypeId} {v : Value} {r : Option Nat} {n sz : Nat} {xs : List Value} (h : Own w T sz v r n xs) : ∃ A c, v = .slice A n c ∧ RdZ w (fun k => r = some k) sz A n xs := by
  rcases h.2 with ⟨hv, hn, _⟩ | ⟨g, cap, cur, hr, hv, hb, hn, hc, hs, ht⟩
  · exact ⟨none, 0, by rw [hv, hn], h.1, fun h0 => by omega⟩
  · refine ⟨_, cap, hv, h.1, fun hpos => ⟨g, 0, rfl, hb.lt, hr, fun j u hj => ?_⟩⟩
    rw [Nat.zero_add, hb.cell]
    rw [← ht, List.getElem?_take] at hj
    split at hj
    · simpa using hj
    · cases hj
theorem PlSt.step {w wr w1 w2 w3 W6 : World} {k a p b : Nat} {c : Ca} {G Gn : Nat → Prop} {N : Nat} {r r1 : Option Nat} {v v1 : Value} {L : List St} {s : St} {c0 sc sc' : Array Value} (h : PlSt w wr k a p b c G N r v L c0 sc) (hb : b < w.heap.size) (gN : ¬ Gn N) (gr : ∀ q, r = some q → ¬ Gn q) (gG : ∀ q, Gn q → (G q ∧ q < w.heap.size) ∨ (w.heap.size ≤ q ∧ q < wr.heap.size))
    (ta : Touch (fun _ => False) wr w1) (h1 : wr.heap.size < w1.heap.size) (ho : Own w2 46 4 v1 r1 (L.length + 1) (L.flatMap stC ++ stC s)) (ht1 : Touch (fun q => r = some q) w1 w2) (hr1 : r1 = r ∨ ∃ q, r1 = some q ∧ w1.heap.size ≤ q)
    (ck3 : CkAt w3 k a p b c (More (fun q => Gn q ∧ q < wr.heap.size) w2 w3)) (t3 : Touch (fun q => q = b) w2 w3) (tn : Touch (fun q => q = N) w3 W6) (hbn : Blk W6 N 46 sc') : PlSt w W6 k a p b c G N r1 v1 (L ++ [s]) c0 sc' := by
  have hN := h.bn.lt
  have s1 := ht1.size
  have s3 := t3.size
  have s6 := tn.size
  have s0 := h.t.size
  have lo := h.lo
  have hrk : ∀ q, r1 = some q → w.heap.size + 1 ≤ q ∧ q ≠ N ∧ q < w2.heap.size ∧ (r = some q ∨ w1.heap.size ≤ q) := by
    intro q e
    have hl := ho.lt q e
    rcases hr1 with e' | ⟨q', e', hq⟩
    · have e2 : r = some q := by rw [← e']; exact e
      have := h.rk q e2
      exact ⟨this.1, this.2, hl, .inl e2⟩
    · rw [e'] at e; injection e with e; subst e
      exact ⟨by omega, by omega, hl, .inr hq⟩
  refine ⟨⟨_, ck3.touch tn (by omega) (fun q hq e => ?_), fun e => ?_, fun q e hq => ?_, fun q hq => ?_⟩, ?_, fun q e => ⟨(hrk q e).1, (hrk q e).2.1⟩, ?_, ?_, hbn, lo⟩
  · subst e; rcases hq with e | e
    · exact gN e.1
    · omega
  · rcases e with e | e
    · exact gN e.1
    · omega
  · have h4 := hrk q e
    rcases hq with hq | hq
    · rcases h4.2.2.2 with h5 | h5
      · exact gr q h5 hq.1
      · have := hq.2; omega
    · omega
  · rcases hq with hq | hq
    · rcases gG q hq.1 with e | e
      · exact .inl e
      · exact .inr (by omega)
    · exact .inr (by omega)
  · have ho2 := (ho.touch t3 (fun q e hq => by have := (hrk q e).1; omega)).touch tn (fun q e hq => (hrk q e).2.1 hq)
    simpa using ho2
  · exact (((h.t.trans ta (fun _ _ e => e.elim)).trans ht1 (fun q hq e => by have := h.rk q e; omega)).trans t3 (fun _ _ e => e)).trans tn (fun q hq e => by omega)
  · exact tn.blk (t3.blk (ht1.blk (ta.blk h.b0 (fun e => e)) (fun e => by have := h.rk _ e; omega)) (by omega)) (by omega)
theorem kplan_any (k a p b : Nat) (c : Ca) (G : Nat → Prop) (F : Nat → Prop) (A : Option Addr) (n : Nat) (t : Co) (now : Int) (w : World) (h : CkAt w k a p b c G) (hl : SpR w F A t.lv.length t.lv) (hF : ∀ q, F q → q < w.heap.size ∧ q ≠ b) (hlen : t.lv.length ≤ 1000) :
    Calls Tryz.prog 10 #[.pointer (some ⟨k, 0, none⟩), .agg #[.int .i64 t.cal, .slice A t.lv.length n, .int .i64 t.rt, .int .i64 t.bk], .int .i64 now] w (CkP k a p b c G (planV c t now) w) := by
  obtain ⟨i0, hi, hz0, hz1, hz2⟩ := info_parts infoSt
  have ht0 : Touch (fun _ => False) w (w.alloc (.cells #[.int .i64 t.cal, .slice A t.lv.length n, .int .i64 t.rt, .int .i64 t.bk] 27)) := (Touch.refl _ w).alloc _
  have HT0 := Lib.hid ht0
  have HB0 := Lib.hid (Blk.new w 27 #[.int .i64 t.cal, .slice A t.lv.length n, .int .i64 t.rt, .int .i64 t.bk])
  have HH := Lib.hid h
  have hbl := h.bl
  have HL := Lib.hid hl
  have HF1 := Lib.hid (fun w1 (hk : CkAt w1 k a p b c (fun q => G q ∧ q < w.heap.size)) (hl : SpR w1 F A t.lv.length t.lv) => kfirst_any k a p b c (fun q => G q ∧ q < w.heap.size) F A n t now w1 hk hl)
  have HPA := Lib.hid (PlanAt.start c t now)
  generalize firstV c t now = r1 at *
  clear h hl ht0
  go_enter Tryz.func10, Tryz.ntmps10
  go_wp2
  go_step3
  go_wp2_with (go_at_call 38; go_must (refine (HF1.out _ (by exact HH.out.shrink.none HT0.out) (by exact HL.out.touch HT0.out (fun _ _ e => e))).mono ?_); rintro e w1 ⟨rfl, ck1, t1⟩; have HC1 := Lib.hid ck1; have HT1 := Lib.hid t1; clear ck1 t1)
  go_step3
  go_wp2_with fail
  have hzz : w.heap.size + 1 ≤ w1.heap.size := by have := HT1.out.size; simpa using this
  obtain ⟨W5, hW5⟩ : ∃ W5, W5 = w1.alloc (.cells #[.int .i64 r1.1.lv, .int .i64 r1.1.fr, .int .i64 r1.1.le, .int .i64 r1.1.du] 46) := ⟨_, rfl⟩
  have HS0 := Lib.hid (show PlSt w W5 k a p b c G w1.heap.size none (.slice none 0 0) [] #[.int .i64 t.cal, .slice A t.lv.length n, .int .i64 t.rt, .int .i64 t.bk] #[.int .i64 r1.1.lv, .int .i64 r1.1.fr, .int .i64 r1.1.le, .int .i64 r1.1.du] from hW5 ▸ by
    have ta := (Touch.refl (fun _ => False) w1).alloc (.cells #[.int .i64 r1.1.lv, .int .i64 r1.1.fr, .int .i64 r1.1.le, .int .i64 r1.1.du] 46)
    refine ⟨⟨_, HC1.out.none ta, fun e => ?_, fun q e => (by cases e), fun q hq => ?_⟩, Own.nil _ _ _, fun q e => (by cases e), ((HT0.out.mono (S' := fun q => q = b) (fun _ _ e => e.elim)).trans HT1.out (fun _ _ e => e)).trans ta (fun _ _ e => e.elim), ta.blk (HT1.out.blk HB0.out (by omega)) (fun e => e), Blk.new _ _ _, by omega⟩
    · rcases e with e | e <;> omega
    · rcases hq with hq | hq
      · exact .inl hq
      · exact .inr (by simp at hq ⊢; omega))
  rw [← hW5]
  generalize w1.heap.size = N at *
  clear hW5 HC1 HT1 HF1 HB0
  go_loopw [9, 10] (fun ve vl wr => ∃ (e : Int) (L : List St) (s : St) (r : Option Nat), ve = .int .i64 e ∧ PlanAt c t now L s e ∧ L.length ≤ t.lv.length ∧ (∃ B m, vl = .slice B L.length m) ∧ PlSt w wr k a p b c G N r vl L #[.int .i64 t.cal, .slice A t.lv.length n, .int .i64 t.rt, .int .i64 t.bk] #[.int .i64 s.lv, .int .i64 s.fr, .int .i64 s.le, .int .i64 s.du]) (fun ve vl _ => t.lv.length + 2 - (match vl with | .slice _ m _ => m | _ => 0))
  case atStart => exact ⟨r1.2, [], r1.1, none, rfl, HPA.out, by simp, ⟨none, 0, rfl⟩, HS0.out⟩
  case round =>
    obtain ⟨e, L, s, r, rfl, hpa, hLl, ⟨Bv, mv, rfl⟩, hp⟩ := hrel
    have HP := Lib.hid hp
    have HPA := Lib.hid hpa
    clear hp hpa HS0
    by_cases he : e = 0
    rotate_left
    · have hne : (e != 0) = true := by simpa using he
      have hv : planV c t now = ([], e) := by
        rcases HPA.out with h | h
        · exact h.2
        · exact absurd h.1 he
      go_wp2
      rw [Exit.noGoto_ret]
      go_ret2
      rw [hv]
      obtain ⟨h1, h2⟩ := HP.out.out HH.out
      exact ⟨none, 0, rfl, ⟨by simp, fun h => absurd h (by simp)⟩, h1, h2⟩
    subst he
    by_cases hla : L.length + 1 = t.lv.length
    · obtain ⟨hpv, hnx⟩ := HPA.out.last hla
      have HNx := Lib.hid (fun G w1 (hk : CkAt w1 k a p b c G) (hl : SpR w1 F A t.lv.length t.lv) (hz : w.heap.size ≤ w1.heap.size) => knext_any k a p b c G F A n t s s.du w1 hk hl (fun q hq => ⟨by have := (hF q hq).1; omega, (hF q hq).2⟩) (by omega))
      unfold CkN at HNx
      rw [hnx] at HNx
      obtain ⟨Gn, ck0, gN, gr, gG⟩ := HP.out.ck
      have HCK := Lib.hid ck0
      have HGN := Lib.hid (And.intro gN (And.intro gr gG))
      have hbn := HP.out.bn
      have hb0 := HP.out.b0
      have q0 := hbn.cell 0; have q1 := hbn.cell 1; have q2 := hbn.cell 2; have q3 := hbn.cell 3; simp at q0 q1 q2 q3
      have fq0 := hbn.frozen 0; have fq1 := hbn.frozen 1; have fq2 := hbn.frozen 2; have fq3 := hbn.frozen 3
      have hNl := hbn.lt
      have hNw : ¬ N = wr.heap.size := by omega
      have HBA := Lib.hid (Blk.new wr 46 #[.int .i64 s.lv, .int .i64 s.fr, .int .i64 s.le, .int .i64 s.du])
      clear ck0 gN gr gG hbn hb0
      go_wp2_with (first
        | (at_builtin
           go_must (refine wpList_own_append rfl _ _ 35 35 rfl 46 i0 (.agg #[.int .i64 0, .int .i64 0, .int .i64 0, .int .i64 0]) 4 32 Tryz.underlying35 hi hz0 hz1 hz2 rfl _ r L.length (L.flatMap stC) rfl (by exact HP.out.own.touch ((Touch.refl (fun _ => False) wr).alloc _) (fun _ _ e => e)) _ 1 (stC s) rfl (by exact Src.lit Tryz.underlying35 _ 1 1 _ #[.int .i64 s.lv, .int .i64 s.fr, .int .i64 s.le, .int .i64 s.du] (Blk.new wr _ _) rfl (stC_one s)) (by simp only [maxLen]; omega) (by omega) ?_)
           intro v1 r1 w2 ho1 ht1 hr1
           obtain ⟨A1, c1, rfl, -, -⟩ := ho1.form
           have ta : Touch (fun _ => False) wr (wr.alloc (.cells #[.int .i64 s.lv, .int .i64 s.fr, .int .i64 s.le, .int .i64 s.du] 46)) := (Touch.refl _ wr).alloc _
           have hz2 : wr.heap.size + 1 ≤ w2.heap.size := by have := ht1.size; simpa using this
           have HK2 := Lib.hid ((HCK.out.shrink.none ta).touch ht1 (fun e => by have := HP.out.rk _ e; omega) (fun q hq e => HGN.out.2.1 q e hq.1))
           have HT2 := Lib.hid ((HP.out.t.trans ta (fun _ _ e => e.elim)).trans ht1 (fun q hq e => by have := HP.out.rk q e; omega))
           have HN2 := Lib.hid (ht1.blk (ta.blk HP.out.bn (fun e => e)) (fun e => (HP.out.rk _ e).2 rfl))
           have HB2 := Lib.hid (ht1.blk (ta.blk HP.out.b0 (fun e => e)) (fun e => by have := HP.out.rk _ e; omega))
           have HO2 := Lib.hid ho1
           have HR2 := Lib.hid hr1
           have HT12 := Lib.hid ht1
           clear q0 q1 q2 q3 fq0 fq1 fq2 fq3 ho1 ht1 hr1
           have q0 := HN2.out.cell 0; have q1 := HN2.out.cell 1; have q2 := HN2.out.cell 2; have q3 := HN2.out.cell 3; simp at q0 q1 q2 q3
           have y0 := HB2.out.cell 0; have y1 := HB2.out.cell 1; have y2 := HB2.out.cell 2; have y3 := HB2.out.cell 3; simp at y0 y1 y2 y3)
        | (go_at_call 44
           go_must (refine (HNx.out _ _ (by exact HK2.out) (by exact HL.out.touch HT2.out (fun q hq e => (hF q hq).2 e)) (by exact HT2.out.size)).mono ?_)
           rintro e3 w3 ⟨rfl, ck3, t3⟩
           have hz3 : w2.heap.size ≤ w3.heap.size := t3.size
           have HK3 := Lib.hid ck3
           have HT3 := Lib.hid (HT2.out.trans t3 (fun _ _ e => e))
           have HN3 := Lib.hid (t3.blk HN2.out (by have := HP.out.lo; omega))
           have HB3 := Lib.hid (t3.blk HB2.out (by omega))
           have HT23 := Lib.hid t3
           clear q0 q1 q2 q3 y0 y1 y2 y3 ck3 t3
           have q0 := HN3.out.cell 0; have q1 := HN3.out.cell 1; have q2 := HN3.out.cell 2; have q3 := HN3.out.cell 3; simp at q0 q1 q2 q3
           have fq0 := HN3.out.frozen 0; have fq1 := HN3.out.frozen 1; have fq2 := HN3.out.frozen 2; have fq3 := HN3.out.frozen 3))
      have HS6 := Lib.hid (HP.out.step hbl HGN.out.1 HGN.out.2.1 HGN.out.2.2 ((Touch.refl (fun _ => False) wr).alloc (.cells #[.int .i64 s.lv, .int .i64 s.fr, .int .i64 s.le, .int .i64 s.du] 46)) (by simp) HO2.out HT12.out HR2.out HK3.out HT23.out (((((Touch.refl (fun q => q = N) w3).set (b := N) (o := 0) (fun _ => rfl) (.int .i64 St.z.lv)).set (b := N) (o := 1) (fun _ => rfl) (.int .i64 St.z.fr)).set (b := N) (o := 2) (fun _ => rfl) (.int .i64 St.z.le)).set (b := N) (o := 3) (fun _ => rfl) (.int .i64 St.z.du)) (((((HN3.out).set_ 0 (.int .i64 St.z.lv)).set_ 1 (.int .i64 St.z.fr)).set_ 2 (.int .i64 St.z.le)).set_ 3 (.int .i64 St.z.du)))
      clear HO2 HR2 HT12 HK3 HT23 HN3 HB3 HK2 HN2 HB2 HCK HGN HBA q0 q1 q2 q3 fq0 fq1 fq2 fq3
      rw [Exit.noGoto_ret]
      go_ret2
      rw [hpv]
      obtain ⟨h1, h2⟩ := HS6.out.out HH.out
      obtain ⟨A2, c2, hv, hrd⟩ := HS6.out.own.rdZ
      have hln : (L ++ [s]).length = t.lv.length := by simp; omega
      rw [hln] at hv hrd
      injection hv with e1 e2 e3
      subst e1 e3
      refine ⟨A1, c1, (by rw [hln]; rfl), ?_, h1, h2⟩
      rw [hln]
      exact ⟨hrd.1, fun hp => by obtain ⟨g, off, x1, x2, x3, x4⟩ := hrd.2 hp; exact ⟨g, off, x1, x2, by have := HS6.out.rk g x3; omega, x4⟩⟩
    · have hlt : L.length < t.lv.length := by
        rcases HPA.out with h | h
        · exact absurd rfl h.1
        · exact h.2.2.1
      obtain ⟨hp1, hp2⟩ := HPA.out.next (by omega)
      generalize hnx : nextV c t s s.du = nvr at hp1 hp2
      obtain ⟨⟨nS, nm⟩, ne⟩ := nvr
      simp only at hp1 hp2
      by_cases hne : ne = 0
      · subst hne
        have hp3 : nm = true := by simpa using hp2
        clear hp2
        subst hp3
        have HNx := Lib.hid (fun G w1 (hk : CkAt w1 k a p b c G) (hl : SpR w1 F A t.lv.length t.lv) (hz : w.heap.size ≤ w1.heap.size) => knext_any k a p b c G F A n t s s.du w1 hk hl (fun q hq => ⟨by have := (hF q hq).1; omega, (hF q hq).2⟩) (by omega))
        unfold CkN at HNx
        rw [hnx] at HNx
        obtain ⟨Gn, ck0, gN, gr, gG⟩ := HP.out.ck
        have HCK := Lib.hid ck0
        have HGN := Lib.hid (And.intro gN (And.intro gr gG))
        have hbn := HP.out.bn
        have hb0 := HP.out.b0
        have q0 := hbn.cell 0; have q1 := hbn.cell 1; have q2 := hbn.cell 2; have q3 := hbn.cell 3; simp at q0 q1 q2 q3
        have fq0 := hbn.frozen 0; have fq1 := hbn.frozen 1; have fq2 := hbn.frozen 2; have fq3 := hbn.frozen 3
        have hNl := hbn.lt
        have hNw : ¬ N = wr.heap.size := by omega
        have HBA := Lib.hid (Blk.new wr 46 #[.int .i64 s.lv, .int .i64 s.fr, .int .i64 s.le, .int .i64 s.du])
        clear ck0 gN gr gG hbn hb0
        go_wp2_with (first
          | (at_builtin
             go_must (refine wpList_own_append rfl _ _ 35 35 rfl 46 i0 (.agg #[.int .i64 0, .int .i64 0, .int .i64 0, .int .i64 0]) 4 32 Tryz.underlying35 hi hz0 hz1 hz2 rfl _ r L.length (L.flatMap stC) rfl (by exact HP.out.own.touch ((Touch.refl (fun _ => False) wr).alloc _) (fun _ _ e => e)) _ 1 (stC s) rfl (by exact Src.lit Tryz.underlying35 _ 1 1 _ #[.int .i64 s.lv, .int .i64 s.fr, .int .i64 s.le, .int .i64 s.du] (Blk.new wr _ _) rfl (stC_one s)) (by simp only [maxLen]; omega) (by omega) ?_)
             intro v1 r1 w2 ho1 ht1 hr1
             obtain ⟨A1, c1, rfl, -, -⟩ := ho1.form
             have ta : Touch (fun _ => False) wr (wr.alloc (.cells #[.int .i64 s.lv, .int .i64 s.fr, .int .i64 s.le, .int .i64 s.du] 46)) := (Touch.refl _ wr).alloc _
             have hz2 : wr.heap.size + 1 ≤ w2.heap.size := by have := ht1.size; simpa using this
             have HK2 := Lib.hid ((HCK.out.shrink.none ta).touch ht1 (fun e => by have := HP.out.rk _ e; omega) (fun q hq e => HGN.out.2.1 q e hq.1))
             have HT2 := Lib.hid ((HP.out.t.trans ta (fun _ _ e => e.elim)).trans ht1 (fun q hq e => by have := HP.out.rk q e; omega))
             have HN2 := Lib.hid (ht1.blk (ta.blk HP.out.bn (fun e => e)) (fun e => (HP.out.rk _ e).2 rfl))
             have HB2 := Lib.hid (ht1.blk (ta.blk HP.out.b0 (fun e => e)) (fun e => by have := HP.out.rk _ e; omega))
             have HO2 := Lib.hid ho1
             have HR2 := Lib.hid hr1
             have HT12 := Lib.hid ht1
             clear q0 q1 q2 q3 fq0 fq1 fq2 fq3 ho1 ht1 hr1
             have q0 := HN2.out.cell 0; have q1 := HN2.out.cell 1; have q2 := HN2.out.cell 2; have q3 := HN2.out.cell 3; simp at q0 q1 q2 q3
             have y0 := HB2.out.cell 0; have y1 := HB2.out.cell 1; have y2 := HB2.out.cell 2; have y3 := HB2.out.cell 3; simp at y0 y1 y2 y3)
          | (go_at_call 44
             go_must (refine (HNx.out _ _ (by exact HK2.out) (by exact HL.out.touch HT2.out (fun q hq e => (hF q hq).2 e)) (by exact HT2.out.size)).mono ?_)
             rintro e3 w3 ⟨rfl, ck3, t3⟩
             have hz3 : w2.heap.size ≤ w3.heap.size := t3.size
             have HK3 := Lib.hid ck3
             have HT3 := Lib.hid (HT2.out.trans t3 (fun _ _ e => e))
             have HN3 := Lib.hid (t3.blk HN2.out (by have := HP.out.lo; omega))
             have HB3 := Lib.hid (t3.blk HB2.out (by omega))
             have HT23 := Lib.hid t3
             clear q0 q1 q2 q3 y0 y1 y2 y3 ck3 t3
             have q0 := HN3.out.cell 0; have q1 := HN3.out.cell 1; have q2 := HN3.out.cell 2; have q3 := HN3.out.cell 3; simp at q0 q1 q2 q3
             have fq0 := HN3.out.frozen 0; have fq1 := HN3.out.frozen 1; have fq2 := HN3.out.frozen 2; have fq3 := HN3.out.frozen 3))
        have HS6 := Lib.hid (HP.out.step hbl HGN.out.1 HGN.out.2.1 HGN.out.2.2 ((Touch.refl (fun _ => False) wr).alloc (.cells #[.int .i64 s.lv, .int .i64 s.fr, .int .i64 s.le, .int .i64 s.du] 46)) (by simp) HO2.out HT12.out HR2.out HK3.out HT23.out (((((Touch.refl (fun q => q = N) w3).set (b := N) (o := 0) (fun _ => rfl) (.int .i64 nS.lv)).set (b := N) (o := 1) (fun _ => rfl) (.int .i64 nS.fr)).set (b := N) (o := 2) (fun _ => rfl) (.int .i64 nS.le)).set (b := N) (o := 3) (fun _ => rfl) (.int .i64 nS.du)) (((((HN3.out).set_ 0 (.int .i64 nS.lv)).set_ 1 (.int .i64 nS.fr)).set_ 2 (.int .i64 nS.le)).set_ 3 (.int .i64 nS.du)))
        clear HO2 HR2 HT12 HK3 HT23 HN3 HB3 HK2 HN2 HB2 HCK HGN HBA q0 q1 q2 q3 fq0 fq1 fq2 fq3
        go_roundw
        case rel => exact ⟨0, L ++ [s], nS, r1, rfl, hp1, by simp; omega, ⟨A1, c1, by simp⟩, by simpa using HS6.out⟩
        case measure => simp; omega
      · have hneb : (ne == 0) = false := by simpa using hne
        have hp3 : nm = false := by simpa [hne] using hp2
        clear hp2
        subst hp3
        have HNx := Lib.hid (fun G w1 (hk : CkAt w1 k a p b c G) (hl : SpR w1 F A t.lv.length t.lv) (hz : w.heap.size ≤ w1.heap.size) => knext_any k a p b c G F A n t s s.du w1 hk hl (fun q hq => ⟨by have := (hF q hq).1; omega, (hF q hq).2⟩) (by omega))
        unfold CkN at HNx
        rw [hnx] at HNx
        obtain ⟨Gn, ck0, gN, gr, gG⟩ := HP.out.ck
        have HCK := Lib.hid ck0
        have HGN := Lib.hid (And.intro gN (And.intro gr gG))
        have hbn := HP.out.bn
        have hb0 := HP.out.b0
        have q0 := hbn.cell 0; have q1 := hbn.cell 1; have q2 := hbn.cell 2; have q3 := hbn.cell 3; simp at q0 q1 q2 q3
        have fq0 := hbn.frozen 0; have fq1 := hbn.frozen 1; have fq2 := hbn.frozen 2; have fq3 := hbn.frozen 3
        have hNl := hbn.lt
        have hNw : ¬ N = wr.heap.size := by omega
        have HBA := Lib.hid (Blk.new wr 46 #[.int .i64 s.lv, .int .i64 s.fr, .int .i64 s.le, .int .i64 s.du])
        clear ck0 gN gr gG hbn hb0
        go_wp2_with (first
          | (at_builtin
             go_must (refine wpList_own_append rfl _ _ 35 35 rfl 46 i0 (.agg #[.int .i64 0, .int .i64 0, .int .i64 0, .int .i64 0]) 4 32 Tryz.underlying35 hi hz0 hz1 hz2 rfl _ r L.length (L.flatMap stC) rfl (by exact HP.out.own.touch ((Touch.refl (fun _ => False) wr).alloc _) (fun _ _ e => e)) _ 1 (stC s) rfl (by exact Src.lit Tryz.underlying35 _ 1 1 _ #[.int .i64 s.lv, .int .i64 s.fr, .int .i64 s.le, .int .i64 s.du] (Blk.new wr _ _) rfl (stC_one s)) (by simp only [maxLen]; omega) (by omega) ?_)
             intro v1 r1 w2 ho1 ht1 hr1
             obtain ⟨A1, c1, rfl, -, -⟩ := ho1.form
             have ta : Touch (fun _ => False) wr (wr.alloc (.cells #[.int .i64 s.lv, .int .i64 s.fr, .int .i64 s.le, .int .i64 s.du] 46)) := (Touch.refl _ wr).alloc _
             have hz2 : wr.heap.size + 1 ≤ w2.heap.size := by have := ht1.size; simpa using this
             have HK2 := Lib.hid ((HCK.out.shrink.none ta).touch ht1 (fun e => by have := HP.out.rk _ e; omega) (fun q hq e => HGN.out.2.1 q e hq.1))
             have HT2 := Lib.hid ((HP.out.t.trans ta (fun _ _ e => e.elim)).trans ht1 (fun q hq e => by have := HP.out.rk q e; omega))
             have HN2 := Lib.hid (ht1.blk (ta.blk HP.out.bn (fun e => e)) (fun e => (HP.out.rk _ e).2 rfl))
             have HB2 := Lib.hid (ht1.blk (ta.blk HP.out.b0 (fun e => e)) (fun e => by have := HP.out.rk _ e; omega))
             have HO2 := Lib.hid ho1
             have HR2 := Lib.hid hr1
             have HT12 := Lib.hid ht1
             clear q0 q1 q2 q3 fq0 fq1 fq2 fq3 ho1 ht1 hr1
             have q0 := HN2.out.cell 0; have q1 := HN2.out.cell 1; have q2 := HN2.out.cell 2; have q3 := HN2.out.cell 3; simp at q0 q1 q2 q3
             have y0 := HB2.out.cell 0; have y1 := HB2.out.cell 1; have y2 := HB2.out.cell 2; have y3 := HB2.out.cell 3; simp at y0 y1 y2 y3)
          | (go_at_call 44
             go_must (refine (HNx.out _ _ (by exact HK2.out) (by exact HL.out.touch HT2.out (fun q hq e => (hF q hq).2 e)) (by exact HT2.out.size)).mono ?_)
             rintro e3 w3 ⟨rfl, ck3, t3⟩
             have hz3 : w2.heap.size ≤ w3.heap.size := t3.size
             have HK3 := Lib.hid ck3
             have HT3 := Lib.hid (HT2.out.trans t3 (fun _ _ e => e))
             have HN3 := Lib.hid (t3.blk HN2.out (by have := HP.out.lo; omega))
             have HB3 := Lib.hid (t3.blk HB2.out (by omega))
             have HT23 := Lib.hid t3
             clear q0 q1 q2 q3 y0 y1 y2 y3 ck3 t3
             have q0 := HN3.out.cell 0; have q1 := HN3.out.cell 1; have q2 := HN3.out.cell 2; have q3 := HN3.out.cell 3; simp at q0 q1 q2 q3
             have fq0 := HN3.out.frozen 0; have fq1 := HN3.out.frozen 1; have fq2 := HN3.out.frozen 2; have fq3 := HN3.out.frozen 3))
        have HS6 := Lib.hid (HP.out.step hbl HGN.out.1 HGN.out.2.1 HGN.out.2.2 ((Touch.refl (fun _ => False) wr).alloc (.cells #[.int .i64 s.lv, .int .i64 s.fr, .int .i64 s.le, .int .i64 s.du] 46)) (by simp) HO2.out HT12.out HR2.out HK3.out HT23.out (((((Touch.refl (fun q => q = N) w3).set (b := N) (o := 0) (fun _ => rfl) (.int .i64 nS.lv)).set (b := N) (o := 1) (fun _ => rfl) (.int .i64 nS.fr)).set (b := N) (o := 2) (fun _ => rfl) (.int .i64 nS.le)).set (b := N) (o := 3) (fun _ => rfl) (.int .i64 nS.du)) (((((HN3.out).set_ 0 (.int .i64 nS.lv)).set_ 1 (.int .i64 nS.fr)).set_ 2 (.int .i64 nS.le)).set_ 3 (.int .i64 nS.du)))
        clear HO2 HR2 HT12 HK3 HT23 HN3 HB3 HK2 HN2 HB2 HCK HGN HBA q0 q1 q2 q3 fq0 fq1 fq2 fq3
        go_roundw
        case rel => exact ⟨ne, L ++ [s], nS, r1, rfl, hp1, by simp; omega, ⟨A1, c1, by simp⟩, by simpa using HS6.out⟩
        case measure => simp; omega
end Go.Proofs.YtcblbjhhlnmkjaaGreat
