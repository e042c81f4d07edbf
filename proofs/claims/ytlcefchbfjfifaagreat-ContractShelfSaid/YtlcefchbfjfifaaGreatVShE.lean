/- contract.Shelf.Lay. -/
import Derived.Test.YtlcefchbfjfifaaGreatVShD
namespace Go.Proofs.YtlcefchbfjfifaaGreat
open Go.RowKit Cal Go.Maps
set_option maxHeartbeats 4000000
set_option maxRecDepth 100000
set_option linter.unusedVariables false
attribute [local irreducible] wpPlan

theorem ConM.mono {w : World} {b2 : Nat} {S S' : Shl} {R R' : Nat → Prop} (h : ConM w b2 S R) (hS : S'.con = S.con) (hR : ∀ q, R q → R' q) : ConM w b2 S' R' := by
  obtain ⟨f, hm, hs⟩ := h
  refine ⟨f, hm, fun i hi => ⟨fun e => (hs i hi).1 (hS ▸ e), fun c hc => ?_⟩⟩
  obtain ⟨A, n, h1, h2⟩ := (hs i hi).2 c (hS ▸ hc)
  exact ⟨A, n, h1, h2.mono hR⟩
theorem CalM.mono {w : World} {b1 : Nat} {S S' : Shl} {x : Int → Nat} {R R' Y : Nat → Prop} (h : CalM w b1 S x R Y) (hS : S'.cal = S.cal) (hR : ∀ q, R q → R' q) (hd : ∀ q, Y q → ¬ R' q) : CalM w b1 S' x R' Y := by
  obtain ⟨f, hm, hs⟩ := h
  refine ⟨f, hm, fun i hi => ⟨fun e => (hs i hi).1 (hS ▸ e), fun c hc => ?_⟩⟩
  obtain ⟨A, B, k, m, h1, h2, h3⟩ := (hs i hi).2 c (hS ▸ hc)
  exact ⟨A, B, k, m, h1, ⟨h2.wk.mono hR, h2.cl.mono hR⟩, h3.mono hR (fun _ e => e) hd⟩
def layE (S : Shl) (n : Int) (c : Ca) : Int := if 0 ≤ n ∧ n < 8 then (if checkE c = 0 then (if (S.cal n).isSome = true then 32 else 0) else checkE c) else 2
def Shl.layS (S : Shl) (n : Int) (c : Ca) : Shl := if layE S n c = 0 then S.lay n c else S
theorem Shl.Ok.lay {S : Shl} (h : S.Ok) {n : Int} {c : Ca} (hn : 0 ≤ n ∧ n < 8) (hc : checkE c = 0) : (S.lay n c).Ok := by
  refine ⟨fun i d hd => ?_, fun i d hd => ⟨(h.con i d hd).1, (h.con i d hd).2.1, ?_⟩⟩
  · simp only [Shl.lay] at hd
    split at hd
    · rename_i e; injection hd with hd; subst e hd; exact ⟨hn, hc⟩
    · exact h.cal i d hd
  · simp only [Shl.lay]
    split
    · rfl
    · exact (h.con i d hd).2.2
/-- What a call on a shelf leaves. -/
def HsP (v : Value) (g b1 b2 : Nat) (S' : Shl) (R X Y T : Nat → Prop) (w : World) (e : Ending) (w' : World) : Prop :=
  ∃ x' R' X', e = .returned v ∧ ShAt w' g b1 b2 S' x' R' X' Y ∧ (∀ q, R' q → R q ∨ (w.heap.size ≤ q ∧ q < w'.heap.size)) ∧ (∀ q, X' q → X q ∨ (w.heap.size ≤ q ∧ q < w'.heap.size)) ∧ Touch T w w'
theorem HsP.same {v : Value} {w w' : World} {g b1 b2 : Nat} {S : Shl} {x : Int → Nat} {R X Y T : Nat → Prop} (h : ShAt w g b1 b2 S x R X Y) (t : Touch (fun _ => False) w w') : HsP v g b1 b2 S R X Y T w (.returned v) w' :=
  ⟨x, R, X, rfl, h.far t, fun q hq => .inl hq, fun q hq => .inl hq, t.mono (fun _ _ e => e.elim)⟩
/-- A calendar is laid down: all that memory has behind it. -/
theorem ShAt.lay {w w6 w' : World} {g b1 b2 : Nat} {S : Shl} {x : Int → Nat} {R X Y : Nat → Prop} (h : ShAt w g b1 b2 S x R X Y) {n : Int} {c : Ca} (hn : 0 ≤ n ∧ n < 8) (hc : checkE c = 0) {xn : Nat} (hx : w.heap.size ≤ xn) (hx6 : xn < w6.heap.size) (t6 : Touch (fun _ => False) w w6) (t7 : Touch (fun q => q = b1) w6 w')
    (hm : CalM w' b1 (S.lay n c) (fun i => if i = n then xn else x i) (fun q => R q ∨ (w.heap.size ≤ q ∧ q < w6.heap.size ∧ q ≠ xn)) Y) (v : Value) : HsP v g b1 b2 (S.lay n c) R X Y (fun q => q = b1) w (.returned v) w' := by
  have hz6 := t6.size
  have hz7 := t7.size
  have h6 := h.far t6
  have hgl := h.gl
  have h1l := h.m1.lt
  have h2l := h.m2.lt
  refine ⟨_, _, fun q => X q ∨ q = xn, rfl, ⟨t7.blk h6.blk h.ne.1, hm, (h6.m2.touch t7 (fun e => h.ne.2.2 e.symm) (fun q hq e => h.o1 (.inl (e ▸ hq)))).mono rfl (fun q hq => .inl hq), h.ok.lay hn hc, fun i d hd => ?_, fun i j d d' hd hd' e => ?_, fun q hq => ?_, fun q hq e => ?_, fun q hq e => ?_, fun q hq e => ?_, fun e => ?_, fun e => ?_, fun e => ?_, h.ne⟩, fun q hq => ?_, fun q hq => ?_, t6.mono (fun _ _ e => e.elim) |>.trans t7 (fun _ _ e => e)⟩
  · simp only [Shl.lay] at hd
    split at hd
    · rename_i e; exact .inr (if_pos e)
    · rename_i e; exact .inl (by rw [if_neg e]; exact h.xX i d hd)
  · have key : ∀ i d, S.cal i = some d → x i < w.heap.size := fun i d hd => h.lt _ (.inr (.inl (h.xX i d hd)))
    simp only [Shl.lay] at hd hd'
    split at hd
    · rename_i e1
      split at hd'
      · rename_i e2; rw [e1, e2]
      · rename_i e2
        simp only [if_pos e1, if_neg e2] at e
        have := key j d' hd'
        omega
    · rename_i e1
      split at hd'
      · rename_i e2
        simp only [if_neg e1, if_pos e2] at e
        have := key i d hd
        omega
      · rename_i e2
        simp only [if_neg e1, if_neg e2] at e
        exact h.inj i j d d' hd hd' e
  · rcases hq with (hq | hq) | (hq | hq) | hq
    · have := h.lt q (.inl hq); omega
    · omega
    · have := h.lt q (.inr (.inl hq)); omega
    · omega
    · have := h.lt q (.inr (.inr hq)); omega
  · rcases hq with hq | hq
    · rcases e with e | e
      · exact h.dXR q hq e
      · have := h.lt q (.inr (.inl hq)); omega
    · rcases e with e | e
      · have := h.lt q (.inl e); omega
      · exact e.2.2 hq
  · rcases e with e | e
    · exact h.dYR q hq e
    · have := h.lt q (.inr (.inr hq)); omega
  · rcases hq with hq | hq
    · exact h.dXY q hq e
    · have := h.lt q (.inr (.inr e)); omega
  · rcases e with (e | e) | (e | e) | e
    · exact h.og (.inl e)
    · omega
    · exact h.og (.inr (.inl e))
    · omega
    · exact h.og (.inr (.inr e))
  · rcases e with (e | e) | (e | e) | e
    · exact h.o1 (.inl e)
    · omega
    · exact h.o1 (.inr (.inl e))
    · omega
    · exact h.o1 (.inr (.inr e))
  · rcases e with (e | e) | (e | e) | e
    · exact h.o2 (.inl e)
    · omega
    · exact h.o2 (.inr (.inl e))
    · omega
    · exact h.o2 (.inr (.inr e))
  · rcases hq with hq | hq
    · exact .inl hq
    · exact .inr ⟨hq.1, by omega⟩
  · rcases hq with hq | hq
    · exact .inl hq
    · exact .inr ⟨by omega, by omega⟩
theorem hlay_any {w : World} {g b1 b2 : Nat} {S : Shl} {x : Int → Nat} {R X Y : Nat → Prop} (h : ShAt w g b1 b2 S x R X Y) (n : Int) (hn : inN n) (F : Nat → Prop) (A B : Option Addr) (k m : Nat) (c : Ca) (hr : CaR w F c A B) (h1 : c.wk.length ≤ 1000000) (h2 : c.cl.length ≤ 1000000) :
    Calls Tryz.prog 25 #[.pointer (some ⟨g, 0, none⟩), .int .i64 n, .agg (caA c A B k m)] w (HsP (.int .i64 (layE S n c)) g b1 b2 (S.layS n c) R X Y (fun q => q = b1) w) := by
  have HT0 := Lib.hid ((Touch.refl (fun _ => False) w).alloc (.cells (caA c A B k m) 51))
  have HB0 := Lib.hid (Blk.new w 51 (caA c A B k m))
  have HN := Lib.hid (hnone_any (h.far HT0.out))
  have HH := Lib.hid h
  have HR := Lib.hid hr
  have HCk := Lib.hid (fun w1 (t : Touch (fun _ => False) w w1) => ccheck_any F A B k m c w1 (hr.touch t (fun _ _ e => e)) h1 h2)
  unfold caA at HT0 HB0 HN ⊢
  by_cases hr1 : 0 ≤ n ∧ n < 8
  · by_cases hc : checkE c = 0
    · have hnn : inN n := hn
      rw [hc] at HCk
      have n1 : ¬ n < 0 := by omega
      have n2 : ¬ 8 ≤ n := by omega
      cases hs : S.cal n with
      | some d =>
        have HE := Lib.hid (show layE S n c = 32 by rw [layE, if_pos hr1, if_pos hc, hs]; rfl)
        have HS := Lib.hid (show S.layS n c = S by rw [Shl.layS, HE.out]; rfl)
        rw [HE.out, HS.out]
        clear h hr hc hr1 hn
        go_enter Tryz.func25, Tryz.ntmps25
        go_wp2_with (first
          | (go_at_call 52; go_must (refine HN.out.mono ?_); rintro e w1 ⟨rfl, rfl⟩)
          | (go_at_call 53; go_must (refine (HCk.out _ (by exact HT0.out)).mono ?_); rintro e w1 ⟨rfl, t1⟩
             have HT1 := Lib.hid (HT0.out.trans t1 (fun _ _ e => e))
             obtain ⟨A2, B2, k2, m2, -, -, hlk, -⟩ := (HH.out.far HT1.out).m1.look1 hnn hs
             unfold layA at hlk
             have q0 := (HH.out.far HT1.out).blk.cell 0
             simp at q0
             clear t1))
        go_ret
        exact HsP.same HH.out (HT1.out.alloc _)
      | none =>
        have HE := Lib.hid (show layE S n c = 0 by rw [layE, if_pos hr1, if_pos hc, hs]; rfl)
        have HS := Lib.hid (show S.layS n c = S.lay n c by rw [Shl.layS, HE.out]; rfl)
        rw [HE.out, HS.out]
        have hgl := h.gl
        have HCo := Lib.hid (fun w1 (t : Touch (fun _ => False) w w1) => ccopied_any F A B k m c w1 (hr.touch t (fun _ _ e => e)) h1 h2)
        have hmf : ∀ (fn : Fn) (first cap : Array Value) (w : World), (Instr.makeFunc fn first cap).run Tryz.prog w = .ok (.func fn first cap) w := fun _ _ _ _ => rfl
        have HF := Lib.hid (And.intro hr1 hc)
        have hb1l := h.m1.lt
        have hgb := h.ne.1
        clear h hr hc hr1 hn
        unfold caA CopC at HCo
        go_enter Tryz.func25, Tryz.ntmps25
        go_wp2_with (first
          | (go_at_call 52; go_must (refine HN.out.mono ?_); rintro e w1 ⟨rfl, rfl⟩)
          | (go_at_call 53; go_must (refine (HCk.out _ (by exact HT0.out)).mono ?_); rintro e w1 ⟨rfl, t1⟩
             have HT1 := Lib.hid (HT0.out.trans t1 (fun _ _ e => e))
             have hlk := ((HH.out.far HT1.out).m1.look hnn hs).1
             unfold layZ at hlk
             have q0 := (HH.out.far HT1.out).blk.cell 0
             simp at q0
             have hbx := (t1.blk HB0.out (fun e => e)).alloc (.cells #[.int .i64 0, .slice none 0 0, .slice none 0 0, .pointer none] 113)
             have y0 := hbx.cell 0; have y1 := hbx.cell 1; have y2 := hbx.cell 2
             simp at y0 y1 y2
             clear t1 hbx)
          | (go_at_call 54; go_must (refine (HCo.out _ (by exact HT1.out.alloc _)).mono ?_); rintro e w3 ⟨A1, B1, k1, m1, rfl, hr3, t3⟩
             have HR3 := Lib.hid (show CaR w3 (fun q => w1.heap.size ≤ q ∧ q < w3.heap.size) c A1 B1 from ⟨hr3.wk.mono (fun q hq => ⟨by have := hq.1; simp at this; omega, hq.2⟩), hr3.cl.mono (fun q hq => ⟨by have := hq.1; simp at this; omega, hq.2⟩)⟩)
             have HT3 := Lib.hid ((HT1.out.alloc _).trans t3 (fun _ _ e => e))
             have hz3 := t3.size
             unfold caA
             clear t3 hr3))
        clear hlk y0 y1 y2 q0
        have hz1 := HT1.out.size
        simp at hz3
        obtain ⟨o, ho⟩ : ∃ o, o = w3.heap.size := ⟨_, rfl⟩
        obtain ⟨W5, hW5⟩ : ∃ W5, W5 = (w3.alloc (.cells #[.int .i64 c.off, .slice A1 c.wk.length k1, .slice B1 c.cl.length m1] 51)).drew := ⟨_, rfl⟩
        have HT5 := Lib.hid (show Touch (fun _ => False) w W5 from hW5 ▸ (HT3.out.alloc _).drew)
        have HT35 := Lib.hid (show Touch (fun _ => False) w3 W5 from hW5 ▸ ((Touch.refl _ w3).alloc _).drew)
        have HBo := Lib.hid (show Blk W5 o 51 #[.int .i64 c.off, .slice A1 c.wk.length k1, .slice B1 c.cl.length m1] from hW5 ▸ ho ▸ (Touch.refl (fun _ => False) _).drew.blk (Blk.new w3 _ _) (fun e => e))
        have HSh := Lib.hid (HH.out.far HT5.out)
        have hz5 := HT5.out.size
        have hol := HBo.out.lt
        have how : w.heap.size ≤ o := by omega
        refine wp_region_plan [(0, 6), (1, 0), (1, 1), (1, 2), (1, 3), (1, 4), (1, 5), (2, 7), (0, 8), (2, 9)] (fun q => q = b1) (by kernel_rfl) (by kernel_rfl) (fun c a d v w h => by cases d <;> exact h) ?_
        rw [← hW5, ← ho]
        clear hW5 ho
        iterate 1
          refine plan_s1 rfl (by rfl) (fun Kc hKc => ?_)
          go_simp
          first
            | (refine hKc _ ?_)
          clear hKc Kc
        iterate 3
          apply plan_h
          · rfl
          · rfl
          · intro wh hT
            go_simp
            try rfl
          go_frame
        iterate 1
          apply plan_h
          · rfl
          · rfl
          · intro wh hT
            have hf0 := show wh.cell? ⟨g, 0, none⟩ = some (.map (some b1)) from (hT.blk HSh.out.blk hgb).cell 0
            go_simp
            try rfl
          go_frame
        iterate 1
          apply plan_h
          · rfl
          · rfl
          · intro wh hT
            go_simp
            try rfl
          go_frame
        iterate 1
          apply plan_h
          · rfl
          · rfl
          · intro wh hT
            have hf0 := (hT.blk HBo.out (by omega)).cell 0
            have hf1 := (hT.blk HBo.out (by omega)).cell 1
            have hf2 := (hT.blk HBo.out (by omega)).cell 2
            go_simp
            try rfl
          go_frame
        refine plan_a1 rfl (by rfl) (fun Kc hKc => ?_)
        go_simp
        refine (lnewK_any o W5).mono ?_
        rintro e w6 ⟨rfl, hb6, t6⟩
        refine hKc _ _ ⟨t6.mono (fun _ _ e => e.elim), ?_⟩
        clear hKc Kc
        have HT6 := Lib.hid (HT5.out.trans t6 (fun _ _ e => e))
        have hz6 := t6.size
        have hx6 := hb6.lt
        have HBo6 := Lib.hid (t6.blk HBo.out (fun e => e))
        have HR6 := Lib.hid ((HR3.out.touch HT35.out (fun _ _ e => e)).touch t6 (fun _ _ e => e))
        have hz35 := HT35.out.size
        have HSh6 := Lib.hid (HSh.out.far t6)
        obtain ⟨w7, hrun, hm7, t7⟩ := HSh6.out.m1.store HH.out.ok HF.out.1 c A1 B1 k1 m1 W5.heap.size (fun q => R q ∨ (w.heap.size ≤ q ∧ q < w6.heap.size ∧ q ≠ W5.heap.size)) (fun q hq => .inl hq)
          (fun q hq e => by
            rcases hq with hq | hq
            · exact HH.out.o1 (.inl (e ▸ hq))
            · omega)
          (fun q hq e => HH.out.o1 (.inr (.inr (e ▸ hq)))) (fun i d hd e => HH.out.o1 (.inr (.inl (e ▸ HH.out.xX i d hd))))
          (fun q hq e => by
            rcases e with e | e
            · exact HH.out.dYR q hq e
            · have := HH.out.lt q (.inr (.inr hq)); omega)
          ⟨HR6.out.wk.mono (fun q hq => .inr ⟨by omega, by omega, by omega⟩), HR6.out.cl.mono (fun q hq => .inr ⟨by omega, by omega, by omega⟩)⟩
          (.inl ⟨0, 0, o, A1, B1, k1, m1, hb6, HBo6.out, ⟨HR6.out.wk.mono (fun q hq => .inr ⟨by omega, by omega, by omega⟩), HR6.out.cl.mono (fun q hq => .inr ⟨by omega, by omega, by omega⟩)⟩, .inr ⟨how, by omega, by omega⟩⟩) (by omega)
        have HM7 := Lib.hid hm7
        have HT7 := Lib.hid t7
        unfold layA at hrun
        clear hb6 t6 hm7 t7
        iterate 1
          refine plan_s1 rfl (by rfl) (fun Kc hKc => ?_)
          go_simp
          first
            | (refine hKc _ ?_)
          clear hKc Kc
        refine plan_a1 rfl (by rfl) (fun Kc hKc => ?_)
        go_simp
        refine hKc _ _ ⟨HT7.out, ?_⟩
        clear hKc Kc
        refine plan_done ?_
        clear hrun
        go_wp2
        go_ret
        exact HH.out.lay HF.out.1 HF.out.2 (by omega) hx6 HT6.out HT7.out HM7.out _
    · have HE := Lib.hid (show layE S n c = checkE c by rw [layE, if_pos hr1, if_neg hc])
      have HS := Lib.hid (show S.layS n c = S by rw [Shl.layS, HE.out, if_neg hc])
      rw [HE.out, HS.out]
      have n1 : ¬ n < 0 := by omega
      have n2 : ¬ 8 ≤ n := by omega
      have hcb : (checkE c != 0) = true := by simpa using hc
      generalize checkE c = E at *
      clear h hr hr1 hn
      go_enter Tryz.func25, Tryz.ntmps25
      go_wp2_with (first
        | (go_at_call 52; go_must (refine HN.out.mono ?_); rintro e w1 ⟨rfl, rfl⟩)
        | (go_at_call 53; go_must (refine (HCk.out _ (by exact HT0.out)).mono ?_); rintro e w1 ⟨rfl, t1⟩
           have HT1 := Lib.hid (HT0.out.trans t1 (fun _ _ e => e))
           clear t1))
      go_ret
      exact HsP.same HH.out HT1.out
  · have HE := Lib.hid (show layE S n c = 2 by rw [layE, if_neg hr1])
    have HS := Lib.hid (show S.layS n c = S by rw [Shl.layS, HE.out]; rfl)
    rw [HE.out, HS.out]
    have hn2 : n < 0 ∨ (¬ n < 0 ∧ 8 ≤ n) := by omega
    clear h hr hr1 hn HCk
    rcases hn2 with n1 | ⟨n1, n2⟩
    all_goals
      go_enter Tryz.func25, Tryz.ntmps25
      go_wp2_with (go_at_call 52; go_must (refine HN.out.mono ?_); rintro e w1 ⟨rfl, rfl⟩)
      go_ret
      exact HsP.same HH.out HT0.out
end Go.Proofs.YtlcefchbfjfifaaGreat
