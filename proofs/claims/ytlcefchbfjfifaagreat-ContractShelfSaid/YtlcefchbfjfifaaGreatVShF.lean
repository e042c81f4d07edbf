/- contract.Shelf.Sign. -/
import Derived.Test.YtlcefchbfjfifaaGreatVShE
namespace Go.Proofs.YtlcefchbfjfifaaGreat
open Go.RowKit Cal Go.Maps
set_option maxHeartbeats 4000000
set_option maxRecDepth 100000
set_option linter.unusedVariables false
attribute [local irreducible] wpPlan

theorem Touch.swapS {S : Nat → Prop} {w : World} (h : S w.heap.size) (cs cs' : Array Value) (t t' : TypeId) : Touch S (w.alloc (.cells cs t)) (w.alloc (.cells cs' t')) :=
  ⟨rfl, rfl, rfl, by simp, fun k hk hn => by
    simp at hk
    have hne : k ≠ w.heap.size := fun e => hn (e ▸ h)
    rw [Below.heap_alloc _ _ _ (by omega), Below.heap_alloc _ _ _ (by omega)]⟩
theorem ShAt.new_ {w w' : World} {g b1 b2 : Nat} {S : Shl} {x : Int → Nat} {R X Y : Nat → Prop} (h : ShAt w g b1 b2 S x R X Y) (t : Touch (fun q => w.heap.size ≤ q) w w') : ShAt w' g b1 b2 S x R X Y :=
  h.touch t (fun e => by have := h.gl; omega) (fun e => by have := h.m1.lt; omega) (fun e => by have := h.m2.lt; omega) (fun q hq e => by have := h.lt q hq; omega)
theorem CalM.looks {w : World} {b1 : Nat} {S : Shl} {x : Int → Nat} {R Y : Nat → Prop} (h : CalM w b1 S x R Y) {n : Int} (hn : inN n) {c : Ca} (hc : S.cal n = some c) :
    ∃ A B k m, ∀ {T : Nat → Prop} (w' : World), Touch T w w' → ¬ T b1 → (Instr.lookup 73 (.map (some b1)) (.int .i64 n) true).run Tryz.prog w' = .ok (.tuple #[.agg (layA c A B k m (x n)), .bool true]) w' := by
  obtain ⟨f, hm, hs⟩ := h
  obtain ⟨A, B, k, m, hf, hr, hl⟩ := (hs n hn).2 c hc
  refine ⟨A, B, k, m, fun w' t hb => ?_⟩
  have h1 := (hm.touch t hb).lookOk lawN Tryz.underlying73 (zeroLay w') (keyN hn)
  rw [hf] at h1
  exact h1
def sigE (S : Shl) (n : Int) (c : Co) : Int := if (0 ≤ n ∧ n < 16) ∧ goodB c = true then (if (S.cal c.cal).isSome = true then (if (S.con n).isSome = true then 32 else 0) else 31) else 2
def Shl.sigS (S : Shl) (n : Int) (c : Co) : Shl := if sigE S n c = 0 then S.sig n c else S
theorem Shl.Ok.sig {S : Shl} (h : S.Ok) {n : Int} {c : Co} (hn : 0 ≤ n ∧ n < 16) (hc : goodB c = true) (hs : (S.cal c.cal).isSome = true) : (S.sig n c).Ok := by
  refine ⟨h.cal, fun i d hd => ?_⟩
  simp only [Shl.sig] at hd
  split at hd
  · rename_i e; injection hd with hd; subst e hd; exact ⟨hn, hc, hs⟩
  · exact h.con i d hd
/-- A contract is signed: all that memory has behind it. -/
theorem ShAt.sig {w w6 w' : World} {g b1 b2 : Nat} {S : Shl} {x : Int → Nat} {R X Y : Nat → Prop} (h : ShAt w g b1 b2 S x R X Y) {n : Int} {c : Co} (hn : 0 ≤ n ∧ n < 16) (hc : goodB c = true) (hs : (S.cal c.cal).isSome = true) (t6 : Touch (fun _ => False) w w6) (t7 : Touch (fun q => q = b2) w6 w')
    (hm : ConM w' b2 (S.sig n c) (fun q => R q ∨ (w.heap.size ≤ q ∧ q < w6.heap.size))) (v : Value) : HsP v g b1 b2 (S.sig n c) R X Y (fun q => q = b2) w (.returned v) w' := by
  have hz6 := t6.size
  have hz7 := t7.size
  have h6 := h.far t6
  have hgl := h.gl
  have h1l := h.m1.lt
  have h2l := h.m2.lt
  refine ⟨x, _, X, rfl, ⟨t7.blk h6.blk h.ne.2.1, (h6.m1.touch t7 h.ne.2.2 (fun q hq e => h.o2 (.inl (e ▸ hq))) (fun q hq e => h.o2 (.inr (.inr (e ▸ hq)))) (fun i d hd e => h.o2 (.inr (.inl (e ▸ h.xX i d hd))))).mono rfl (fun q hq => .inl hq) (fun q hq e => ?_), hm, h.ok.sig hn hc hs, h.xX, h.inj, fun q hq => ?_, fun q hq e => ?_, fun q hq e => ?_, h.dXY, fun e => ?_, fun e => ?_, fun e => ?_, h.ne⟩, fun q hq => ?_, fun q hq => .inl hq, (t6.mono (fun _ _ e => e.elim)).trans t7 (fun _ _ e => e)⟩
  · rcases e with e | e
    · exact h.dYR q hq e
    · have := h.lt q (.inr (.inr hq)); omega
  · rcases hq with (hq | hq) | hq | hq
    · have := h.lt q (.inl hq); omega
    · omega
    · have := h.lt q (.inr (.inl hq)); omega
    · have := h.lt q (.inr (.inr hq)); omega
  · rcases e with e | e
    · exact h.dXR q hq e
    · have := h.lt q (.inr (.inl hq)); omega
  · rcases e with e | e
    · exact h.dYR q hq e
    · have := h.lt q (.inr (.inr hq)); omega
  · rcases e with (e | e) | e | e
    · exact h.og (.inl e)
    · omega
    · exact h.og (.inr (.inl e))
    · exact h.og (.inr (.inr e))
  · rcases e with (e | e) | e | e
    · exact h.o1 (.inl e)
    · omega
    · exact h.o1 (.inr (.inl e))
    · exact h.o1 (.inr (.inr e))
  · rcases e with (e | e) | e | e
    · exact h.o2 (.inl e)
    · omega
    · exact h.o2 (.inr (.inl e))
    · exact h.o2 (.inr (.inr e))
  · rcases hq with hq | hq
    · exact .inl hq
    · exact .inr ⟨hq.1, by omega⟩
theorem hsign_any {w : World} {g b1 b2 : Nat} {S : Shl} {x : Int → Nat} {R X Y : Nat → Prop} (h : ShAt w g b1 b2 S x R X Y) (n : Int) (hn : inN n) (F : Nat → Prop) (A : Option Addr) (k : Nat) (c : Co) (hr : SpR w F A c.lv.length c.lv) :
    Calls Tryz.prog 26 #[.pointer (some ⟨g, 0, none⟩), .int .i64 n, .agg (conA c A k)] w (HsP (.int .i64 (sigE S n c)) g b1 b2 (S.sigS n c) R X Y (fun q => q = b2) w) := by
  have HT0 := Lib.hid ((Touch.refl (fun _ => False) w).alloc (.cells (conA c A k) 24))
  have HB0 := Lib.hid (Blk.new w 24 (conA c A k))
  have HN := Lib.hid (hnone_any (h.far HT0.out))
  have HH := Lib.hid h
  have HCk := Lib.hid (fun w1 (t : Touch (fun _ => False) w w1) => kcheck_any F A k c w1 (hr.touch t (fun _ _ e => e)))
  unfold conA at HT0 HB0 HN ⊢
  have hgl := h.gl
  by_cases hr1 : 0 ≤ n ∧ n < 16
  · have n1 : ¬ n < 0 := by omega
    have n2 : ¬ 16 ≤ n := by omega
    cases hg : goodB c
    · have HE := Lib.hid (show sigE S n c = 2 by rw [sigE, if_neg (by rw [hg]; simp)])
      have HS := Lib.hid (show S.sigS n c = S by rw [Shl.sigS, HE.out]; rfl)
      rw [HE.out, HS.out]
      rw [show goodE c = 2 by rw [goodE, hg]; rfl] at HCk
      clear h hr hr1 hn hg
      go_enter Tryz.func26, Tryz.ntmps26
      go_wp2_with (first
        | (go_at_call 52; go_must (refine HN.out.mono ?_); rintro e w1 ⟨rfl, rfl⟩)
        | (go_at_call 9; go_must (refine (HCk.out _ (by exact HT0.out)).mono ?_); rintro e w1 ⟨rfl, t1⟩
           have HT1 := Lib.hid (HT0.out.trans t1 (fun _ _ e => e))
           clear t1))
      go_ret
      exact HsP.same HH.out HT1.out
    rw [show goodE c = 0 by rw [goodE, hg]; rfl] at HCk
    have hcal := good_hd hg
    have hcn : inN c.cal := by unfold inN; omega
    have hne1 := h.ne.1
    cases hs : S.cal c.cal with
    | none =>
      have HE := Lib.hid (show sigE S n c = 31 by rw [sigE, if_pos ⟨hr1, hg⟩, hs]; rfl)
      have HS := Lib.hid (show S.sigS n c = S by rw [Shl.sigS, HE.out]; rfl)
      rw [HE.out, HS.out]
      clear h hr hr1 hn hg hcal
      go_enter Tryz.func26, Tryz.ntmps26
      go_wp2_with (first
        | (go_at_call 52; go_must (refine HN.out.mono ?_); rintro e w1 ⟨rfl, rfl⟩)
        | (go_at_call 9; go_must (refine (HCk.out _ (by exact HT0.out)).mono ?_); rintro e w1 ⟨rfl, t1⟩
           have HT1 := Lib.hid (HT0.out.trans t1 (fun _ _ e => e))
           have HBx := Lib.hid (t1.blk HB0.out (fun e => e))
           clear t1))
      obtain ⟨W5, hW5⟩ : ∃ W5, W5 = w1.drew := ⟨_, rfl⟩
      have HT5 := Lib.hid (show Touch (fun _ => False) w W5 from hW5 ▸ HT1.out.drew)
      have HB5 := Lib.hid (show Blk W5 w.heap.size 24 _ from hW5 ▸ (Touch.refl (fun _ => False) w1).drew.blk HBx.out (fun e => e))
      have HSh := Lib.hid (HH.out.far HT5.out)
      have hz5 := HB5.out.lt
      refine wp_region_plan [(1, 0), (1, 1), (1, 2), (1, 3), (1, 4), (1, 5), (1, 6), (1, 7), (1, 8), (1, 9), (2, 10), (2, 11), (0, 12)] (fun q => w1.heap.size ≤ q) (by kernel_rfl) (by kernel_rfl) (fun c a d v w h => by cases d <;> exact h) ?_
      have hz15 : W5.heap.size = w1.heap.size := by rw [hW5]; rfl
      rw [← hW5]
      rw [← hz15]
      clear hW5 hz15
      iterate 3
        apply plan_h
        · rfl
        · rfl
        · intro wh hT
          go_simp
          try rfl
        go_frame
      iterate 1
        apply plan_h
        · rfl
        · rfl
        · intro wh hT
          have hf0 := show wh.cell? ⟨g, 0, none⟩ = some (.map (some b1)) from (hT.blk HSh.out.blk (by omega)).cell 0
          go_simp
          try rfl
        go_frame
      iterate 1
        apply plan_h
        · rfl
        · rfl
        · intro wh hT
          go_simp
          try rfl
        go_frame
      iterate 1
        apply plan_h
        · rfl
        · rfl
        · intro wh hT
          have hf0 := show wh.cell? ⟨w.heap.size, 0, none⟩ = some (.int .i64 c.cal) from (hT.blk HB5.out (by omega)).cell 0
          go_simp
          try rfl
        go_frame
      iterate 1
        apply plan_h
        · rfl
        · rfl
        · intro wh hT
          have hf0 := show _ = Result.ok (Value.tuple #[.agg #[.int .i64 0, .slice none 0 0, .slice none 0 0, .pointer none], .bool false]) _ from ((HSh.out.new_ hT).m1.look hcn hs).1
          go_simp
          try rfl
        go_frame
      iterate 3
        apply plan_h
        · rfl
        · rfl
        · intro wh hT
          go_simp
          try rfl
        go_frame
      refine plan_a1 rfl (by rfl) (fun Kc hKc => ?_)
      go_simp
      refine hKc _ _ ⟨(Touch.refl (fun q => W5.heap.size ≤ q) W5).alloc _, ?_⟩
      clear hKc Kc
      refine plan_a1 rfl (by rfl) (fun Kc hKc => ?_)
      go_simp
      refine hKc _ _ ⟨Touch.swapS (S := fun q => W5.heap.size ≤ q) (w := W5) (Nat.le_refl _) _ _ _ _, ?_⟩
      clear hKc Kc
      iterate 1
        refine plan_s1 rfl (by rfl) (fun Kc hKc => ?_)
        go_simp
        first
          | (refine hKc _ ?_)
        clear hKc Kc
      refine plan_done ?_
      go_wp2_with fail
      go_ret
      exact HsP.same HH.out (HT5.out.alloc _)
    | some d =>
      have hse : (S.cal c.cal).isSome = true := by rw [hs]; rfl
      cases hk : S.con n with
      | some e' =>
        have HE := Lib.hid (show sigE S n c = 32 by rw [sigE, if_pos ⟨hr1, hg⟩, if_pos hse, hk]; rfl)
        have HS := Lib.hid (show S.sigS n c = S by rw [Shl.sigS, HE.out]; rfl)
        rw [HE.out, HS.out]
        clear h hr hr1 hg hcal hse
        go_enter Tryz.func26, Tryz.ntmps26
        go_wp2_with (first
          | (go_at_call 52; go_must (refine HN.out.mono ?_); rintro e w1 ⟨rfl, rfl⟩)
          | (go_at_call 9; go_must (refine (HCk.out _ (by exact HT0.out)).mono ?_); rintro e w1 ⟨rfl, t1⟩
             have HT1 := Lib.hid (HT0.out.trans t1 (fun _ _ e => e))
             have HBx := Lib.hid (t1.blk HB0.out (fun e => e))
             clear t1))
        obtain ⟨W5, hW5⟩ : ∃ W5, W5 = w1.drew := ⟨_, rfl⟩
        have HT5 := Lib.hid (show Touch (fun _ => False) w W5 from hW5 ▸ HT1.out.drew)
        have HB5 := Lib.hid (show Blk W5 w.heap.size 24 _ from hW5 ▸ (Touch.refl (fun _ => False) w1).drew.blk HBx.out (fun e => e))
        have HSh := Lib.hid (HH.out.far HT5.out)
        have hz5 := HB5.out.lt
        refine wp_region_plan [(1, 0), (1, 1), (1, 2), (1, 3), (1, 4), (1, 5), (1, 6), (1, 7), (1, 8), (1, 9), (2, 10), (2, 11), (0, 12)] (fun q => w1.heap.size ≤ q) (by kernel_rfl) (by kernel_rfl) (fun c a d v w h => by cases d <;> exact h) ?_
        have hz15 : W5.heap.size = w1.heap.size := by rw [hW5]; rfl
        rw [← hW5]
        rw [← hz15]
        clear hW5 hz15
        obtain ⟨A2, B2, k2, m2, hlk⟩ := CalM.looks HSh.out.m1 hcn hs
        have HLk := Lib.hid (fun wh (hT : Touch (fun q => W5.heap.size ≤ q) W5 wh) => hlk wh hT (fun e => by have := HSh.out.m1.lt; omega))
        unfold layA at HLk
        clear hlk
        iterate 3
          apply plan_h
          · rfl
          · rfl
          · intro wh hT
            go_simp
            try rfl
          go_frame
        iterate 1
          apply plan_h
          · rfl
          · rfl
          · intro wh hT
            have hf0 := show wh.cell? ⟨g, 0, none⟩ = some (.map (some b1)) from (hT.blk HSh.out.blk (by omega)).cell 0
            go_simp
            try rfl
          go_frame
        iterate 1
          apply plan_h
          · rfl
          · rfl
          · intro wh hT
            go_simp
            try rfl
          go_frame
        iterate 1
          apply plan_h
          · rfl
          · rfl
          · intro wh hT
            have hf0 := show wh.cell? ⟨w.heap.size, 0, none⟩ = some (.int .i64 c.cal) from (hT.blk HB5.out (by omega)).cell 0
            go_simp
            try rfl
          go_frame
        iterate 1
          apply plan_h
          · rfl
          · rfl
          · intro wh hT
            have hf0 := HLk.out wh hT
            go_simp
            try rfl
          go_frame
        iterate 3
          apply plan_h
          · rfl
          · rfl
          · intro wh hT
            go_simp
            try rfl
          go_frame
        refine plan_a1 rfl (by rfl) (fun Kc hKc => ?_)
        go_simp
        refine hKc _ _ ⟨(Touch.refl (fun q => W5.heap.size ≤ q) W5).alloc _, ?_⟩
        clear hKc Kc
        refine plan_a1 rfl (by rfl) (fun Kc hKc => ?_)
        go_simp
        refine hKc _ _ ⟨Touch.swapS (S := fun q => W5.heap.size ≤ q) (w := W5) (Nat.le_refl _) _ _ _ _, ?_⟩
        clear hKc Kc
        iterate 1
          refine plan_s1 rfl (by rfl) (fun Kc hKc => ?_)
          go_simp
          first
            | (refine hKc _ ?_)
          clear hKc Kc
        refine plan_done ?_
        obtain ⟨W6, hW6⟩ : ∃ W6, W6 = W5.alloc (.cells #[.int .i64 d.off, .slice A2 d.wk.length k2, .slice B2 d.cl.length m2, .pointer (some ⟨x c.cal, 0, none⟩)] 113) := ⟨_, rfl⟩
        rw [← hW6]
        have HT6 := Lib.hid (show Touch (fun _ => False) w W6 from hW6 ▸ HT5.out.alloc _)
        have q1 := (HH.out.far HT6.out).blk.cell 1
        simp at q1
        obtain ⟨A3, k3, -, hlk⟩ := (HH.out.far HT6.out).m2.look1 hn hk
        unfold conA at hlk
        clear hW6
        go_wp2_with fail
        go_ret
        exact HsP.same HH.out (HT6.out.alloc _)
      | none =>
        have HE := Lib.hid (show sigE S n c = 0 by rw [sigE, if_pos ⟨hr1, hg⟩, if_pos hse, hk]; rfl)
        have HS := Lib.hid (show S.sigS n c = S.sig n c by rw [Shl.sigS, HE.out]; rfl)
        rw [HE.out, HS.out]
        have HF := Lib.hid (And.intro hr1 (And.intro hg hse))
        have HCo := Lib.hid (fun w1 (t : Touch (fun _ => False) w w1) => kcopy_any F A k c w1 (hr.touch t (fun _ _ e => e)) (by omega))
        unfold CopK conA at HCo
        have h2l := h.m2.lt
        have hne2 := h.ne.2.1
        clear h hr hr1 hg hcal hse
        go_enter Tryz.func26, Tryz.ntmps26
        go_wp2_with (first
          | (go_at_call 52; go_must (refine HN.out.mono ?_); rintro e w1 ⟨rfl, rfl⟩)
          | (go_at_call 9; go_must (refine (HCk.out _ (by exact HT0.out)).mono ?_); rintro e w1 ⟨rfl, t1⟩
             have HT1 := Lib.hid (HT0.out.trans t1 (fun _ _ e => e))
             have HBx := Lib.hid (t1.blk HB0.out (fun e => e))
             clear t1))
        obtain ⟨W5, hW5⟩ : ∃ W5, W5 = w1.drew := ⟨_, rfl⟩
        have HT5 := Lib.hid (show Touch (fun _ => False) w W5 from hW5 ▸ HT1.out.drew)
        have HB5 := Lib.hid (show Blk W5 w.heap.size 24 _ from hW5 ▸ (Touch.refl (fun _ => False) w1).drew.blk HBx.out (fun e => e))
        have HSh := Lib.hid (HH.out.far HT5.out)
        have hz5 := HB5.out.lt
        refine wp_region_plan [(1, 0), (1, 1), (1, 2), (1, 3), (1, 4), (1, 5), (1, 6), (1, 7), (1, 8), (1, 9), (2, 10), (2, 11), (0, 12)] (fun q => w1.heap.size ≤ q) (by kernel_rfl) (by kernel_rfl) (fun c a d v w h => by cases d <;> exact h) ?_
        have hz15 : W5.heap.size = w1.heap.size := by rw [hW5]; rfl
        rw [← hW5]
        rw [← hz15]
        clear hW5 hz15
        obtain ⟨A2, B2, k2, m2, hlk⟩ := CalM.looks HSh.out.m1 hcn hs
        have HLk := Lib.hid (fun wh (hT : Touch (fun q => W5.heap.size ≤ q) W5 wh) => hlk wh hT (fun e => by have := HSh.out.m1.lt; omega))
        unfold layA at HLk
        clear hlk
        iterate 3
          apply plan_h
          · rfl
          · rfl
          · intro wh hT
            go_simp
            try rfl
          go_frame
        iterate 1
          apply plan_h
          · rfl
          · rfl
          · intro wh hT
            have hf0 := show wh.cell? ⟨g, 0, none⟩ = some (.map (some b1)) from (hT.blk HSh.out.blk (by omega)).cell 0
            go_simp
            try rfl
          go_frame
        iterate 1
          apply plan_h
          · rfl
          · rfl
          · intro wh hT
            go_simp
            try rfl
          go_frame
        iterate 1
          apply plan_h
          · rfl
          · rfl
          · intro wh hT
            have hf0 := show wh.cell? ⟨w.heap.size, 0, none⟩ = some (.int .i64 c.cal) from (hT.blk HB5.out (by omega)).cell 0
            go_simp
            try rfl
          go_frame
        iterate 1
          apply plan_h
          · rfl
          · rfl
          · intro wh hT
            have hf0 := HLk.out wh hT
            go_simp
            try rfl
          go_frame
        iterate 3
          apply plan_h
          · rfl
          · rfl
          · intro wh hT
            go_simp
            try rfl
          go_frame
        refine plan_a1 rfl (by rfl) (fun Kc hKc => ?_)
        go_simp
        refine hKc _ _ ⟨(Touch.refl (fun q => W5.heap.size ≤ q) W5).alloc _, ?_⟩
        clear hKc Kc
        refine plan_a1 rfl (by rfl) (fun Kc hKc => ?_)
        go_simp
        refine hKc _ _ ⟨Touch.swapS (S := fun q => W5.heap.size ≤ q) (w := W5) (Nat.le_refl _) _ _ _ _, ?_⟩
        clear hKc Kc
        iterate 1
          refine plan_s1 rfl (by rfl) (fun Kc hKc => ?_)
          go_simp
          first
            | (refine hKc _ ?_)
          clear hKc Kc
        refine plan_done ?_
        obtain ⟨W6, hW6⟩ : ∃ W6, W6 = W5.alloc (.cells #[.int .i64 d.off, .slice A2 d.wk.length k2, .slice B2 d.cl.length m2, .pointer (some ⟨x c.cal, 0, none⟩)] 113) := ⟨_, rfl⟩
        rw [← hW6]
        have HT6 := Lib.hid (show Touch (fun _ => False) w W6 from hW6 ▸ HT5.out.alloc _)
        have HB6 := Lib.hid (show Blk W6 w.heap.size 24 _ from hW6 ▸ HB5.out.alloc _)
        have q1 := (HH.out.far HT6.out).blk.cell 1
        simp at q1
        have hlk := (HH.out.far HT6.out).m2.look hn hk
        unfold conA conZ at hlk
        simp only [List.length_nil] at hlk
        clear hW6
        go_wp2_with fail
        clear hlk q1
        obtain ⟨W8, hW8⟩ : ∃ W8, W8 = (W6.alloc (.cells #[.int .i64 0, .slice none 0 0, .int .i64 0, .int .i64 0] 24)).drew := ⟨_, rfl⟩
        have HT8 := Lib.hid (show Touch (fun _ => False) w W8 from hW8 ▸ (HT6.out.alloc _).drew)
        have HB8 := Lib.hid (show Blk W8 w.heap.size 24 _ from hW8 ▸ (Touch.refl (fun _ => False) _).drew.blk (HB6.out.alloc _) (fun e => e))
        have HS8 := Lib.hid (HH.out.far HT8.out)
        have y0 := HB8.out.cell 0; have y1 := HB8.out.cell 1; have y2 := HB8.out.cell 2; have y3 := HB8.out.cell 3
        simp at y0 y1 y2 y3
        refine wp_region_plan [(0, 5), (1, 0), (1, 1), (1, 2), (1, 3), (1, 4), (2, 6), (2, 7)] (fun q => q = b2) (by kernel_rfl) (by kernel_rfl) (fun c a d v w h => by cases d <;> exact h) ?_
        rw [← hW8]
        clear hW8
        iterate 1
          refine plan_s1 rfl (by rfl) (fun Kc hKc => ?_)
          go_simp
          first
            | (refine hKc _ ?_)
          clear hKc Kc
        iterate 3
          apply plan_h
          · rfl
          · rfl
          · intro wh hT
            go_simp
            try rfl
          go_frame
        iterate 1
          apply plan_h
          · rfl
          · rfl
          · intro wh hT
            have hf0 := show wh.cell? ⟨g, 1, none⟩ = some (.map (some b2)) from (hT.blk HS8.out.blk hne2).cell 1
            go_simp
            try rfl
          go_frame
        iterate 1
          apply plan_h
          · rfl
          · rfl
          · intro wh hT
            go_simp
            try rfl
          go_frame
        clear y0 y1 y2 y3
        refine plan_a1 rfl (by rfl) (fun Kc hKc => ?_)
        go_simp
        refine (HCo.out _ (by exact HT8.out)).mono ?_
        rintro e w9 ⟨A4, k4, rfl, hs9, t9⟩
        refine hKc _ _ ⟨t9.mono (fun _ _ e => e.elim), ?_⟩
        clear hKc Kc
        have HT9 := Lib.hid (HT8.out.trans t9 (fun _ _ e => e))
        have hz8 := HT8.out.size
        obtain ⟨w10, hrun, hm10, t10⟩ := (HS8.out.far t9).m2.store HH.out.ok HF.out.1 c A4 k4 (fun q => R q ∨ (w.heap.size ≤ q ∧ q < w9.heap.size)) (fun q hq => .inl hq)
          (fun q hq e => by
            rcases hq with hq | hq
            · exact HH.out.o2 (.inl (e ▸ hq))
            · omega)
          (hs9.mono (fun q hq => .inr ⟨by omega, hq.2⟩))
        have HM10 := Lib.hid hm10
        have HT10 := Lib.hid t10
        unfold conA at hrun
        clear hs9 t9 hm10 t10
        refine plan_a1 rfl (by rfl) (fun Kc hKc => ?_)
        go_simp
        refine hKc _ _ ⟨HT10.out, ?_⟩
        clear hKc Kc
        refine plan_done ?_
        clear hrun
        go_wp2
        go_ret
        exact HH.out.sig HF.out.1 HF.out.2.1 HF.out.2.2 HT9.out HT10.out HM10.out _
  · have HE := Lib.hid (show sigE S n c = 2 by rw [sigE, if_neg (by rintro ⟨h, _⟩; exact hr1 h)])
    have HS := Lib.hid (show S.sigS n c = S by rw [Shl.sigS, HE.out]; rfl)
    rw [HE.out, HS.out]
    have hn2 : n < 0 ∨ (¬ n < 0 ∧ 16 ≤ n) := by omega
    clear h hr hr1 hn HCk
    rcases hn2 with n1 | ⟨n1, n2⟩
    all_goals
      go_enter Tryz.func26, Tryz.ntmps26
      go_wp2_with (go_at_call 52; go_must (refine HN.out.mono ?_); rintro e w1 ⟨rfl, rfl⟩)
      go_ret
      exact HsP.same HH.out HT0.out
end Go.Proofs.YtlcefchbfjfifaaGreat
