/- contract.copied; stores on a shelf. -/
import Derived.Test.YtlcefchbfjfifaaGreatVShC
namespace Go.Proofs.YtlcefchbfjfifaaGreat
open Go.RowKit Cal Go.Maps
set_option maxHeartbeats 4000000
set_option maxRecDepth 100000
set_option linter.unusedVariables false
attribute [local irreducible] wpPlan

/-- A calendar copied. -/
def CopC (c : Ca) (w : World) (e : Ending) (w' : World) : Prop :=
  ∃ A B k m, e = .returned (.agg (caA c A B k m)) ∧ CaR w' (fun q => w.heap.size ≤ q ∧ q < w'.heap.size) c A B ∧ Touch (fun _ => False) w w'
theorem ccopied_any (F : Nat → Prop) (A B : Option Addr) (k m : Nat) (c : Ca) (w : World) (hr : CaR w F c A B) (h1 : c.wk.length ≤ 1000000) (h2 : c.cl.length ≤ 1000000) : Calls Tryz.prog 54 #[.agg (caA c A B k m)] w (CopC c w) := by
  have HC := Lib.hid (fun w1 (t : Touch (fun _ => False) w w1) => sclone_any F A k c.wk w1 (hr.wk.touch t (fun _ _ e => e)) h1)
  have HD := Lib.hid (fun w1 (t : Touch (fun _ => False) w w1) => sclone_any F B m c.cl w1 (hr.cl.touch t (fun _ _ e => e)) h2)
  unfold NewSpan at HC HD
  obtain ⟨W0, hW0⟩ : ∃ W0, W0 = (w.alloc (.cells (caA c A B k m) 51)).alloc (.cells #[.int .i64 0, .slice none 0 0, .slice none 0 0] 51) := ⟨_, rfl⟩
  obtain ⟨W2, hW2⟩ : ∃ W2, W2 = W0.drew := ⟨_, rfl⟩
  have HT := Lib.hid (show Touch (fun _ => False) w W2 from hW2 ▸ hW0 ▸ (((Touch.refl _ w).alloc _).alloc _).drew)
  have HB := Lib.hid (show Blk W2 w.heap.size 51 (caA c A B k m) from hW2 ▸ hW0 ▸ (Touch.refl (fun _ => False) _).drew.blk ((Blk.new w _ _).alloc _) (fun e => e))
  have HZ := Lib.hid (show Blk W2 (w.heap.size + 1) 51 #[.int .i64 0, .slice none 0 0, .slice none 0 0] from hW2 ▸ hW0 ▸ (Touch.refl (fun _ => False) _).drew.blk (by simpa using Blk.new (w.alloc (.cells (caA c A B k m) 51)) 51 #[.int .i64 0, .slice none 0 0, .slice none 0 0]) (fun e => e))
  have HW0 := Lib.hid hW0
  have hz0 : w.heap.size + 2 ≤ W2.heap.size := by have := HZ.out.lt; omega
  have HK := Lib.hid (show (caA c A B k m)[1]? = some (.slice A c.wk.length k) ∧ (caA c A B k m)[2]? = some (.slice B c.cl.length m) from ⟨rfl, rfl⟩)
  have HE := Lib.hid (fun A1 k1 B1 m1 => (show ((caA c A B k m).setIfInBounds 1 (.slice A1 c.wk.length k1)).setIfInBounds 2 (.slice B1 c.cl.length m1) = caA c A1 B1 k1 m1 by simp [caA]))
  have HZn := Lib.hid (show (#[.int .i64 0, .slice none 0 0, .slice none 0 0] : Array Value).size = 3 from rfl)
  have HCn := Lib.hid (fun A1 B1 k1 m1 => (show (caA c A1 B1 k1 m1).size = 3 from rfl))
  have HC1 := Lib.hid (fun A1 B1 k1 m1 => caA_one c A1 B1 k1 m1)
  unfold CopC
  have q1 := HB.out.cell 1
  rw [HK.out.1] at q1
  obtain ⟨CA, hCA⟩ : ∃ CA : Option Addr → Option Addr → Nat → Nat → Array Value, CA = caA c := ⟨_, rfl⟩
  rw [← hCA] at HB HW0 HK HE HCn HC1 ⊢
  generalize CA A B k m = C0 at *
  generalize hl1 : c.wk.length = l1 at *
  generalize hl2 : c.cl.length = l2 at *
  have HL := Lib.hid (And.intro hl1 hl2)
  clear hr hCA hl1 hl2 hW0
  go_enter Tryz.func54, Tryz.ntmps54
  go_wp2_with fail
  rw [← HW0.out]
  refine wp_region_plan [(0, 0), (0, 1), (1, 3), (1, 4), (2, 2), (1, 6), (2, 5), (3, 7), (0, 8), (3, 9)] (fun _ => False) (by kernel_rfl) (by kernel_rfl) (fun c a d v w h => by cases d <;> exact h) ?_
  rw [← hW2]
  clear hW2
  iterate 2
    refine plan_s1 rfl (by rfl) (fun Kc hKc => ?_)
    go_simp
    first
      | (refine hKc _ ?_)
    clear hKc Kc
  iterate 1
    apply plan_h
    · rfl
    · rfl
    · intro wh hT
      go_simp
      try rfl
    go_frame
  iterate 1
    apply plan_h
    · rfl
    · rfl
    · intro wh hT
      have hf0 := show wh.cell? ⟨w.heap.size, 2, none⟩ = some (.slice B l2 m) from ((hT.blk HB.out (fun e => e)).cell 2).trans HK.out.2
      go_simp
      try rfl
    go_frame
  clear q1
  refine plan_a1 rfl (by rfl) (fun Kc hKc => ?_)
  go_simp
  refine (HC.out _ (by exact HT.out)).mono ?_
  rintro e w3 ⟨A1, k1, rfl, -, -, -, hs3, t3⟩
  refine hKc _ _ ⟨t3, ?_⟩
  clear hKc Kc
  have HS3 := Lib.hid hs3
  have HT3 := Lib.hid (HT.out.trans t3 (fun _ _ e => e))
  have HT23 := Lib.hid t3
  clear hs3 t3
  iterate 1
    apply plan_h
    · rfl
    · rfl
    · intro wh hT
      go_simp
      try rfl
    go_frame
  refine plan_a1 rfl (by rfl) (fun Kc hKc => ?_)
  go_simp
  refine (HD.out _ (by exact HT3.out)).mono ?_
  rintro e w4 ⟨B1, m1, rfl, -, -, -, hs4, t4⟩
  refine hKc _ _ ⟨t4, ?_⟩
  clear hKc Kc
  have HS4 := Lib.hid hs4
  have HT4 := Lib.hid (HT3.out.trans t4 (fun _ _ e => e))
  have HT34 := Lib.hid t4
  have hb4 := (HT23.out.trans t4 (fun _ _ e => e)).blk HB.out (fun e => e)
  have x1 := hb4.cell 1
  have x2 := hb4.cell 2
  have f1 := hb4.frozen 1
  have f2 := hb4.frozen 2
  rw [HK.out.1] at x1
  rw [HK.out.2] at x2
  have hbs := (hb4.set_ 1 (.slice A1 l1 k1)).set_ 2 (.slice B1 l2 m1)
  rw [HE.out] at hbs
  have ts := ((Touch.refl (fun q => q = w.heap.size) w4).set (b := w.heap.size) (o := 1) (fun _ => rfl) (.slice A1 l1 k1)).set (b := w.heap.size) (o := 2) (fun _ => rfl) (.slice B1 l2 m1)
  have HBs := Lib.hid hbs
  have HTs := Lib.hid ts
  have HZs := Lib.hid (ts.blk ((HT23.out.trans t4 (fun _ _ e => e)).blk HZ.out (fun e => e)) (by omega))
  have HN1 := Lib.hid (HCn.out A1 B1 k1 m1)
  have H11 := Lib.hid (HC1.out A1 B1 k1 m1)
  clear hs4 t4 hb4 hbs ts
  refine plan_b1 rfl (by rfl) (fun Kc hKc => ?_)
  go_simp
  refine hKc _ _ ?_
  clear hKc Kc
  iterate 1
    refine plan_s1 rfl (by rfl) (fun Kc hKc => ?_)
    go_simp
    first
      | (refine hKc _ ?_)
    clear hKc Kc
  refine plan_b1 rfl (by rfl) (fun Kc hKc => ?_)
  go_simp
  refine hKc _ _ ?_
  clear hKc Kc
  refine plan_done ?_
  clear x1 x2 f1 f2
  go_wp2_with (first
    | ((with_reducible apply HBs.out.ld rowCa HN1.out); exact rfl; exact rfl; exact rfl)
    | ((with_reducible apply HZs.out.st rowCa HZn.out HN1.out H11.out); exact rfl; exact rfl; exact rfl; exact rfl
       intro w5 hb5 t5
       have HB5 := Lib.hid hb5
       have HT5 := Lib.hid t5
       clear hb5 t5))
  refine bodyPost_ret (results_cell1 2 rowCa HN1.out (HB5.out.whole) rfl rfl) rfl ?_
  have tt := (HTs.out.mono (S' := fun q => q = w.heap.size ∨ q = w.heap.size + 1) (fun _ _ e => .inl e)).trans HT5.out (fun _ _ e => .inr e)
  have z3 := HT23.out.size
  have z4 := HT34.out.size
  obtain ⟨hl1, hl2⟩ := HL.out
  refine ⟨A1, B1, k1, m1, rfl, ⟨?_, ?_⟩, HT4.out.trans tt (fun q hq e => by omega)⟩
  · rw [hl1]
    exact (((HS3.out.near.touch HT34.out (fun _ _ e => e)).touch tt (fun q hq e => by have := hq.1; omega))).mono (fun q hq => ⟨by have := hq.1; omega, by have := hq.2; have := tt.size; omega⟩)
  · rw [hl2]
    exact (HS4.out.near.touch tt (fun q hq e => by have := hq.1; omega)).mono (fun q hq => ⟨by have := hq.1; omega, by have := hq.2; have := tt.size; omega⟩)
theorem CalM.store {w : World} {b1 : Nat} {S : Shl} {x : Int → Nat} {R Y : Nat → Prop} (h : CalM w b1 S x R Y) (ok : S.Ok) {n : Int} (hn : 0 ≤ n ∧ n < 8) (c : Ca) (A B : Option Addr) (k m xn : Nat) (R' : Nat → Prop) (hR : ∀ q, R q → R' q) (hRb : ∀ q, R' q → q ≠ b1) (hYb : ∀ q, Y q → q ≠ b1) (hxb : ∀ i c, S.cal i = some c → x i ≠ b1) (hd : ∀ q, Y q → ¬ R' q) (hr : CaR w R' c A B) (hl : LkAt w xn c R' Y) (hxn : xn ≠ b1) :
    ∃ w', (Instr.mapUpdate 73 (.map (some b1)) (.int .i64 n) (.agg (layA c A B k m xn))).run Tryz.prog w = .ok () w' ∧ CalM w' b1 (S.lay n c) (fun i => if i = n then xn else x i) R' Y ∧ Touch (fun q => q = b1) w w' := by
  obtain ⟨f, hm, hs⟩ := h
  obtain ⟨w', hrun, hm', ht⟩ := hm.store lawN Tryz.underlying73 (by omega) (keyN (show inN n by unfold inN; omega)) (.agg (layA c A B k m xn))
  refine ⟨w', hrun, ⟨setV f (.int .i64 n) (.agg (layA c A B k m xn)), ?_, fun i hi => ?_⟩, ht⟩
  · refine hm'.tight lawN key8 (fun kl hk hsm => ?_)
    obtain ⟨i, hi, rfl⟩ := keysN hk
    by_cases e : i = n
    · subst e; exact mem_key8 hn
    · have e' : ¬ (Lit.int .i64 i) = Lit.int .i64 n := fun e' => e (by injection e')
      simp only [setV, if_neg e'] at hsm
      cases hc : S.cal i with
      | none => rw [(hs i hi).1 hc] at hsm; cases hsm
      | some d => exact mem_key8 (ok.cal i d hc).1
  · by_cases e : i = n
    · subst e
      simp only [Shl.lay, setV, if_true]
      exact ⟨(fun h => by cases h), fun c' h => by injection h with h; subst h; exact ⟨A, B, k, m, rfl, hr.touch ht hRb, hl.touch ht hxn hRb hYb⟩⟩
    · have e' : ¬ (Lit.int .i64 i) = Lit.int .i64 n := fun e' => e (by injection e')
      simp only [Shl.lay, setV, if_neg e, if_neg e']
      refine ⟨(hs i hi).1, fun c' hc => ?_⟩
      obtain ⟨A', B', k', m', h1, h2, h3⟩ := (hs i hi).2 c' hc
      exact ⟨A', B', k', m', h1, CaR.touch ⟨h2.wk.mono hR, h2.cl.mono hR⟩ ht hRb, (h3.mono hR (fun _ h => h) hd).touch ht (hxb i c' hc) hRb hYb⟩
theorem ConM.store {w : World} {b2 : Nat} {S : Shl} {R : Nat → Prop} (h : ConM w b2 S R) (ok : S.Ok) {n : Int} (hn : 0 ≤ n ∧ n < 16) (c : Co) (A : Option Addr) (k : Nat) (R' : Nat → Prop) (hR : ∀ q, R q → R' q) (hRb : ∀ q, R' q → q ≠ b2) (hr : SpR w R' A c.lv.length c.lv) :
    ∃ w', (Instr.mapUpdate 74 (.map (some b2)) (.int .i64 n) (.agg (conA c A k))).run Tryz.prog w = .ok () w' ∧ ConM w' b2 (S.sig n c) R' ∧ Touch (fun q => q = b2) w w' := by
  obtain ⟨f, hm, hs⟩ := h
  obtain ⟨w', hrun, hm', ht⟩ := hm.store lawN Tryz.underlying74 (by omega) (keyN (show inN n by unfold inN; omega)) (.agg (conA c A k))
  refine ⟨w', hrun, ⟨setV f (.int .i64 n) (.agg (conA c A k)), ?_, fun i hi => ?_⟩, ht⟩
  · refine hm'.tight lawN key16 (fun kl hk hsm => ?_)
    obtain ⟨i, hi, rfl⟩ := keysN hk
    by_cases e : i = n
    · subst e; exact mem_key16 hn
    · have e' : ¬ (Lit.int .i64 i) = Lit.int .i64 n := fun e' => e (by injection e')
      simp only [setV, if_neg e'] at hsm
      cases hc : S.con i with
      | none => rw [(hs i hi).1 hc] at hsm; cases hsm
      | some d => exact mem_key16 (ok.con i d hc).1
  · by_cases e : i = n
    · subst e
      simp only [Shl.sig, setV, if_true]
      exact ⟨(fun h => by cases h), fun c' h => by injection h with h; subst h; exact ⟨A, k, rfl, hr.touch ht hRb⟩⟩
    · have e' : ¬ (Lit.int .i64 i) = Lit.int .i64 n := fun e' => e (by injection e')
      simp only [Shl.sig, setV, if_neg e, if_neg e']
      refine ⟨(hs i hi).1, fun c' hc => ?_⟩
      obtain ⟨A', k', h1, h2⟩ := (hs i hi).2 c' hc
      exact ⟨A', k', h1, (h2.mono hR).touch ht hRb⟩
end Go.Proofs.YtlcefchbfjfifaaGreat
