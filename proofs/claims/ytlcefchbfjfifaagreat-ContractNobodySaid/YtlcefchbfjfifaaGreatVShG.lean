/- contract.Shelf.Terms, Clock. -/
import Derived.Test.YtlcefchbfjfifaaGreatVShF
namespace Go.Proofs.YtlcefchbfjfifaaGreat
open Go.RowKit Cal Go.Maps
set_option maxHeartbeats 4000000
set_option maxRecDepth 100000
set_option linter.unusedVariables false
attribute [local irreducible] wpPlan

def termsV (S : Shl) (n : Int) : Co := (S.con n).getD conZ
theorem ConM.lookV {w : World} {b2 : Nat} {S : Shl} {R : Nat → Prop} (h : ConM w b2 S R) {n : Int} (hn : inN n) :
    ∃ A k, SpR w R A (termsV S n).lv.length (termsV S n).lv ∧ (Instr.lookup 74 (.map (some b2)) (.int .i64 n) true).run Tryz.prog w = .ok (.tuple #[.agg (conA (termsV S n) A k), .bool (S.con n).isSome]) w := by
  unfold termsV
  cases hc : S.con n with
  | none => exact ⟨none, 0, SpR.nil _ _ _, h.look hn hc⟩
  | some c =>
    obtain ⟨A, k, h1, h2⟩ := h.look1 hn hc
    exact ⟨A, k, h1, h2⟩
theorem termsV_len {S : Shl} (ok : S.Ok) (n : Int) : (termsV S n).lv.length ≤ 6 := by
  unfold termsV
  cases hc : S.con n with
  | none => decide
  | some c => have := good_hd (ok.con n c hc).2.1; show c.lv.length ≤ 6; omega
/-- What Terms tells. -/
def TerP (S : Shl) (n : Int) (w : World) (e : Ending) (w' : World) : Prop :=
  ∃ A k, e = .returned (.tuple #[.agg (conA (termsV S n) A k), .bool (S.con n).isSome]) ∧ SpR w' (fun q => w.heap.size ≤ q ∧ q < w'.heap.size) A (termsV S n).lv.length (termsV S n).lv ∧ Touch (fun _ => False) w w'
theorem hterms_any {w : World} {g b1 b2 : Nat} {S : Shl} {x : Int → Nat} {R X Y : Nat → Prop} (h : ShAt w g b1 b2 S x R X Y) (n : Int) (hn : inN n) :
    Calls Tryz.prog 27 #[.pointer (some ⟨g, 0, none⟩), .int .i64 n] w (TerP S n w) := by
  obtain ⟨W0, hW0⟩ : ∃ W0, W0 = w.alloc (.cells #[.int .i64 0, .slice none 0 0, .int .i64 0, .int .i64 0] 24) := ⟨_, rfl⟩
  have HT0 := Lib.hid (show Touch (fun _ => False) w W0 from hW0 ▸ (Touch.refl _ w).alloc _)
  have HW0 := Lib.hid hW0
  have HZ := Lib.hid (show Blk W0 w.heap.size 24 #[.int .i64 0, .slice none 0 0, .int .i64 0, .int .i64 0] from hW0 ▸ Blk.new w _ _)
  have h0 := h.far HT0.out
  have HN := Lib.hid (hnone_any h0)
  have q1 := h0.blk.cell 1
  simp at q1
  obtain ⟨A3, k3, hr3, hlk⟩ := h0.m2.lookV hn
  have hlen := termsV_len h.ok n
  have HZ0 := Lib.hid (show W0.heap.size = w.heap.size + 1 by rw [hW0]; simp)
  have HCo := Lib.hid (fun w1 (t : Touch (fun _ => False) W0 w1) => kcopy_any R A3 k3 (termsV S n) w1 (hr3.touch t (fun _ _ e => e)) (by omega))
  unfold CopK at HCo
  have HN0 := Lib.hid (Blk.new W0 24 #[.int .i64 0, .slice none 0 0, .int .i64 0, .int .i64 0])
  have HTa := Lib.hid ((Touch.refl (fun _ => False) W0).alloc (.cells #[.int .i64 0, .slice none 0 0, .int .i64 0, .int .i64 0] 24))
  have HZn := Lib.hid (show (#[.int .i64 0, .slice none 0 0, .int .i64 0, .int .i64 0] : Array Value).size = 4 from rfl)
  have HCn := Lib.hid (fun A1 c1 => (show (conA (termsV S n) A1 c1).size = 4 from rfl))
  have HC1 := Lib.hid (fun A1 c1 => conA_one (termsV S n) A1 c1)
  unfold TerP
  obtain ⟨CA, hCA⟩ : ∃ CA : Option Addr → Nat → Array Value, CA = conA (termsV S n) := ⟨_, rfl⟩
  rw [← hCA] at hlk HCo HCn HC1 ⊢
  have HCA := Lib.hid (HCn.out A3 k3)
  have HCB := Lib.hid (HC1.out A3 k3)
  generalize CA A3 k3 = C0 at *
  generalize (termsV S n).lv = lv at *
  generalize (S.con n).isSome = bs at *
  clear h h0 hr3 hW0 hCA hlen
  go_enter Tryz.func27, Tryz.ntmps27
  go_wp2_with fail
  rw [← HW0.out]
  go_wp2_with (first
    | (go_at_call 52; go_must (refine HN.out.mono ?_); rintro e w1 ⟨rfl, rfl⟩)
    | ((with_reducible apply HN0.out.st rowCo HZn.out HCA.out HCB.out); exact rfl; exact rfl; exact rfl; exact rfl
       intro w2 hb2 t2
       have HB2 := Lib.hid hb2
       have HT2 := Lib.hid (HTa.out.trans t2 (S := fun _ => False) (fun k hk e => by omega))
       clear hb2 t2)
    | ((with_reducible apply HB2.out.ld rowCo HCA.out); exact rfl; exact rfl; exact rfl)
    | (go_at_call 13; go_must (refine (HCo.out _ (by exact HT2.out)).mono ?_); rintro e w3 ⟨A5, k5, rfl, hs3, t3⟩
       have HS3 := Lib.hid hs3
       have HT3 := Lib.hid (HT2.out.trans t3 (fun _ _ e => e))
       have HZ3 := Lib.hid ((HT2.out.trans t3 (fun _ _ e => e)).blk HZ.out (fun e => e))
       have HN5 := Lib.hid (HCn.out A5 k5)
       have H15 := Lib.hid (HC1.out A5 k5)
       clear hs3 t3)
    | ((with_reducible apply HZ3.out.st rowCo HZn.out HN5.out H15.out); exact rfl; exact rfl; exact rfl; exact rfl
       intro w4 hb4 t4
       have HB4 := Lib.hid hb4
       have HT4 := Lib.hid t4
       clear hb4 t4))
  refine bodyPost_ret (results_cell2 4 5 rowCo HN5.out (HB4.out.whole) rfl rfl) rfl ?_
  have z2 := HT2.out.size
  have hz0 := HZ0.out
  refine ⟨A5, k5, by simp, (HS3.out.touch HT4.out (fun q hq e => by omega)).mono (fun q hq => ⟨by omega, by have := HT4.out.size; omega⟩), (HT0.out.trans HT3.out (fun _ _ e => e)).trans HT4.out (fun q hq e => by omega)⟩
theorem CalM.got {w w' : World} {b1 : Nat} {S : Shl} {x : Int → Nat} {R Y : Nat → Prop} (h : CalM w b1 S x R Y) {i0 : Int} {d : Ca} (hd : S.cal i0 = some d) (t : Touch (fun q => q = x i0) w w') (hb : b1 ≠ x i0) (hR : ∀ q, R q → q ≠ x i0) (hY : ∀ q, Y q → q ≠ x i0) (hinj : ∀ i c, S.cal i = some c → x i = x i0 → i = i0) (R' Y' : Nat → Prop) (hRR : ∀ q, R q → R' q) (hYY : ∀ q, Y q → Y' q) (hdis : ∀ q, Y' q → ¬ R' q) (hl : LkAt w' (x i0) d R' Y') : CalM w' b1 S x R' Y' := by
  obtain ⟨f, hm, hs⟩ := h
  refine ⟨f, hm.touch t hb, fun i hi => ⟨(hs i hi).1, fun c hc => ?_⟩⟩
  obtain ⟨A, B, k, m, h1, h2, h3⟩ := (hs i hi).2 c hc
  refine ⟨A, B, k, m, h1, CaR.touch ⟨h2.wk.mono (fun q hq => (show R' q ∧ R q from ⟨hRR q hq, hq⟩)), h2.cl.mono (fun q hq => ⟨hRR q hq, hq⟩)⟩ t (fun q hq => hR q hq.2) |> fun hh => ⟨hh.wk.mono (fun q hq => hq.1), hh.cl.mono (fun q hq => hq.1)⟩, ?_⟩
  by_cases e : i = i0
  · subst e
    rw [hd] at hc
    injection hc with hc
    subst hc
    exact hl
  · exact (h3.touch t (fun e' => e (hinj i c hc e')) hR hY).mono hRR hYY (fun q hq => hdis q (hYY q hq))
/-- What Clock leaves where there is one. -/
def HckP (g b1 b2 : Nat) (S : Shl) (x : Int → Nat) (R X Y : Nat → Prop) (d : Ca) (xc : Nat) (w : World) (e : Ending) (w' : World) : Prop :=
  ∃ k a p b R' Y', e = .returned (.tuple #[.pointer (some ⟨k, 0, none⟩), .bool true]) ∧ ShAt w' g b1 b2 S x R' X Y' ∧ CkAt w' k a p b d R' ∧ Y' b ∧ (∀ q, R' q → R q ∨ (w.heap.size ≤ q ∧ q < w'.heap.size)) ∧ (∀ q, Y' q → Y q ∨ (w.heap.size ≤ q ∧ q < w'.heap.size)) ∧ Touch (fun q => q = xc) w w'
theorem hclock_yes {w : World} {g b1 b2 : Nat} {S : Shl} {x : Int → Nat} {R X Y : Nat → Prop} (h : ShAt w g b1 b2 S x R X Y) (n : Int) (hn : inN n) {c : Co} (hc : S.con n = some c) {d : Ca} (hd : S.cal c.cal = some d) :
    Calls Tryz.prog 32 #[.pointer (some ⟨g, 0, none⟩), .int .i64 n] w (HckP g b1 b2 S x R X Y d (x c.cal) w) := by
  have HTe := Lib.hid (hterms_any h n hn)
  unfold TerP termsV at HTe
  rw [hc] at HTe
  simp only [Option.getD_some, Option.isSome_some] at HTe
  have HH := Lib.hid h
  have hcal := good_hd (h.ok.con n c hc).2.1
  have hcn : inN c.cal := by unfold inN; omega
  have hxX := h.xX _ d hd
  have hxl : x c.cal < w.heap.size := h.lt _ (.inr (.inl hxX))
  obtain ⟨xc, hxc⟩ : ∃ xc, xc = x c.cal := ⟨_, rfl⟩
  have HXc := Lib.hid hxc
  have HD := Lib.hid (And.intro hd (h.ok.cal _ d hd).2)
  have hgl := h.gl
  rw [← hxc] at hxX hxl ⊢
  unfold conA at HTe
  clear hxc hc h
  go_enter Tryz.func32, Tryz.ntmps32
  go_wp2_with (go_at_call 27; go_must (refine HTe.out.mono ?_); rintro e w1 ⟨A1, k1, rfl, -, t1⟩; have HT1 := Lib.hid t1; clear t1)
  obtain ⟨W2, hW2⟩ : ∃ W2, W2 = (w1.alloc (.cells #[.int .i64 c.cal, .slice A1 c.lv.length k1, .int .i64 c.rt, .int .i64 c.bk] 24)).drew := ⟨_, rfl⟩
  have HT2 := Lib.hid (show Touch (fun _ => False) w W2 from hW2 ▸ (HT1.out.alloc _).drew)
  have h2 := HH.out.far HT2.out
  have HH2 := Lib.hid h2
  have q0 := h2.blk.cell 0
  simp at q0
  have y0 : W2.cell? ⟨w1.heap.size, 0, none⟩ = some (.int .i64 c.cal) := hW2 ▸ ((Touch.refl (fun _ => False) _).drew.blk (Blk.new w1 24 #[.int .i64 c.cal, .slice A1 c.lv.length k1, .int .i64 c.rt, .int .i64 c.bk]) (fun e => e)).cell 0
  obtain ⟨A2, B2, k2, m2, -, hlz, -, hlk⟩ := h2.m1.look1 hcn HD.out.1
  rw [← HXc.out] at hlz hlk
  unfold layA at hlk
  have hfd : ∀ w : World, (Instr.field 113 (.agg #[.int .i64 d.off, .slice A2 d.wk.length k2, .slice B2 d.cl.length m2, .pointer (some ⟨xc, 0, none⟩)]) 1).run Tryz.prog w = .ok (.pointer (some ⟨xc, 0, none⟩)) w := fun _ => by kernel_rfl
  have HGe := Lib.hid (getK_any xc d R Y W2 hlz (check_ok HD.out.2) (HH.out.dXR _ hxX) (HH.out.dXY _ hxX) HH.out.dYR (fun q hq => h2.lt q (.inl hq)) (fun q hq => h2.lt q (.inr (.inr hq))))
  unfold GetK at HGe
  have hz2 := HT2.out.size
  clear h2 hlz
  refine wp_region_plan [(0, 0), (0, 1), (0, 2), (0, 3), (0, 4), (0, 5), (0, 6), (0, 7), (2, 8), (0, 9), (0, 10)] (fun q => q = xc) (by kernel_rfl) (by kernel_rfl) (fun c a d v w h => by cases d <;> exact h) ?_
  rw [← hW2]
  clear hW2
  iterate 8
    refine plan_s1 rfl (by rfl) (fun Kc hKc => ?_)
    go_simp
    first
      | (refine hKc _ ?_)
    clear hKc Kc
  clear hlk y0 q0 hfd
  refine plan_a1 rfl (by rfl) (fun Kc hKc => ?_)
  go_simp
  refine HGe.out.mono ?_
  rintro e w3 ⟨k, a, p, b, G', Y', rfl, hlz, hk, hb, hG, hY, hd1, hd2, t3⟩
  refine hKc _ _ ⟨t3, ?_⟩
  clear hKc Kc
  have HQ := Lib.hid (And.intro hlz (And.intro hk hb))
  have HG := Lib.hid (And.intro hG (And.intro hY (And.intro hd1 hd2)))
  have HT3 := Lib.hid t3
  clear hlz hk hb hG hY hd1 hd2 t3
  iterate 2
    refine plan_s1 rfl (by rfl) (fun Kc hKc => ?_)
    go_simp
    first
      | (refine hKc _ ?_)
    clear hKc Kc
  refine plan_done ?_
  go_wp2_with fail
  refine bodyPost_ret (v := .tuple #[.pointer (some ⟨k, 0, none⟩), .bool true]) (by simp [results, Tryz.results32, go_sem]) rfl ?_
  obtain ⟨hlz, hk, hb⟩ := HQ.out
  obtain ⟨hG, hY, hd1, hd2⟩ := HG.out
  have hz3 := HT3.out.size
  have H := HH2.out
  have hlt : ∀ q, R q ∨ X q ∨ Y q → q < W2.heap.size := H.lt
  have hdis : ∀ q, Y q ∨ Y' q → ¬ (R q ∨ G' q) := by
    intro q hq e
    rcases hq with hq | hq
    · rcases e with e | e
      · exact H.dYR q hq e
      · rcases hG q e with e | e
        · exact H.dYR q hq e
        · have := hlt q (.inr (.inr hq)); omega
    · rcases e with e | e
      · rcases hY q hq with h | h
        · exact H.dYR q h e
        · have := hlt q (.inl e); omega
      · exact hd1 q hq e
  have hRr : ∀ q, R q ∨ G' q → R q ∨ (w.heap.size ≤ q ∧ q < w3.heap.size) := fun q hq => by
    rcases hq with hq | hq
    · exact .inl hq
    · rcases hG q hq with h | h
      · exact .inl h
      · exact .inr (by omega)
  have hYr : ∀ q, Y q ∨ Y' q → Y q ∨ (w.heap.size ≤ q ∧ q < w3.heap.size) := fun q hq => by
    rcases hq with hq | hq
    · exact .inl hq
    · rcases hY q hq with h | h
      · exact .inl h
      · exact .inr (by omega)
  have hm : CalM w3 b1 S x (fun q => R q ∨ G' q) (fun q => Y q ∨ Y' q) := by
    have hx := HXc.out
    subst hx
    exact H.m1.got HD.out.1 HT3.out (fun e => H.o1 (.inr (.inl (e ▸ hxX)))) (fun q hq e => H.dXR _ hxX (e ▸ hq)) (fun q hq e => H.dXY _ hxX (e ▸ hq)) (fun i c' hc' e => H.inj i _ c' d hc' HD.out.1 e) _ _ (fun q hq => .inl hq) (fun q hq => .inl hq) hdis (hlz.mono (fun q hq => .inr hq) (fun q hq => .inr hq) (fun q hq => hdis q (.inr hq)))
  have hout : ∀ q, q < W2.heap.size → ¬ (R q ∨ X q ∨ Y q) → ¬ ((R q ∨ G' q) ∨ X q ∨ (Y q ∨ Y' q)) := by
    intro q hq hn e
    rcases e with (e | e) | e | (e | e)
    · exact hn (.inl e)
    · rcases hG q e with e | e
      · exact hn (.inl e)
      · omega
    · exact hn (.inr (.inl e))
    · exact hn (.inr (.inr e))
    · rcases hY q e with e | e
      · exact hn (.inr (.inr e))
      · omega
  have hgl := H.gl
  have h1l := H.m1.lt
  have h2l := H.m2.lt
  refine ⟨k, a, p, b, fun q => R q ∨ G' q, fun q => Y q ∨ Y' q, rfl, ⟨HT3.out.blk H.blk (fun e => H.og (.inr (.inl (e ▸ hxX)))), hm, (H.m2.touch HT3.out (fun e => H.o2 (.inr (.inl (e ▸ hxX)))) (fun q hq e => H.dXR _ hxX (e ▸ hq))).mono rfl (fun q hq => .inl hq), H.ok, H.xX, H.inj, fun q hq => ?_, fun q hq e => ?_, hdis, fun q hq e => ?_, hout g hgl H.og, hout b1 h1l H.o1, hout b2 h2l H.o2, H.ne⟩, hk.grow (fun q hq => .inr hq) (hdis b (.inr hb)), .inr hb, hRr, hYr, (HT2.out.mono (fun _ _ e => e.elim)).trans HT3.out (fun _ _ e => e)⟩
  · rcases hq with hq | hq | hq
    · rcases hRr q hq with h | h
      · have := hlt q (.inl h); omega
      · omega
    · have := hlt q (.inr (.inl hq)); omega
    · rcases hYr q hq with h | h
      · have := hlt q (.inr (.inr h)); omega
      · omega
  · rcases e with e | e
    · exact H.dXR q hq e
    · rcases hG q e with e | e
      · exact H.dXR q hq e
      · have := hlt q (.inr (.inl hq)); omega
  · rcases e with e | e
    · exact H.dXY q hq e
    · rcases hY q e with e | e
      · exact H.dXY q hq e
      · have := hlt q (.inr (.inl hq)); omega
end Go.Proofs.YtlcefchbfjfifaaGreat
