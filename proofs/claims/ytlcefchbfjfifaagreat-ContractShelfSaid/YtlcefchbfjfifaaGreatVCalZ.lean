/- contract.Shelf.Terms, Clock. A region that draws its order, in the round of a range over a function: walked by a plan. What calls leave as it lay. No program in sight. almanac.Free: what lies free of the closed spans, handed out one by one. almanac.Lost at a clock's weekly; calendar.Elapsed, Rest. calendar.Elapsed, Rest. -/
import Derived.Test.YtlcefchbfjfifaaGreatVShF
import Derived.Test.YtlcefchbfjfifaaGreatVPlan
import Derived.RangeFuncNested
import Derived.RangeFuncBound
import Derived.RangeFuncCalls
import Derived.RangeFuncLeaves
import Derived.OwnWalkIn
import Derived.TacticsInMore
import Derived.LoopNIn
import Derived.LoopIn
import Derived.Test.YtlcefchbfjfifaaGreatVCalJ
import Derived.Test.YtlcefchbfjfifaaGreatVCalW
section
namespace Go.Proofs.YtlcefchbfjfifaaGreat
open Go.RowKit Cal Go.Maps
set_option maxHeartbeats 4000000
set_option maxRecDepth 100000
set_option linter.unusedVariables false
attribute [local irreducible] wpPlan

def termsV (S : Shl) (n : Int) : Co := (S.con n).getD conZ
theorem ConM.lookV {w : World} {b2 : Nat} {S : Shl} {R : Nat → Prop} (h : ConM w b2 S R) {n : Int} (hn : inN n) :
    ∃ A k, SpR w R A (termsV S n).lv.length (termsV S n).lv ∧ (Instr.lookup 74 (.map (some b2)) (.int .i64 n) true).run Tryz.prog w = .ok (.tuple #[.agg (conA (termsV S n) A k), .bool (S.con n).isSome]) w := by
  unfold termsV
  cases hc : S.con n with
  | none => exact ⟨none, 0, SpR.nil _ _ _, h.look hn hc⟩
  | some c =>
    obtain ⟨A, k, h1, h2⟩ := h.look1 hn hc
    exact ⟨A, k, h1, h2⟩
theorem termsV_len {S : Shl} (ok : S.Ok) (n : Int) : (termsV S n).lv.length ≤ 6 := by
  unfold termsV
  cases hc : S.con n with
  | none => decide
  | some c => have := good_hd (ok.con n c hc).2.1; show c.lv.length ≤ 6; omega
/-- What Terms tells. -/
def TerP (S : Shl) (n : Int) (w : World) (e : Ending) (w' : World) : Prop :=
  ∃ A k, e = .returned (.tuple #[.agg (conA (termsV S n) A k), .bool (S.con n).isSome]) ∧ SpR w' (fun q => w.heap.size ≤ q ∧ q < w'.heap.size) A (termsV S n).lv.length (termsV S n).lv ∧ Touch (fun _ => False) w w'
theorem hterms_any {w : World} {g b1 b2 : Nat} {S : Shl} {x : Int → Nat} {R X Y : Nat → Prop} (h : ShAt w g b1 b2 S x R X Y) (n : Int) (hn : inN n) :
    Calls Tryz.prog 27 #[.pointer (some ⟨g, 0, none⟩), .int .i64 n] w (TerP S n w) := by
  obtain ⟨W0, hW0⟩ : ∃ W0, W0 = w.alloc (.cells #[.int .i64 0, .slice none 0 0, .int .i64 0, .int .i64 0] 24) := ⟨_, rfl⟩
  have HT0 := Lib.hid (show Touch (fun _ => False) w W0 from hW0 ▸ (Touch.refl _ w).alloc _)
  have HW0 := Lib.hid hW0
  have HZ := Lib.hid (show Blk W0 w.heap.size 24 #[.int .i64 0, .slice none 0 0, .int .i64 0, .int .i64 0] from hW0 ▸ Blk.new w _ _)
  have h0 := h.far HT0.out
  have HN := Lib.hid (hnone_any h0)
  have q1 := h0.blk.cell 1
  simp at q1
  obtain ⟨A3, k3, hr3, hlk⟩ := h0.m2.lookV hn
  have hlen := termsV_len h.ok n
  have HZ0 := Lib.hid (show W0.heap.size = w.heap.size + 1 by rw [hW0]; simp)
  have HCo := Lib.hid (fun w1 (t : Touch (fun _ => False) W0 w1) => kcopy_any R A3 k3 (termsV S n) w1 (hr3.touch t (fun _ _ e => e)) (by omega))
  unfold CopK at HCo
  have HN0 := Lib.hid (Blk.new W0 24 #[.int .i64 0, .slice none 0 0, .int .i64 0, .int .i64 0])
  have HTa := Lib.hid ((Touch.refl (fun _ => False) W0).alloc (.cells #[.int .i64 0, .slice none 0 0, .int .i64 0, .int .i64 0] 24))
  have HZn := Lib.hid (show (#[.int .i64 0, .slice none 0 0, .int .i64 0, .int .i64 0] : Array Value).size = 4 from rfl)
  have HCn := Lib.hid (fun A1 c1 => (show (conA (termsV S n) A1 c1).size = 4 from rfl))
  have HC1 := Lib.hid (fun A1 c1 => conA_one (termsV S n) A1 c1)
  unfold TerP
  obtain ⟨CA, hCA⟩ : ∃ CA : Option Addr → Nat → Array Value, CA = conA (termsV S n) := ⟨_, rfl⟩
  rw [← hCA] at hlk HCo HCn HC1 ⊢
  have HCA := Lib.hid (HCn.out A3 k3)
  have HCB := Lib.hid (HC1.out A3 k3)
  generalize CA A3 k3 = C0 at *
  generalize (termsV S n).lv = lv at *
  generalize (S.con n).isSome = bs at *
  clear h h0 hr3 hW0 hCA hlen
  go_enter Tryz.func27, Tryz.ntmps27
  go_wp2_with fail
  rw [← HW0.out]
  go_wp2_with (first
    | (go_at_call 52; go_must (refine HN.out.mono ?_); rintro e w1 ⟨rfl, rfl⟩)
    | ((with_reducible apply HN0.out.st rowCo HZn.out HCA.out HCB.out); exact rfl; exact rfl; exact rfl; exact rfl
       intro w2 hb2 t2
       have HB2 := Lib.hid hb2
       have HT2 := Lib.hid (HTa.out.trans t2 (S := fun _ => False) (fun k hk e => by omega))
       clear hb2 t2)
    | ((with_reducible apply HB2.out.ld rowCo HCA.out); exact rfl; exact rfl; exact rfl)
    | (go_at_call 13; go_must (refine (HCo.out _ (by exact HT2.out)).mono ?_); rintro e w3 ⟨A5, k5, rfl, hs3, t3⟩
       have HS3 := Lib.hid hs3
       have HT3 := Lib.hid (HT2.out.trans t3 (fun _ _ e => e))
       have HZ3 := Lib.hid ((HT2.out.trans t3 (fun _ _ e => e)).blk HZ.out (fun e => e))
       have HN5 := Lib.hid (HCn.out A5 k5)
       have H15 := Lib.hid (HC1.out A5 k5)
       clear hs3 t3)
    | ((with_reducible apply HZ3.out.st rowCo HZn.out HN5.out H15.out); exact rfl; exact rfl; exact rfl; exact rfl
       intro w4 hb4 t4
       have HB4 := Lib.hid hb4
       have HT4 := Lib.hid t4
       clear hb4 t4))
  refine bodyPost_ret (results_cell2 4 5 rowCo HN5.out (HB4.out.whole) rfl rfl) rfl ?_
  have z2 := HT2.out.size
  have hz0 := HZ0.out
  refine ⟨A5, k5, by simp, (HS3.out.touch HT4.out (fun q hq e => by omega)).mono (fun q hq => ⟨by omega, by have := HT4.out.size; omega⟩), (HT0.out.trans HT3.out (fun _ _ e => e)).trans HT4.out (fun q hq e => by omega)⟩
theorem CalM.got {w w' : World} {b1 : Nat} {S : Shl} {x : Int → Nat} {R Y : Nat → Prop} (h : CalM w b1 S x R Y) {i0 : Int} {d : Ca} (hd : S.cal i0 = some d) (t : Touch (fun q => q = x i0) w w') (hb : b1 ≠ x i0) (hR : ∀ q, R q → q ≠ x i0) (hY : ∀ q, Y q → q ≠ x i0) (hinj : ∀ i c, S.cal i = some c → x i = x i0 → i = i0) (R' Y' : Nat → Prop) (hRR : ∀ q, R q → R' q) (hYY : ∀ q, Y q → Y' q) (hdis : ∀ q, Y' q → ¬ R' q) (hl : LkAt w' (x i0) d R' Y') : CalM w' b1 S x R' Y' := by
  obtain ⟨f, hm, hs⟩ := h
  refine ⟨f, hm.touch t hb, fun i hi => ⟨(hs i hi).1, fun c hc => ?_⟩⟩
  obtain ⟨A, B, k, m, h1, h2, h3⟩ := (hs i hi).2 c hc
  refine ⟨A, B, k, m, h1, CaR.touch ⟨h2.wk.mono (fun q hq => (show R' q ∧ R q from ⟨hRR q hq, hq⟩)), h2.cl.mono (fun q hq => ⟨hRR q hq, hq⟩)⟩ t (fun q hq => hR q hq.2) |> fun hh => ⟨hh.wk.mono (fun q hq => hq.1), hh.cl.mono (fun q hq => hq.1)⟩, ?_⟩
  by_cases e : i = i0
  · subst e
    rw [hd] at hc
    injection hc with hc
    subst hc
    exact hl
  · exact (h3.touch t (fun e' => e (hinj i c hc e')) hR hY).mono hRR hYY (fun q hq => hdis q (hYY q hq))
/-- What Clock leaves where there is one. -/
def HckP (g b1 b2 : Nat) (S : Shl) (x : Int → Nat) (R X Y : Nat → Prop) (d : Ca) (xc : Nat) (w : World) (e : Ending) (w' : World) : Prop :=
  ∃ k a p b R' Y', e = .returned (.tuple #[.pointer (some ⟨k, 0, none⟩), .bool true]) ∧ ShAt w' g b1 b2 S x R' X Y' ∧ CkAt w' k a p b d R' ∧ Y' b ∧ (∀ q, R' q → R q ∨ (w.heap.size ≤ q ∧ q < w'.heap.size)) ∧ (∀ q, Y' q → Y q ∨ (w.heap.size ≤ q ∧ q < w'.heap.size)) ∧ Touch (fun q => q = xc) w w'
theorem hclock_yes {w : World} {g b1 b2 : Nat} {S : Shl} {x : Int → Nat} {R X Y : Nat → Prop} (h : ShAt w g b1 b2 S x R X Y) (n : Int) (hn : inN n) {c : Co} (hc : S.con n = some c) {d : Ca} (hd : S.cal c.cal = some d) :
    Calls Tryz.prog 32 #[.pointer (some ⟨g, 0, none⟩), .int .i64 n] w (HckP g b1 b2 S x R X Y d (x c.cal) w) := by
  have HTe := Lib.hid (hterms_any h n hn)
  unfold TerP termsV at HTe
  rw [hc] at HTe
  simp only [Option.getD_some, Option.isSome_some] at HTe
  have HH := Lib.hid h
  have hcal := good_hd (h.ok.con n c hc).2.1
  have hcn : inN c.cal := by unfold inN; omega
  have hxX := h.xX _ d hd
  have hxl : x c.cal < w.heap.size := h.lt _ (.inr (.inl hxX))
  obtain ⟨xc, hxc⟩ : ∃ xc, xc = x c.cal := ⟨_, rfl⟩
  have HXc := Lib.hid hxc
  have HD := Lib.hid (And.intro hd (h.ok.cal _ d hd).2)
  have hgl := h.gl
  rw [← hxc] at hxX hxl ⊢
  unfold conA at HTe
  clear hxc hc h
  go_enter Tryz.func32, Tryz.ntmps32
  go_wp2_with (go_at_call 27; go_must (refine HTe.out.mono ?_); rintro e w1 ⟨A1, k1, rfl, -, t1⟩; have HT1 := Lib.hid t1; clear t1)
  obtain ⟨W2, hW2⟩ : ∃ W2, W2 = (w1.alloc (.cells #[.int .i64 c.cal, .slice A1 c.lv.length k1, .int .i64 c.rt, .int .i64 c.bk] 24)).drew := ⟨_, rfl⟩
  have HT2 := Lib.hid (show Touch (fun _ => False) w W2 from hW2 ▸ (HT1.out.alloc _).drew)
  have h2 := HH.out.far HT2.out
  have HH2 := Lib.hid h2
  have q0 := h2.blk.cell 0
  simp at q0
  have y0 : W2.cell? ⟨w1.heap.size, 0, none⟩ = some (.int .i64 c.cal) := hW2 ▸ ((Touch.refl (fun _ => False) _).drew.blk (Blk.new w1 24 #[.int .i64 c.cal, .slice A1 c.lv.length k1, .int .i64 c.rt, .int .i64 c.bk]) (fun e => e)).cell 0
  obtain ⟨A2, B2, k2, m2, -, hlz, -, hlk⟩ := h2.m1.look1 hcn HD.out.1
  rw [← HXc.out] at hlz hlk
  unfold layA at hlk
  have hfd : ∀ w : World, (Instr.field 113 (.agg #[.int .i64 d.off, .slice A2 d.wk.length k2, .slice B2 d.cl.length m2, .pointer (some ⟨xc, 0, none⟩)]) 1).run Tryz.prog w = .ok (.pointer (some ⟨xc, 0, none⟩)) w := fun _ => by kernel_rfl
  have HGe := Lib.hid (getK_any xc d R Y W2 hlz (check_ok HD.out.2) (HH.out.dXR _ hxX) (HH.out.dXY _ hxX) HH.out.dYR (fun q hq => h2.lt q (.inl hq)) (fun q hq => h2.lt q (.inr (.inr hq))))
  unfold GetK at HGe
  have hz2 := HT2.out.size
  clear h2 hlz
  refine wp_region_plan [(0, 0), (0, 1), (0, 2), (0, 3), (0, 4), (0, 5), (0, 6), (0, 7), (2, 8), (0, 9), (0, 10)] (fun q => q = xc) (by kernel_rfl) (by kernel_rfl) (fun c a d v w h => by cases d <;> exact h) ?_
  rw [← hW2]
  clear hW2
  iterate 8
    refine plan_s1 rfl (by rfl) (fun Kc hKc => ?_)
    go_simp
    first
      | (refine hKc _ ?_)
    clear hKc Kc
  clear hlk y0 q0 hfd
  refine plan_a1 rfl (by rfl) (fun Kc hKc => ?_)
  go_simp
  refine HGe.out.mono ?_
  rintro e w3 ⟨k, a, p, b, G', Y', rfl, hlz, hk, hb, hG, hY, hd1, hd2, t3⟩
  refine hKc _ _ ⟨t3, ?_⟩
  clear hKc Kc
  have HQ := Lib.hid (And.intro hlz (And.intro hk hb))
  have HG := Lib.hid (And.intro hG (And.intro hY (And.intro hd1 hd2)))
  have HT3 := Lib.hid t3
  clear hlz hk hb hG hY hd1 hd2 t3
  iterate 2
    refine plan_s1 rfl (by rfl) (fun Kc hKc => ?_)
    go_simp
    first
      | (refine hKc _ ?_)
    clear hKc Kc
  refine plan_done ?_
  go_wp2_with fail
  refine bodyPost_ret (v := .tuple #[.pointer (some ⟨k, 0, none⟩), .bool true]) (by simp [results, Tryz.results32, go_sem]) rfl ?_
  obtain ⟨hlz, hk, hb⟩ := HQ.out
  obtain ⟨hG, hY, hd1, hd2⟩ := HG.out
  have hz3 := HT3.out.size
  have H := HH2.out
  have hlt : ∀ q, R q ∨ X q ∨ Y q → q < W2.heap.size := H.lt
  have hdis : ∀ q, Y q ∨ Y' q → ¬ (R q ∨ G' q) := by
    intro q hq e
    rcases hq with hq | hq
    · rcases e with e | e
      · exact H.dYR q hq e
      · rcases hG q e with e | e
        · exact H.dYR q hq e
        · have := hlt q (.inr (.inr hq)); omega
    · rcases e with e | e
      · rcases hY q hq with h | h
        · exact H.dYR q h e
        · have := hlt q (.inl e); omega
      · exact hd1 q hq e
  have hRr : ∀ q, R q ∨ G' q → R q ∨ (w.heap.size ≤ q ∧ q < w3.heap.size) := fun q hq => by
    rcases hq with hq | hq
    · exact .inl hq
    · rcases hG q hq with h | h
      · exact .inl h
      · exact .inr (by omega)
  have hYr : ∀ q, Y q ∨ Y' q → Y q ∨ (w.heap.size ≤ q ∧ q < w3.heap.size) := fun q hq => by
    rcases hq with hq | hq
    · exact .inl hq
    · rcases hY q hq with h | h
      · exact .inl h
      · exact .inr (by omega)
  have hm : CalM w3 b1 S x (fun q => R q ∨ G' q) (fun q => Y q ∨ Y' q) := by
    have hx := HXc.out
    subst hx
    exact H.m1.got HD.out.1 HT3.out (fun e => H.o1 (.inr (.inl (e ▸ hxX)))) (fun q hq e => H.dXR _ hxX (e ▸ hq)) (fun q hq e => H.dXY _ hxX (e ▸ hq)) (fun i c' hc' e => H.inj i _ c' d hc' HD.out.1 e) _ _ (fun q hq => .inl hq) (fun q hq => .inl hq) hdis (hlz.mono (fun q hq => .inr hq) (fun q hq => .inr hq) (fun q hq => hdis q (.inr hq)))
  have hout : ∀ q, q < W2.heap.size → ¬ (R q ∨ X q ∨ Y q) → ¬ ((R q ∨ G' q) ∨ X q ∨ (Y q ∨ Y' q)) := by
    intro q hq hn e
    rcases e with (e | e) | e | (e | e)
    · exact hn (.inl e)
    · rcases hG q e with e | e
      · exact hn (.inl e)
      · omega
    · exact hn (.inr (.inl e))
    · exact hn (.inr (.inr e))
    · rcases hY q e with e | e
      · exact hn (.inr (.inr e))
      · omega
  have hgl := H.gl
  have h1l := H.m1.lt
  have h2l := H.m2.lt
  refine ⟨k, a, p, b, fun q => R q ∨ G' q, fun q => Y q ∨ Y' q, rfl, ⟨HT3.out.blk H.blk (fun e => H.og (.inr (.inl (e ▸ hxX)))), hm, (H.m2.touch HT3.out (fun e => H.o2 (.inr (.inl (e ▸ hxX)))) (fun q hq e => H.dXR _ hxX (e ▸ hq))).mono rfl (fun q hq => .inl hq), H.ok, H.xX, H.inj, fun q hq => ?_, fun q hq e => ?_, hdis, fun q hq e => ?_, hout g hgl H.og, hout b1 h1l H.o1, hout b2 h2l H.o2, H.ne⟩, hk.grow (fun q hq => .inr hq) (hdis b (.inr hb)), .inr hb, hRr, hYr, (HT2.out.mono (fun _ _ e => e.elim)).trans HT3.out (fun _ _ e => e)⟩
  · rcases hq with hq | hq | hq
    · rcases hRr q hq with h | h
      · have := hlt q (.inl h); omega
      · omega
    · have := hlt q (.inr (.inl hq)); omega
    · rcases hYr q hq with h | h
      · have := hlt q (.inr (.inr h)); omega
      · omega
  · rcases e with e | e
    · exact H.dXR q hq e
    · rcases hG q e with e | e
      · exact H.dXR q hq e
      · have := hlt q (.inr (.inl hq)); omega
  · rcases e with e | e
    · exact H.dXY q hq e
    · rcases hY q e with e | e
      · exact H.dXY q hq e
      · have := hlt q (.inr (.inl hq)); omega
end Go.Proofs.YtlcefchbfjfifaaGreat
end

section
namespace Go.Proofs.YtlcefchbfjfifaaGreat
open Go
set_option linter.unusedVariables false
section
variable {P : Program} {ops : Array Oper} {Q : Exit → Act → World → Prop} {md : Region.Mode} {n l : Nat}

theorem rows_in {row : String} {args : Array Value} {w : World} {R : Value → World → Prop} (h : Rows P row args w R) : RowsIn (Fence.wide.inRound l) n P row args w R :=
  fun c cs _ => let ⟨v, w', r, s⟩ := h c cs; ⟨v, w', r, by rw [fenced_inRound]; exact stepsIn_wide.2 s⟩
theorem upon_in {o : Oper} {a : Act} {K : Act → World → Prop} {r : Result Next} (h : o.upon P a K Q r) : o.uponIn (Fence.wide.inRound l) n P a K Q r := by
  cases r with
  | ok x w' =>
    cases x <;> first
      | exact h.elim
      | exact h
      | exact ⟨fun e => by simp [Fence.wide] at e, CallsIn.inRound l (callsIn_wide.2 h)⟩
      | exact ⟨fun e => by simp [Fence.wide] at e, rows_in h⟩
  | halt x w' => cases x <;> first | exact h | exact h.elim
/-- No operation lays a deferred call. -/
def noDefer (ops : Array Oper) : Bool := ops.all fun o => match o.op with | .defer _ => false | _ => true
theorem noDefer_spec (h : noDefer ops = true) {i : Nat} {o : Oper} (ho : ops[i]? = some o) : ∀ c, o.op ≠ .defer c := by
  intro c hc
  obtain ⟨hi, he⟩ := Array.getElem?_eq_some_iff.1 ho
  have := (Array.all_eq_true.1 h) i hi
  rw [he, hc] at this
  cases this
theorem wpOp_in (hL : ¬ LetsOut Q) (hd : noDefer ops = true) {i : Nat} {K : Act → World → Prop} {a : Act} {w : World} (h : wpOp P ops Q i K a w) : wpOpIn (Fence.wide.inRound l) n P ops Q i K a w := by
  unfold wpOp at h
  unfold wpOpIn
  cases ho : ops[i]? with
  | none => rw [ho] at h; exact h
  | some o =>
    rw [ho] at h
    simp only at h ⊢
    split
    · rename_i hw
      simp only [hw, if_true] at h
      refine ⟨fun _ _ => trivial, ?_⟩
      rw [show (Fence.wide.inRound l).round = some l from rfl, Oper.semAt_some l _ _ (noDefer_spec hd ho)]
      exact upon_in (h.resolve_right (fun e => hL e.2))
    · rename_i hw
      simp only [hw] at h
      exact ⟨fun _ _ => trivial, h⟩
theorem wpOp_mono' {i : Nat} {a : Act} {w : World} {K K' : Act → World → Prop} (h : ∀ a w, K a w → K' a w) (hh : wpOp P ops Q i K a w) : wpOp P ops Q i K' a w := wpOp_mono h hh
theorem wpAny_in (hL : ¬ LetsOut Q) (hd : noDefer ops = true) : ∀ (f : Nat) (listed : Array Bool) (a : Act) (w : World), wpAny P md ops Q f listed a w → wpAnyIn (Fence.wide.inRound l) n P md ops Q f listed a w
  | 0, _, _, _, h => h
  | f + 1, listed, a, w, h => ⟨h.1, fun i hi => wpOp_in hL hd (wpOp_mono (fun a' w' h' => wpAny_in hL hd f _ a' w' h') (h.2 i hi))⟩
/-- The beginning, in a round. -/
theorem wpIn_region_plan {id : Nat} {a : Act} {w : World} {L : List Oper} (plan : List Stp) (T : Nat → Prop) (hm : P.follows .mixedOrders = true) (hB : planB L.toArray plan = true) (hd : noDefer L.toArray = true) (hL : ¬ LetsOut Q)
    (hQ : ∀ c a d v w, Q (.panic c) (Act.put a d v) w → Q (.panic c) a w) (h : wpPlan P L.toArray Q T plan a w.drew) : (Code.region id L.toArray true).wpIn (Fence.wide.inRound l) n P Q a w := by
  simp only [planB, Bool.and_eq_true, beq_iff_eq] at hB
  obtain ⟨⟨hsel, hlen⟩, hB⟩ := hB
  refine wpIn_region_any hm (wpAny_in hL hd _ _ _ _ (wpMix_sound (T := T) (fl := flOf plan) (lt := ltOf plan) _ _ _ _ ?_))
  rw [← hlen]
  have := wpPlan_sound (md := .any) hQ hsel plan (Array.replicate L.toArray.size false) a w.drew hB h
  simpa [hlen] using this
end
theorem Touch.others {S : Nat → Prop} {W W' : World} (h : Touch S W W') (hS : ∀ k, S k → ∃ o, W.heap[k]? = some o ∧ o.isCells = true) : KeepsOthers W W' :=
  ⟨h.size, fun k o hk ho => by
    refine (h.block k (Array.getElem?_eq_some_iff.1 hk).1 (fun e => ?_)).trans hk
    obtain ⟨o', h1, h2⟩ := hS k e
    rw [hk] at h1
    injection h1 with h1
    subst h1
    rw [ho] at h2; cases h2⟩
theorem Touch.othersB {S : Nat → Prop} {W W' : World} (h : Touch S W W') (hS : ∀ k, S k → ∃ g t cs, k = g ∧ Blk W g t cs) : KeepsOthers W W' :=
  h.others (fun k e => by obtain ⟨g, t, cs, rfl, hb⟩ := hS k e; exact ⟨_, hb, rfl⟩)
theorem Touch.grown {W W' : World} (h : Touch (fun _ => False) W W') : W.grownBy W' none := ⟨h.os, h.tape, h.output, h.size, fun k hk _ => h.block k hk (fun e => e)⟩
/-- What a range over a function does beside the rounds, as a touch. -/
theorem Touch.of_row {W W' : World} {B : Nat} {row : Option Nat} (h : W.grownBy W' row) (hr : ∀ r, row = some r → B ≤ r) : Touch (fun k => B ≤ k) W W' :=
  ⟨h.os, h.tape, h.output, h.size, fun k hk hn => h.block k hk (fun e => hn (hr k e.symm))⟩
/-- Cells lie as they lay, but for the blocks in T. -/
def KeepT (T : Nat → Prop) (W W' : World) : Prop := W.heap.size ≤ W'.heap.size ∧ ∀ k o, W.heap[k]? = some o → o.isCells = true → ¬ T k → W'.heap[k]? = some o
theorem KeepT.refl (T : Nat → Prop) (W : World) : KeepT T W W := ⟨Nat.le_refl _, fun _ _ h _ _ => h⟩
theorem KeepT.t {T : Nat → Prop} {A B C : World} (h : KeepT T A B) (h' : KeepT T B C) : KeepT T A C := ⟨Nat.le_trans h.1 h'.1, fun k o hk hc hn => h'.2 k o (h.2 k o hk hc hn) hc hn⟩
theorem KeepT.b {T : Nat → Prop} {B : Nat} (W : World) (l : Nat) (o o' : Obj) (_ : B ≤ l) (h : W.heap[l]? = some o) (ho : o.isCells = false) (_ : o.isWalk = false) : KeepT T W (W.putObj l o') :=
  ⟨by simp, fun k q hk hc hn => (World.putObj_heap_other (fun e => by subst e; rw [hk] at h; injection h with h; subst h; rw [hc] at ho; cases ho)).trans hk⟩
theorem KeepT.of_touch {T S : Nat → Prop} {W W' : World} (h : Touch S W W') (hS : ∀ k, S k → T k) : KeepT T W W' :=
  ⟨h.size, fun k o hk hc hn => (h.block k (Array.getElem?_eq_some_iff.1 hk).1 (fun e => hn (hS k e))).trans hk⟩
theorem KeepT.cell {T : Nat → Prop} {W W' : World} (h : KeepT T W W') {g i : Nat} (hg : ¬ T g) {v : Value} (hc : W.cell? ⟨g, i, none⟩ = some v) : W'.cell? ⟨g, i, none⟩ = some v := by
  obtain ⟨o, ho, hcs⟩ := cells_of_cell hc
  exact (World.cell?_of_block (w := W) (a := ⟨g, i, none⟩) ((h.2 g o ho hcs hg).trans ho.symm)).trans hc
theorem KeepT.blk {T : Nat → Prop} {W W' : World} (h : KeepT T W W') {g : Nat} {t : TypeId} {cs : Array Value} (hb : Blk W g t cs) (hg : ¬ T g) : Blk W' g t cs := h.2 g _ hb rfl hg
end Go.Proofs.YtlcefchbfjfifaaGreat
end

section
namespace Go.Proofs.YtlcefchbfjfifaaGreat
open Go.RowKit Cal
attribute [local go_sem] Oper.semAt_some
set_option maxHeartbeats 4000000
set_option maxRecDepth 100000
set_option linter.unusedVariables false
attribute [local irreducible] wpPlan

theorem free_any (a : Nat) (x y : Int) (w : World) :
    Calls Tryz.prog 74 #[.pointer (some ⟨a, 0, none⟩), .int .i64 x, .int .i64 y] w fun e w' => e = .returned (.func (.func 104) #[] #[.pointer (some ⟨w.heap.size + 1, 0, none⟩), .pointer (some ⟨w.heap.size + 2, 0, none⟩), .pointer (some ⟨w.heap.size, 0, none⟩)]) ∧
      w' = ((w.alloc (.cells #[.pointer (some ⟨a, 0, none⟩)] 134)).alloc (.cells #[.int .i64 x] 2)).alloc (.cells #[.int .i64 y] 2) := by
  have hmf : ∀ (fn : Fn) (first cap : Array Value) (w : World), (Instr.makeFunc fn first cap).run Tryz.prog w = .ok (.func fn first cap) w := fun _ _ _ _ => rfl
  go_enter Tryz.func74, Tryz.ntmps74
  go_wp2
  go_ret
  exact ⟨rfl, rfl⟩
/-- A span that is handed out. -/
abbrev FSp := { s : Sp // 0 ≤ s.f ∧ s.f < s.t ∧ s.t ≤ 1125899906842624 }
def encSp (s : FSp) : Array Value := #[.agg #[.int .i64 s.1.f, .int .i64 s.1.t]]
theorem AlAt.keep {w w' : World} {g : Nat} {cl : List Sp} {B : Option Addr} {m : Nat} {M T : Nat → Prop} (h : AlAt w g cl B m M) (hg : ¬ T g) (hM : ∀ k, M k → ¬ T k) (hk : KeepT T w w') : AlAt w' g cl B m M := by
  refine ⟨hk.blk h.blk hg, h.row.1, h.row.2.1, fun hn => ?_⟩
  obtain ⟨g', off, e, hl, hm, hc⟩ := h.row.2.2 hn
  exact ⟨g', off, e, Nat.lt_of_lt_of_le hl hk.1, hm, fun j u hj => hk.cell (hM _ hm) (hc j u hj)⟩
theorem freeIter (n : Nat) (hn1 : 1 ≤ n) (a ba bf bt : Nat) (cl : List Sp) (B : Option Addr) (m : Nat) (M T : Nat → Prop) (st : Int) (w : World) (h : AlAt w a cl B m M) (hM : ∀ k, M k → ¬ T k) (hTa : ¬ T a) (hTb : ¬ T ba) (hT : ∀ k, T k → k < w.heap.size)
    (hcf : w.cell? ⟨bf, 0, none⟩ = some (.int .i64 st)) (hct : w.cell? ⟨bt, 0, none⟩ = some (.int .i64 1125899906842624)) (hca : w.cell? ⟨ba, 0, none⟩ = some (.pointer (some ⟨a, 0, none⟩))) (hrow : rowE cl = 0) (h0 : 0 ≤ st) (h1 : st ≤ 1125899906842624) :
    SeqStopsK Fence.wide n Tryz.prog 104 #[.pointer (some ⟨bf, 0, none⟩), .pointer (some ⟨bt, 0, none⟩), .pointer (some ⟨ba, 0, none⟩)] encSp (KeepT T) (fun xs : List FSp => xs.map (·.1) = freeL cl st) (fun pre => pre.map (·.1) <+: freeL cl st) (freeL cl st).length w := fun l J Jx W hW hJ hJx hY hJ0 => by
  have htW : Touch (fun _ => False) w W := Touch.of_below hW
  have hb := fun {g : Nat} {v : Value} (hc : w.cell? ⟨g, 0, none⟩ = some v) => (show W.cell? ⟨g, 0, none⟩ = some v from (htW.cell (p := ⟨g, 0, none⟩) (World.block_lt_of_cell? w _ hc) (fun e => e)).trans hc)
  have HA := Lib.hid (h.touch htW (fun e => e) (fun _ _ e => e))
  have HM := Lib.hid hM
  have HTs := Lib.hid (fun k hk => Nat.lt_of_lt_of_le (hT k hk) hW.size)
  have c1 := hb hcf
  have c2 := hb hct
  have C3 := Lib.hid (hb hca)
  clear hb
  have HR := Lib.hid hrow
  have HRow := Lib.hid (rowE_row hrow).1
  have hlen := (rowE_row hrow).2
  have HJ := Lib.hid hJ
  have HY := Lib.hid hY
  have HJ0 := Lib.hid hJ0
  have hmx : max st 0 = st := Int.max_eq_left h0
  clear h hrow hM hcf hct hca hW hJ hJx hY hJ0 hT htW
  refine callsIn_of_wp Tryz.func104 rfl trivial ?_ rfl
  simp only [Tryz.ntmps104, List.size_toArray, List.length_cons, List.length_nil, Nat.reduceAdd, Nat.reduceSub, Array.replicate_succ, Array.replicate_zero, List.push_toArray, List.append_toArray, List.nil_append, List.cons_append]
  gi_wp2_with fail
  refine wpIn_wide.2 ?_
  refine wp_region_plan [(0, 0), (0, 1), (0, 2), (0, 3), (0, 4), (0, 5)] (fun _ => False) (by kernel_rfl) (by kernel_rfl) (fun c a d v w h => by cases d <;> exact h) ?_
  iterate 6
    refine plan_s1 rfl (by rfl) (fun Kc hKc => ?_)
    go_simp
    first
      | (refine hKc _ ?_)
    clear hKc Kc
  refine plan_done ?_
  gi_wp2_with fail
  clear hmx
  gi_loopw [5] (fun x wr => ∃ (pre : List FSp) (y : Int), x = .int .i64 y ∧ 0 ≤ y ∧ y ≤ 1125899906842624 ∧ freeL cl st = pre.map (·.1) ++ freeL cl y ∧ J pre wr ∧ KeepT T W wr) (fun x _ => (1125899906842624 - intOf x).toNat)
  case atStart => exact ⟨[], st, rfl, h0, h1, rfl, HJ.out _ _ _ none HJ0.out ((Touch.refl _ W).drew).grown (fun r e => by cases e), KeepT.of_touch ((Touch.refl (fun _ => False) W).drew) (fun _ e => e.elim)⟩
  case round =>
    clear HJ0
    obtain ⟨pre, y, rfl, hy0, hy1, hfr, hJs, hK⟩ := hrel
    have HFr := Lib.hid hfr
    have HJs := Lib.hid hJs
    have HK := Lib.hid hK
    have c3 := hK.cell (i := 0) hTb C3.out
    clear hfr hJs hK
    by_cases hyH : y < 1125899906842624
    · cases hn : nextL cl y with
      | none =>
        have HN := Lib.hid (next_none a cl B m M y wr (HA.out.keep hTa HM.out HK.out) (by omega) hn)
        have hf1 := free_none cl y hyH hn
        rw [hf1] at HFr
        clear hn hf1
        have HY2 := Lib.hid (fun W1 (hj : J pre W1) => HY.out pre ⟨⟨y, 1125899906842624⟩, hy0, hyH, Int.le_refl _⟩ W1 hj (by rw [HFr.out]; simp))
        gi_wp2_with (refine ⟨trivial, ?_⟩; gi_at_call 105; refine (callsIn_wide.2 HN.out).mono ?_; rintro e w1 ⟨rfl, t1⟩; have HT1 := Lib.hid (t1.alloc (.cells #[.int .i64 0, .int .i64 0] 92)); obtain ⟨fn, tmps, assign, body, hy, hR⟩ := HY2.out _ (HJ.out _ _ _ none HJs.out HT1.out.grown (fun r e => by cases e)); dsimp only [encSp] at hy; clear t1)
        refine hR.mono ?_
        rintro e W3 (⟨rfl, hJ3, hk3⟩ | ⟨rfl, hJx3⟩)
        · gi_wp2
          refine bodyPost_ret (v := .tuple #[]) (results_none (by rfl) _ _ _) rfl ⟨⟨_, rfl⟩, .inl ⟨_, by rw [HFr.out, List.map_append]; rfl, hJ3⟩⟩
        · gi_wp2
          refine bodyPost_ret (v := .tuple #[]) (results_none (by rfl) _ _ _) rfl ⟨⟨_, rfl⟩, .inr ⟨_, by rw [HFr.out, List.map_append]; exact List.prefix_refl _, hJx3⟩⟩
      | some s =>
        have HN := Lib.hid (next_some a cl B m M y s wr (HA.out.keep hTa HM.out HK.out) (by omega) hn)
        have hf1 := free_some cl 0 y s HRow.out hyH hn
        have hm := next_mem cl y s hn
        have hs := Row.mem HRow.out s hm.1
        have hys := hm.2
        rw [hf1] at HFr
        clear hn hf1 hm
        obtain ⟨f, t⟩ := s
        simp only at HN HFr hs hys
        have hmin : min f 1125899906842624 = f := Int.min_eq_left (by omega)
        by_cases hyf : y < f
        · rw [if_pos hyf] at HFr
          have HY2 := Lib.hid (fun W1 (hj : J pre W1) => HY.out pre ⟨⟨y, f⟩, hy0, hyf, (show f ≤ 1125899906842624 by omega)⟩ W1 hj (by rw [HFr.out]; simp <;> omega))
          gi_wp2_with (refine ⟨trivial, ?_⟩; gi_at_call 105; refine (callsIn_wide.2 HN.out).mono ?_; rintro e w1 ⟨rfl, t1⟩; have HT1 := Lib.hid ((t1.alloc (.cells #[.int .i64 f, .int .i64 t] 92)).alloc (.cells #[.int .i64 y, .int .i64 f] 92)); have HB1 := Lib.hid ((Blk.new w1 92 #[.int .i64 f, .int .i64 t]).alloc (.cells #[.int .i64 y, .int .i64 f] 92)); have hs1 := t1.size; obtain ⟨fn, tmps, assign, body, hy, hR⟩ := HY2.out _ (HJ.out _ _ _ none HJs.out HT1.out.grown (fun r e => by cases e)); dsimp only [encSp] at hy; clear t1)
          have hkW := HK.out.t (KeepT.of_touch (T := T) HT1.out (fun _ e => e.elim))
          have hW1 : W.heap.size ≤ w1.heap.size := by have := HK.out.1; omega
          have hnT : ¬ T w1.heap.size := fun e => by have := HTs.out _ e; omega
          refine hR.mono ?_
          rintro e W3 (⟨rfl, hJ3, hk3⟩ | ⟨rfl, hJx3⟩)
          · have q1 : W3.cell? ⟨w1.heap.size, 1, none⟩ = some (.int .i64 t) := hk3.cell (i := 1) hnT ((HB1.out.cell 1).trans (by simp))
            have HJ3 := Lib.hid hJ3
            have HK3 := Lib.hid (hkW.t hk3)
            clear hJ3 hk3 hkW
            gi_wp2
            go_roundw
            case rel => exact ⟨pre ++ [⟨⟨y, f⟩, hy0, hyf, (show f ≤ 1125899906842624 by omega)⟩], t, rfl, by omega, by omega, by rw [HFr.out]; simp, HJ3.out, HK3.out⟩
            case measure => simp [intOf]; omega
          · gi_wp2
            refine bodyPost_ret (v := .tuple #[]) (results_none (by rfl) _ _ _) rfl ⟨⟨_, rfl⟩, .inr ⟨_, by rw [HFr.out, ← List.append_assoc, List.map_append]; exact List.prefix_append _ _, hJx3⟩⟩
        · rw [if_neg hyf, List.nil_append] at HFr
          gi_wp2_with (refine ⟨trivial, ?_⟩; gi_at_call 105; refine (callsIn_wide.2 HN.out).mono ?_; rintro e w1 ⟨rfl, t1⟩; have HT1 := Lib.hid ((t1.alloc (.cells #[.int .i64 f, .int .i64 t] 92)).alloc (.cells #[.int .i64 y, .int .i64 f] 92)); clear t1)
          refine ⟨(fun _ e => by cases e), ?_⟩
          gi_wp2
          go_roundw
          case rel => exact ⟨pre, t, rfl, by omega, by omega, HFr.out, HJ.out _ _ _ none HJs.out HT1.out.grown (fun r e => by cases e), HK.out.t (KeepT.of_touch (T := T) HT1.out (fun _ e => e.elim))⟩
          case measure => simp [intOf]; omega
    · have hye : y = 1125899906842624 := by omega
      subst hye
      rw [free_end cl 1125899906842624 (by omega), List.append_nil] at HFr
      gi_wp2
      go_end0
      exact ⟨⟨_, rfl⟩, .inl ⟨pre, HFr.out.symm, HJs.out⟩⟩
end Go.Proofs.YtlcefchbfjfifaaGreat
end

section
namespace Go.Proofs.YtlcefchbfjfifaaGreat
open Go.RowKit Cal
set_option maxHeartbeats 4000000
set_option maxRecDepth 100000
set_option linter.unusedVariables false
attribute [local irreducible] wpPlan

end Go.Proofs.YtlcefchbfjfifaaGreat
end

section
namespace Go.Proofs.YtlcefchbfjfifaaGreat
open Go.RowKit Cal
set_option maxHeartbeats 4000000
set_option maxRecDepth 100000
set_option linter.unusedVariables false
attribute [local irreducible] wpPlan

theorem CkAt.drew {w : World} {k a p b : Nat} {c : Ca} {G : Nat → Prop} (h : CkAt w k a p b c G) : CkAt w.drew k a p b c G := h.none ((Touch.refl _ _).drew)
def Ck2 (k a p b : Nat) (c : Ca) (G : Nat → Prop) (r : Int × Int) (w : World) (e : Ending) (w' : World) : Prop := CkV k a p b c G (.tuple #[.int .i64 r.1, .int .i64 r.2]) w e w'
theorem Ck2.same {k a p b : Nat} {c : Ca} {G : Nat → Prop} {R r : Int × Int} {x y : Int} {w : World} (h : CkAt w k a p b c G) (h1 : Hid (R = r)) (h2 : x = r.1) (h3 : y = r.2) : Ck2 k a p b c G R w (.returned (.tuple #[.int .i64 x, .int .i64 y])) w := by
  rw [h1.out, Ck2, h2, h3]
  exact ⟨rfl, h.more (Touch.refl (fun _ => False) _) (fun e => e) (fun _ _ e => e), Touch.refl _ _⟩
theorem Ck2.of {k a p b : Nat} {c : Ca} {G : Nat → Prop} {R r : Int × Int} {x y : Int} {w w' : World} (h1 : Hid (R = r)) (h2 : x = r.1) (h3 : y = r.2) (h : CkAt w' k a p b c (More G w w')) (ht : Touch (fun q => q = b) w w') : Ck2 k a p b c G R w (.returned (.tuple #[.int .i64 x, .int .i64 y])) w' := by
  rw [h1.out, Ck2, h2, h3]
  exact ⟨rfl, h, ht⟩
end Go.Proofs.YtlcefchbfjfifaaGreat
end
