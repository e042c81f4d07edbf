/- client.Want. -/
import Derived.Test.YtlcefchbfjfifaaVCnD
namespace Go.Proofs.Ytlcefchbfjfifaa
open Go.RowKit Cal
set_option maxHeartbeats 4000000
set_option maxRecDepth 100000
set_option linter.unusedVariables false
attribute [local irreducible] wpPlan

theorem Rd.lt2n {w : World} {F : Nat → Prop} {A : Option Addr} {n : Nat} {xs : List Value} (h : Rd w F A n xs) : Rd w (fun k => F k ∧ k < w.heap.size) A n xs :=
  ⟨h.1, fun hn => by
    obtain ⟨a, o, h1, h2, h3, h4⟩ := h.2 hn
    exact ⟨a, o, h1, h2, ⟨h3, h2⟩, h4⟩⟩
/-- What a call on a client leaves. -/
def ClP (v : Value) (g : Nat) (c' : Cl) (M : ClM) (F : Nat → Prop) (w : World) (e : Ending) (w' : World) : Prop :=
  ∃ M' F', e = .returned v ∧ ClAt w' g c' M' F' ∧ (∀ k, F' k → k < w'.heap.size) ∧ (∀ k, F' k → F k ∨ w.heap.size ≤ k) ∧ Touch (fun k => k = g ∨ M.q = some k) w w' ∧ (M'.q = M.q ∨ ∃ k, M'.q = some k ∧ w.heap.size ≤ k)
theorem ClP.same {v : Value} {g : Nat} {c : Cl} {M : ClM} {F : Nat → Prop} {w w' : World} (h : ClAt w g c M F) (hF : ∀ k, F k → k < w.heap.size) (t : Touch (fun _ => False) w w') : ClP v g c M F w (.returned v) w' :=
  ⟨M, F, rfl, h.far t, fun k hk => Nat.lt_of_lt_of_le (hF k hk) t.size, fun k hk => .inl hk, t.mono (fun _ _ e => e.elim), .inl rfl⟩
theorem clwant_no {w : World} {g : Nat} {c : Cl} {M : ClM} {F : Nat → Prop} (h : ClAt w g c M F) (hF : ∀ k, F k → k < w.heap.size) (x : Cm) (A B D : Option Addr) (k m n : Nat) (hno : c.busy.isSome = true ∨ 1152921504606846976 ≤ c.req) :
    Calls Try.prog 9 #[.pointer (some ⟨g, 0, none⟩), .agg (cmA x A B D k m n)] w (ClP (.int .i64 (c.wantE x)) g (c.want x) M F w) := by
  obtain ⟨E, hE⟩ : ∃ E, E = c.wantE x := ⟨_, rfl⟩
  have hw : c.want x = c := by
    unfold Cl.want
    rw [if_neg]
    unfold Cl.wantE
    split
    · omega
    · rename_i hb
      rw [if_pos (by rcases hno with h | h; exact absurd h hb; exact h)]
      omega
  rw [hw, ← hE]
  have ht := (Touch.refl (fun _ => False) w).alloc (.cells (cmA x A B D k m n) 35)
  have HT := Lib.hid ht
  have hA := h.far ht
  have HN := Lib.hid (clnone_any hA)
  have HB := Lib.hid (clbusy_any hA)
  have HC := Lib.hid h
  have HF := Lib.hid hF
  generalize cmA x A B D k m n = C at *
  by_cases hb : c.busy.isSome = true
  · have hE1 : E = 52 := by rw [hE, Cl.wantE, if_pos hb]
    rw [hb] at HB
    subst hE1
    clear h hA ht hno hE hw hF
    go_enter Try.func9, Try.ntmps9
    go_wp2_with (first
      | (go_at_call 21; go_must (refine HN.out.mono ?_); rintro e w1 ⟨rfl, rfl⟩)
      | (go_at_call 22; go_must (refine HB.out.mono ?_); rintro e w1 ⟨rfl, rfl⟩))
    go_ret
    exact ClP.same HC.out HF.out HT.out
  · have hr : 1152921504606846976 ≤ c.req := by rcases hno with h | h; exact absurd h hb; exact h
    have hE1 : E = 10 := by rw [hE, Cl.wantE, if_neg hb, if_pos hr]
    rw [show c.busy.isSome = false by simpa using hb] at HB
    have q4 := hA.blk.cell 4
    rw [clC_lo c M (by omega)] at q4
    simp at q4
    have hr' : (1152921504606846976 : Int) ≤ (c.req : Int) := by omega
    subst hE1
    clear h hA ht hno hE hw hF hr
    go_enter Try.func9, Try.ntmps9
    go_wp2_with (first
      | (go_at_call 21; go_must (refine HN.out.mono ?_); rintro e w1 ⟨rfl, rfl⟩)
      | (go_at_call 22; go_must (refine HB.out.mono ?_); rintro e w1 ⟨rfl, rfl⟩))
    go_ret
    exact ClP.same HC.out HF.out HT.out
theorem clwant_any {w : World} {g : Nat} {c : Cl} {M : ClM} {F : Nat → Prop} (h : ClAt w g c M F) (hF : ∀ k, F k → k < w.heap.size) (x : Cm) (hx : x.in64) (A B D : Option Addr) (k m n : Nat) (G : Nat → Prop) (hr : CmR w G x A B D) (hG : ∀ k, G k → k < w.heap.size) (hl : x.cal.wk.length ≤ 60 ∧ x.cal.cl.length ≤ 60 ∧ x.tm.lv.length ≤ 60) :
    Calls Try.prog 9 #[.pointer (some ⟨g, 0, none⟩), .agg (cmA x A B D k m n)] w (ClP (.int .i64 (c.wantE x)) g (c.want x) M F w) := by
  by_cases hno : c.busy.isSome = true ∨ 1152921504606846976 ≤ c.req
  · exact clwant_no h hF x A B D k m n hno
  simp only [not_or] at hno
  obtain ⟨hnb, hnr⟩ := hno
  obtain ⟨E, hE⟩ : ∃ E, E = c.wantE x := ⟨_, rfl⟩
  obtain ⟨c', hc'⟩ : ∃ c', c' = c.want x := ⟨_, rfl⟩
  obtain ⟨y, hy⟩ : ∃ y, y = c.mk_ x := ⟨_, rfl⟩
  have hE2 : E = if cmSound y = true ∧ ¬ (9 ≤ x.kind ∧ x.kind ≤ 11) then 0 else 2 := by rw [hE, Cl.wantE, if_neg hnb, if_neg hnr, hy]
  have hc2 : c' = if E = 0 then { c with req := c.req + 1, busy := some y, waited := 0 } else c := by rw [hc', Cl.want, ← hE, hy]
  have hok' : c'.Ok := hc' ▸ h.ok.want x hx
  rw [← hE, ← hc']
  have hnu := h.ok.nu
  have hy64 : y.in64 := by rw [hy]; refine ⟨hx.1, hx.2.1, ?_, hx.2.2.2⟩; simp only [Cl.mk_]; omega
  have hyk : y.kind = x.kind := by rw [hy]; rfl
  have HYq := Lib.hid (show y.req = c.req + 1 by rw [hy]; rfl)
  have hyl : y.cal.wk.length ≤ 60 ∧ y.cal.cl.length ≤ 60 ∧ y.tm.lv.length ≤ 60 := by rw [hy]; exact hl
  have hyr : CmR w G y A B D := by rw [hy]; exact ⟨hr.cal, hr.tm⟩
  have hyc : ((cmA x A B D k m n).setIfInBounds 1 (.int .u64 c.number)).setIfInBounds 2 (.int .u64 ((c.req : Int) + 1)) = cmA y A B D k m n := by rw [hy]; simp [cmA, Cl.mk_]
  obtain ⟨W0, hW0⟩ : ∃ W0, W0 = w.alloc (.cells (cmA x A B D k m n) 35) := ⟨_, rfl⟩
  have HW0 := Lib.hid hW0
  have hT0 : Touch (fun _ => False) w W0 := hW0 ▸ (Touch.refl _ w).alloc _
  have hBx : Blk W0 w.heap.size 35 (cmA x A B D k m n) := hW0 ▸ Blk.new w _ _
  have hA := h.far hT0
  have HN := Lib.hid (clnone_any hA)
  have HB := Lib.hid (clbusy_any hA)
  rw [show c.busy.isSome = false by simpa using hnb] at HB
  have hgl := h.blk.lt
  have hwl : w.heap.size < W0.heap.size := by rw [hW0]; simp
  have q3 := hA.blk.cell 3
  have q4 := hA.blk.cell 4
  rw [clC_lo c M (by omega)] at q3 q4
  simp at q3 q4
  have x1 := hBx.cell 1
  have x2 := hBx.cell 2
  simp [cmA] at x1 x2
  have f1 := hBx.frozen 1
  have f2 := hBx.frozen 2
  have hB1 := (hBx.set_ 1 (.int .u64 c.number)).set_ 2 (.int .u64 ((c.req : Int) + 1))
  rw [hyc] at hB1
  have tt := (((Touch.refl (fun k => k = w.heap.size) W0).set (b := w.heap.size) (o := 1) (fun _ => rfl) (.int .u64 c.number)).set (b := w.heap.size) (o := 2) (fun _ => rfl) (.int .u64 ((c.req : Int) + 1))).drew
  have HT1 := Lib.hid tt
  have HB1 := Lib.hid ((Touch.refl (fun _ => False) _).drew.blk hB1 (fun e => e))
  have HA0 := Lib.hid hA
  have hrq : c.req ≤ 1152921504606846976 := h.ok.rq
  have hd1 : decide ((1152921504606846976 : Int) ≤ (c.req : Int)) = false := decide_eq_false (by omega)
  have hd2 : decide (1152921504606846976 ≤ c.req) = false := decide_eq_false hnr
  have hwr : IntKind.u64.wrap ((c.req : Int) + 1) = (c.req : Int) + 1 := IntWalk.u64_in _ (by omega)
  have HF := Lib.hid hF
  have HG := Lib.hid hG
  have HYr := Lib.hid hyr
  have HY64 := Lib.hid hy64
  have HYl := Lib.hid hyl
  have HE := Lib.hid hE2
  have HC' := Lib.hid hc2
  have HOk := Lib.hid hok'
  have HT0 := Lib.hid hT0
  have HQ4 := Lib.hid q4
  have HXb := Lib.hid hBx
  have HqL := Lib.hid (fun k (hk : M.q = some k) => h.own.lt k hk)
  have HC0 := Lib.hid h
  clear h hF hx hr hG hl hnb hnr hE hc' hy hE2 hc2 hok' hy64 hyl hyr hyc hW0 hT0 hBx hA hB1 tt
  obtain ⟨X0, hX0⟩ : ∃ X0, X0 = cmA x A B D k m n := ⟨_, rfl⟩
  rw [← hX0] at HXb ⊢
  rw [← hX0] at HW0
  clear hX0
  go_enter Try.func9, Try.ntmps9
  go_wp2_with (first
    | (go_at_call 21; rw [← HW0.out]; go_must (refine HN.out.mono ?_); rintro e w1 ⟨rfl, rfl⟩)
    | (go_at_call 22; go_must (refine HB.out.mono ?_); rintro e w1 ⟨rfl, rfl⟩))
  refine wp_region_plan [(0, 0), (0, 1), (0, 2), (0, 3), (0, 9), (1, 4), (1, 5), (1, 6), (1, 7), (1, 8), (2, 10), (0, 11), (2, 12)] (fun q => q = w.heap.size) (by kernel_rfl) (by kernel_rfl) (fun c a d v w h => by cases d <;> exact h) ?_
  iterate 5
    refine plan_s1 rfl (by rfl) (fun Kc hKc => ?_)
    go_simp
    first
      | (refine hKc _ ?_)
    clear hKc Kc
  iterate 3
    apply plan_h
    · rfl
    · rfl
    · intro wh hT
      go_simp
      try rfl
    go_frame
  iterate 1
    apply plan_h
    · rfl
    · rfl
    · intro wh hT
      have hf0 := show wh.cell? ⟨g, 4, none⟩ = some (.int .u64 c.req) from (hT.cell (p := ⟨g, 4, none⟩) (by simp; omega) (by simp only; omega)).trans HQ4.out
      go_simp
      try rfl
    go_frame
  iterate 1
    apply plan_h
    · rfl
    · rfl
    · intro wh hT
      go_simp
      try rfl
    go_frame
  refine plan_a1 rfl (by rfl) (fun Kc hKc => ?_)
  go_simp
  refine hKc _ _ ⟨(Touch.refl (fun q => q = w.heap.size) _).set (b := w.heap.size) (o := 1) (fun _ => rfl) _, ?_⟩
  clear hKc Kc
  iterate 1
    refine plan_s1 rfl (by rfl) (fun Kc hKc => ?_)
    go_simp
    first
      | (refine hKc _ ?_)
    clear hKc Kc
  refine plan_a1 rfl (by rfl) (fun Kc hKc => ?_)
  go_simp
  refine hKc _ _ ⟨(Touch.refl (fun q => q = w.heap.size) _).set (b := w.heap.size) (o := 2) (fun _ => rfl) _, ?_⟩
  clear hKc Kc
  refine plan_done ?_
  obtain ⟨W1, hW1⟩ : ∃ W1, W1 = ((W0.setCell ⟨w.heap.size, 1, none⟩ (.int .u64 c.number)).setCell ⟨w.heap.size, 2, none⟩ (.int .u64 ((c.req : Int) + 1))).drew := ⟨_, rfl⟩
  rw [← hW1] at HB1 HT1 ⊢
  clear hW1 q3 q4 x1 x2 f1 f2
  have HTa := Lib.hid (HT0.out.trans HT1.out (S := fun _ => False) (fun k hk e => by omega))
  have HA1 := Lib.hid (HA0.out.touch HT1.out (by omega) (fun k hk e => by have := HqL.out k hk; omega) (fun k hk e => by have := HF.out k hk; omega))
  have hz1 := HT1.out.size
  have HGx := Lib.hid (show ∀ q, G q → q < W1.heap.size from fun q hq => by have := HG.out q hq; omega)
  have hYr1 := HYr.out.touch HTa.out (fun _ _ e => e)
  have HBy := Lib.hid (cmbytes_any G A B D k m n y W1 hYr1 HGx.out (by have := HYl.out; omega) (by have := HYl.out; omega) (by have := HYl.out; omega) HY64.out.1 HY64.out.2.1 HY64.out.2.2)
  have hBy := HBy.out
  rw [show (#[.int .i64 y.kind, .int .u64 y.client, .int .u64 y.req, .int .u64 y.id, .int .i64 y.con, .int .i64 y.at_, .int .i64 y.cal.off, .slice A y.cal.wk.length k, .slice B y.cal.cl.length m, .int .i64 y.tm.cal, .slice D y.tm.lv.length n, .int .i64 y.tm.rt, .int .i64 y.tm.bk] : Array Value) = cmA y A B D k m n from rfl] at hBy
  unfold CbPost at hBy
  have HCn := Lib.hid (cmA_size y A B D k m n)
  have HC1 := Lib.hid (cmA_one y A B D k m n)
  have HCo := Lib.hid (fun (hf : cmFit y) w1 hr1 hG1 => copied_any G A B D k m n y hf w1 hr1 hG1)
  have HYr1 := Lib.hid hYr1
  have k0 : (cmA y A B D k m n)[0]? = some (.int .i64 x.kind) := by rw [← hyk]; rfl
  have k2 : (cmA y A B D k m n)[2]? = some (.int .u64 y.req) := rfl
  obtain ⟨X, hX⟩ : ∃ X, X = cmA y A B D k m n := ⟨_, rfl⟩
  rw [← hX] at hBy HCn HC1 HCo HB1 k0 k2
  have HBy := Lib.hid hBy
  have HK0 := Lib.hid k0
  have HK2 := Lib.hid k2
  clear hYr1 hBy hX k0 k2 hyk
  cases hs : cmSound y
  · have HE2 := Lib.hid (show E = 2 by rw [HE.out, if_neg (by rw [hs]; simp)])
    have HC2 := Lib.hid (show c' = c by rw [HC'.out, HE2.out]; rfl)
    have HSd := Lib.hid (show bytesCE y = 2 by rw [bytesCE, hs]; rfl)
    rw [HSd.out] at HBy
    generalize bytesC y = L at *
    clear hs
    go_wp2_with (first
      | ((with_reducible apply HB1.out.ld rowCm HCn.out); exact rfl; exact rfl; exact rfl)
      | (go_at_call 23; go_must (refine HBy.out.mono ?_); rintro e w1 ⟨Ar, cap, rfl, -, -, -, t1⟩; have HT2 := Lib.hid t1; clear t1))
    go_ret
    rw [HE2.out, HC2.out]
    exact ClP.same HC0.out HF.out (HTa.out.trans HT2.out (fun _ _ e => e))
  have HSd := Lib.hid (show bytesC y = encC y ∧ bytesCE y = 0 by rw [bytesC, bytesCE, hs]; exact ⟨rfl, rfl⟩)
  rw [HSd.out.1, HSd.out.2] at HBy
  have hfit : cmFit y := ⟨hs, HY64.out⟩
  have HFit := Lib.hid hfit
  by_cases hk : 9 ≤ x.kind ∧ x.kind ≤ 11
  · have HE2 := Lib.hid (show E = 2 by rw [HE.out, if_neg (by rintro ⟨_, h⟩; exact h hk)])
    have HC2 := Lib.hid (show c' = c by rw [HC'.out, HE2.out]; rfl)
    have h3 : x.kind = 9 ∨ x.kind = 10 ∨ x.kind = 11 := by omega
    generalize encC y = L at *
    generalize x.kind = kd at *
    clear hs hk hfit
    rcases h3 with rfl | rfl | rfl
    all_goals
      go_wp2_with (first
        | ((with_reducible apply HB1.out.ld rowCm HCn.out); exact rfl; exact rfl; exact rfl)
        | (go_at_call 23; go_must (refine HBy.out.mono ?_); rintro e w1 ⟨Ar, cap, rfl, -, -, -, t1⟩; have HT2 := Lib.hid t1
           have k0 := (t1.blk HB1.out (fun e => e)).cell 0
           rw [HK0.out] at k0
           clear t1))
      go_ret
      rw [HE2.out, HC2.out]
      exact ClP.same HC0.out HF.out (HTa.out.trans HT2.out (fun _ _ e => e))
  have HE2 := Lib.hid (show E = 0 by rw [HE.out, if_pos ⟨hs, hk⟩])
  have HC2 := Lib.hid (show c' = { c with req := c.req + 1, busy := some y, waited := 0 } by rw [HC'.out, HE2.out]; rfl)
  have b9 : (x.kind == 9) = false := by simp; omega
  have b10 : (x.kind == 10) = false := by simp; omega
  have b11 : (x.kind == 11) = false := by simp; omega
  have HLn := Lib.hid (encC_len hs)
  have hyr := HYq.out
  rw [hyr] at HK2
  clear hk hs hfit hyr
  generalize x.kind = kd at *
  obtain ⟨L, hL⟩ : ∃ L, L = encC y := ⟨_, rfl⟩
  rw [← hL] at HBy HLn
  have HL := Lib.hid hL
  clear hL
  go_wp2_with (first
    | ((with_reducible apply HB1.out.ld rowCm HCn.out); exact rfl; exact rfl; exact rfl)
    | (go_at_call 23; go_must (refine HBy.out.mono ?_); rintro e w2 ⟨Ar, cap, rfl, hr2, hn2, hm2, t2⟩
       have HT2 := Lib.hid t2
       have HB2 := Lib.hid (t2.blk HB1.out (fun e => e))
       have HA2 := Lib.hid (HA1.out.far t2)
       have HRr2 := Lib.hid hr2
       have k0 := HB2.out.cell 0
       rw [HK0.out] at k0
       clear t2 hr2))
  have HBd := Lib.hid ((Touch.refl (fun _ => False) w2).drew.blk HB2.out (fun e => e))
  have HAd := Lib.hid (HA2.out.far (Touch.refl _ w2).drew)
  have HTd := Lib.hid ((HTa.out.trans HT2.out (fun _ _ e => e)).drew)
  have hz2 := HT2.out.size
  have hRd := HYr1.out.touch HT2.out.drew (fun _ _ e => e)
  have HRd := Lib.hid hRd
  clear k0 b9 b10 b11 hRd
  refine wp_region_plan [(1, 7), (1, 0), (1, 1), (1, 2), (1, 3), (1, 4), (1, 5), (1, 6), (2, 8), (0, 9), (0, 10), (2, 11), (0, 12), (0, 13), (2, 14), (0, 15), (0, 16), (2, 17), (0, 18), (0, 19), (0, 20), (2, 21)] (fun q => q = g) (by kernel_rfl) (by kernel_rfl) (fun c a d v w h => by cases d <;> exact h) ?_
  refine plan_hC rowCm rfl _ rfl rfl w.heap.size 0 rfl X HCn.out (fun wh hT => (hT.blk HBd.out (by omega)).whole) ?_
  go_frame
  iterate 5
    apply plan_h
    · rfl
    · rfl
    · intro wh hT
      go_simp
      try rfl
    go_frame
  iterate 1
    apply plan_h
    · rfl
    · rfl
    · intro wh hT
      have hf0 := show wh.cell? ⟨w.heap.size, 2, none⟩ = some (.int .u64 (c.req + 1 : Nat)) from ((hT.blk HBd.out (by omega)).cell 2).trans HK2.out
      go_simp
      try rfl
    go_frame
  iterate 1
    apply plan_h
    · rfl
    · rfl
    · intro wh hT
      go_simp
      try rfl
    go_frame
  refine plan_a1 rfl (by rfl) (fun Kc hKc => ?_)
  go_simp
  refine (HCo.out HFit.out _ (by exact HRd.out) (fun q hq => by have := HGx.out q hq; have : w2.drew.heap.size = w2.heap.size := rfl; omega)).mono ?_
  rintro e w5 ⟨A5, B5, D5, k5, m5, n5, rfl, hr5, t5⟩
  refine hKc _ _ ⟨t5.mono (fun _ _ e => e.elim), ?_⟩
  clear hKc Kc
  have HR5 := Lib.hid hr5
  have HT5 := Lib.hid t5
  have HA5 := Lib.hid (HAd.out.far t5)
  have HC5n := Lib.hid (cmA_size y A5 B5 D5 k5 m5 n5)
  have HC51 := Lib.hid (cmA_one y A5 B5 D5 k5 m5 n5)
  obtain ⟨C5, hC5⟩ : ∃ C5, C5 = cmA y A5 B5 D5 k5 m5 n5 := ⟨_, rfl⟩
  have HE5 := Lib.hid hC5
  rw [← hC5] at HC5n HC51 ⊢
  have z5 := t5.size
  clear hr5 t5 hC5
  have q4 := HA5.out.blk.cell 4
  have q5 := HA5.out.blk.cell 5
  rw [clC_lo c M (by omega)] at q4 q5
  simp at q4 q5
  have f4 := HA5.out.blk.frozen 4
  have f5 := HA5.out.blk.frozen 5
  obtain ⟨c1, hc1⟩ : ∃ c1 : Cl, c1 = { c with req := c.req + 1 } := ⟨_, rfl⟩
  obtain ⟨M1, hM1⟩ : ∃ M1 : ClM, M1 = { M with ent := .slice Ar L.length cap } := ⟨_, rfl⟩
  have hBa := (show Blk (w5.setCell ⟨g, 4, none⟩ (.int .u64 (c.req + 1 : Nat))) g 68 (clC c1 M) from (clC_set c c1 M M 4 (.int .u64 (c.req + 1 : Nat)) rfl rfl (by rw [hc1]; rfl) (by omega)) ▸ HA5.out.blk.set_ 4 (.int .u64 (c.req + 1 : Nat)))
  have HBb := Lib.hid (show Blk ((w5.setCell ⟨g, 4, none⟩ (.int .u64 (c.req + 1 : Nat))).setCell ⟨g, 5, none⟩ (.slice Ar L.length cap)) g 68 (clC c1 M1) from (clC_set c1 c1 M M1 5 (.slice Ar L.length cap) (by rw [hM1]) (by rw [hM1]) (by rw [hM1]; rfl) (by omega)) ▸ hBa.set_ 5 (.slice Ar L.length cap))
  have HTb := Lib.hid (((Touch.refl (fun q => q = g) w5).set (b := g) (o := 4) (fun _ => rfl) (.int .u64 (c.req + 1 : Nat))).set (b := g) (o := 5) (fun _ => rfl) (.slice Ar L.length cap))
  have HMn := Lib.hid (show M1.DC.size = 13 from hM1 ▸ HA5.out.dn)
  have HM1 := Lib.hid hM1
  have HCc := Lib.hid hc1
  clear hBa hM1 hc1
  iterate 2
    refine plan_s1 rfl (by rfl) (fun Kc hKc => ?_)
    go_simp
    first
      | (refine hKc _ ?_)
    clear hKc Kc
  refine plan_a1 rfl (by rfl) (fun Kc hKc => ?_)
  go_simp
  refine hKc _ _ ⟨(Touch.refl (fun q => q = g) _).set (b := g) (o := 4) (fun _ => rfl) _, ?_⟩
  clear hKc Kc
  iterate 2
    refine plan_s1 rfl (by rfl) (fun Kc hKc => ?_)
    go_simp
    first
      | (refine hKc _ ?_)
    clear hKc Kc
  refine plan_a1 rfl (by rfl) (fun Kc hKc => ?_)
  go_simp
  refine hKc _ _ ⟨(Touch.refl (fun q => q = g) _).set (b := g) (o := 5) (fun _ => rfl) _, ?_⟩
  clear hKc Kc
  iterate 2
    refine plan_s1 rfl (by rfl) (fun Kc hKc => ?_)
    go_simp
    first
      | (refine hKc _ ?_)
    clear hKc Kc
  refine plan_aM rowCm rfl rfl _ _ rfl g 6 rfl C5 rfl _ (clC c1 M1) HBb.out (by rw [clC_size HMn.out]; omega) HC5n.out HC51.out rfl ?_
  intro w6 hb6 t6 _
  rw [clC_setDC c1 M1 C5 HMn.out HC5n.out] at hb6
  have HB6 := Lib.hid hb6
  have HT6 := Lib.hid t6
  have q2 := hb6.cell 2
  rw [clC_lo c1 _ (by omega)] at q2
  simp at q2
  have f2 := hb6.frozen 2
  clear hb6 t6 q4 q5 f4 f5
  go_frame
  iterate 3
    refine plan_s1 rfl (by rfl) (fun Kc hKc => ?_)
    go_simp
    first
      | (refine hKc _ ?_)
    clear hKc Kc
  refine plan_a1 rfl (by rfl) (fun Kc hKc => ?_)
  go_simp
  refine hKc _ _ ⟨(Touch.refl (fun q => q = g) _).set (b := g) (o := 2) (fun _ => rfl) _, ?_⟩
  clear hKc Kc
  refine plan_done ?_
  go_wp2_with fail
  go_ret
  rw [HE2.out]
  have tF : Touch (fun q => q = g) w5 (w6.setCell ⟨g, 2, none⟩ (.int .i64 0)) := (HTb.out.trans HT6.out (fun _ _ e => e)).set (b := g) (o := 2) (fun _ => rfl) (.int .i64 0)
  have hb7 : Blk (w6.setCell ⟨g, 2, none⟩ (.int .i64 0)) g 68 (clC c' { M1 with DC := C5 }) := (clC_set c1 c' { M1 with DC := C5 } { M1 with DC := C5 } 2 (.int .i64 0) rfl rfl (by rw [HC2.out, HCc.out]; rfl) (by omega)) ▸ HB6.out.set_ 2 (.int .i64 0)
  have z7 := tF.size
  have hd : c'.done = c.done := by rw [HC2.out]
  have hbz : c'.busy = some y := by rw [HC2.out]
  have e1 := HM1.out
  subst e1
  have hz5 : w2.heap.size ≤ w5.heap.size := z5
  have hF := HF.out
  have hr2 := ((HRr2.out.lt2n.touch (Touch.refl (fun _ => False) w2).drew (fun _ _ e => e)).touch HT5.out (fun _ _ e => e)).touch tF (fun q hq e => by have := hq.1; omega)
  have hr5 := HR5.out.touch tF (fun q hq e => by have := hq.1; have : w2.drew.heap.size = w2.heap.size := rfl; omega)
  refine ⟨{ M with ent := .slice Ar L.length cap, DC := C5 }, fun q => F q ∨ (w.heap.size < q ∧ q < w5.heap.size), rfl, ⟨hb7, HC5n.out, HC51.out, ?_, ?_, ?_, ?_, ?_, ?_, HOk.out⟩, ?_, ?_, ?_, .inl rfl⟩
  · rw [hbz]
    have hL := HL.out
    subst hL
    refine ⟨⟨Ar, cap, rfl, hn2, hm2, hr2.mono (fun q hq => .inr ⟨by have := hq.1; omega, by have := hq.2; omega⟩)⟩, A5, B5, D5, k5, m5, n5, HE5.out, hr5.mono (fun q hq => .inr ⟨?_, hq.2⟩)⟩
    have := hq.1
    have : w2.drew.heap.size = w2.heap.size := rfl
    omega
  · rw [hd]
    exact HA5.out.own.touch tF (fun k hk e => (HA5.out.q k hk).1 e)
  · rw [hd]; exact HA5.out.xs
  · exact fun z hz => ((HA5.out.xr z hz).touch tF (fun k hk e => HA5.out.nF (e ▸ hk))).mono (fun q hq => .inl hq)
  · rintro (e | e)
    · exact HA5.out.nF e
    · omega
  · intro k hk
    refine ⟨(HA5.out.q k hk).1, ?_⟩
    rintro (e | e)
    · exact (HA5.out.q k hk).2 e
    · have := HqL.out k hk; omega
  · rintro k (e | e)
    · have := hF k e; omega
    · omega
  · rintro k (e | e)
    · exact .inl e
    · exact .inr (by omega)
  · exact ((HTd.out.trans HT5.out (fun _ _ e => e)).mono (fun _ _ e => e.elim)).trans tF (fun k hk e => .inl e)
end Go.Proofs.Ytlcefchbfjfifaa
