/- The walk of SessionPlays. The statement SessionPlaysSaid: the law's walk, put under the given row. No condition. -/
import Derived.Test.YtmgmjehebbggaaaVSesX
import Derived.Test.YtmgmjehebbggaaaVSesF
import Derived.Test.YtmgmjehebbggaaaRows
import Derived.Test.YtmgmjehebbggaaaVArgsO
import Derived.ProofKit
import Derived.OpenShut
import Derived.ShutString
import Derived.ChangeOld
import Derived.Below
section
namespace Go.Proofs.Ytmgmjehebbggaaa
open Go.RowKit Go.Maps
set_option maxHeartbeats 4000000
set_option maxRecDepth 100000
set_option linter.unusedVariables false
attribute [local irreducible] wpPlan

theorem zRT_eq : RT.zero.cells = Try.zeroCells46 := by kernel_rfl
/-- In the loops that call do: the table at g, the document's table at tb. -/
structure PlL (w0 w : World) (g b tb : Nat) (s : SesS) (T : RT) (F : Nat → Prop) : Prop where
  ses : SesAt w g b s F
  nF : ∀ k, F k → k ≠ tb
  hT : RTs T s
  hr : RTr T s w (fun k => k < w0.heap.size)
  good : SesGood s
  tab : Blk w tb 46 T.cells
  t : Touch (fun _ => False) w0 w
  ge : w0.heap.size ≤ g ∧ w0.heap.size ≤ b ∧ w0.heap.size ≤ tb
  ne : tb ≠ g ∧ tb ≠ b
theorem PlL.far {w0 w w' : World} {g b tb : Nat} {s : SesS} {T : RT} {F : Nat → Prop} (h : PlL w0 w g b tb s T F) (t : Touch (fun _ => False) w w') : PlL w0 w' g b tb s T F :=
  ⟨h.ses.touch t (fun e => e) (fun e => e) (fun _ _ e => e), h.nF, h.hT, h.hr.touch t (fun _ _ e => e), h.good, t.blk h.tab (fun e => e), h.t.trans t (fun _ _ e => e), h.ge, h.ne⟩
/-- After do, ahead of the store. -/
structure PlM (w0 w : World) (g b tb : Nat) (s : SesS) (T : RT) (F : Nat → Prop) (C : Array Value) : Prop where
  ses : SesAt w g b s F
  nF : ∀ k, F k → k ≠ tb
  hT : RTs T s
  hr : RTr T s w (fun k => k < w0.heap.size)
  good : SesGood s
  tab : Blk w tb 46 C
  t : Touch (fun _ => False) w0 w
  ge : w0.heap.size ≤ g ∧ w0.heap.size ≤ b ∧ w0.heap.size ≤ tb
  ne : tb ≠ g ∧ tb ≠ b
theorem PlM.far {w0 w w' : World} {g b tb : Nat} {s : SesS} {T : RT} {F : Nat → Prop} {C : Array Value} (h : PlM w0 w g b tb s T F C) (t : Touch (fun _ => False) w w') : PlM w0 w' g b tb s T F C :=
  ⟨h.ses.touch t (fun e => e) (fun e => e) (fun _ _ e => e), h.nF, h.hT, h.hr.touch t (fun _ _ e => e), h.good, t.blk h.tab (fun e => e), h.t.trans t (fun _ _ e => e), h.ge, h.ne⟩
theorem PlM.put {w0 w w' : World} {g b tb : Nat} {s : SesS} {T : RT} {F : Nat → Prop} {C : Array Value} (h : PlM w0 w g b tb s T F C) (t : Touch (fun q => q = tb) w w') (hb : Blk w' tb 46 T.cells) : PlL w0 w' g b tb s T F :=
  ⟨h.ses.touch t (fun e => h.ne.1 e.symm) (fun e => h.ne.2 e.symm) (fun k hk e => h.nF k hk e), h.nF, h.hT, h.hr.touch t (fun k hk e => by have := h.ge.2.2; omega), h.good, hb, h.t.trans t (fun k hk e => by have := h.ge.2.2; omega), h.ge, h.ne⟩
theorem PlL.do_ {w0 w : World} {g b tb : Nat} {s : SesS} {T : RT} {F : Nat → Prop} (h : PlL w0 w g b tb s T F) (o : SOpV) (ho : o.ok w0) (e : Ending) (w' : World)
    (hq : DoQ g b F (fun k => k < w0.heap.size) w e w') : ∃ s' T' F', e = .returned (.tuple #[.agg T'.cells, .bool true]) ∧ PlM w0 w' g b tb s' T' F' T.cells ∧ Touch (fun k => k = b) w w' := by
  obtain ⟨T', s', F', he, hs, hF, hT, hr, hg, t⟩ := hq
  have htl := h.tab.lt
  refine ⟨s', T', F', he, ⟨hs, fun k hk => ?_, hT, hr, hg, t.blk h.tab h.ne.2, h.t.trans t (fun k hk e => by have := h.ge.2.1; omega), h.ge, h.ne⟩, t⟩
  rcases hF k hk with e | e
  · exact h.nF k e
  · omega
theorem PlL.doCall {w0 w : World} {g b tb : Nat} {s : SesS} {T : RT} {F : Nat → Prop} (h : PlL w0 w g b tb s T F) (o : SOpV) (ho : o.ok w0) :
    Calls Try.prog 13 #[.pointer (some ⟨g, 0, none⟩), .agg T.cells, .agg o.cells.toArray] w fun e w' => ∃ s' T' F', e = .returned (.tuple #[.agg T'.cells, .bool true]) ∧ PlM w0 w' g b tb s' T' F' T.cells ∧ Touch (fun k => k = b) w w' := by
  obtain ⟨h1, h2, h3, h4, h5⟩ := ho
  have hbl := h.ses.map.choose_spec.1.lt
  exact (do20_any g b s F w h.ses T h.hT _ h.hr (fun k hk => ⟨by have := h.ge.2.1; omega, by have := h.t.size; omega⟩) h.good o.kind o.client o.req h1 h2 o.a h3 o.A o.c (h5.touch h.t (fun _ _ e => e)) _ o.opc).mono fun e w' hq => h.do_ o ⟨h1, h2, h3, h4, h5⟩ e w' hq
theorem sop_one (o : SOpV) : o.cells.toArray.all (·.oneCell') = true := by simp [SOpV.cells, Value.oneCell']
theorem walk_SessionPlays {w : World} (A0 : Option Addr) (n0 c0 : Nat) (l0 : List SOpV) (e0 : l0.length = n0) (o0 : ∀ x ∈ l0, x.ok w) (z0 : ∀ a ∈ l0, a.cells.length = 17) (g0 : A0 = none → c0 = 0) (u0 : n0 ≤ c0) (m0 : c0 ≤ maxLen) (s0 : RdZ w (fun k => k < w.heap.size) 17 A0 n0 (l0.flatMap SOpV.cells)) :
    Calls Try.prog 4 #[.slice A0 n0 c0] w fun e w' => e = .returned (.bool true) ∧ Below w.heap.size w w' := by
  subst e0
  unfold maxLen at m0
  have hb0 : l0.length ≤ 9223372036854775807 := by omega
  have HS0 := Lib.hid s0
  have HO0 := Lib.hid o0
  have HLi := Lib.hid (light20_any _ A0 c0 l0 w s0 hb0)
  clear s0 o0 z0 g0 u0 m0
  cases hl : lightB l0
  · rw [hl] at HLi
    clear hl
    go_enter Try.func4, Try.ntmps4
    go_wp2_with (first
      | (go_at_call 7; go_must (refine HLi.out.mono ?_); rintro e w1 ⟨rfl, t1⟩; have HT := Lib.hid t1; clear t1)
      | (go_at_call 8; go_must (refine (lives20_any _).mono ?_); rintro e w2 ⟨rfl, t2⟩; have HT := Lib.hid (HT.out.trans t2 (fun _ _ e => e)); clear t2))
    go_ret
    exact ⟨rfl, HT.out.below⟩
  · rw [hl] at HLi
    have hlen : l0.length ≤ 100 := by
      simp only [lightB, Bool.and_eq_true, decide_eq_true_eq] at hl; exact hl.2
    clear hl
    go_enter Try.func4, Try.ntmps4
    go_wp2_with (first
      | (go_at_call 7; go_must (refine HLi.out.mono ?_); rintro e w1 ⟨rfl, t1⟩; have HT := Lib.hid t1; clear t1)
      | (go_at_call 9
         go_must (refine (sempty_any _).mono ?_)
         rintro e w2 ⟨g, b, rfl, hs, hg, hb, t2⟩
         have hbl := hs.map.choose_spec.1.lt
         have hgl := hs.blk.lt
         have H0 := Lib.hid (show PlL w (w2.alloc (.cells Try.zeroCells46 46)) g b w2.heap.size (fun _ => none) RT.zero _ from by
           have tt := HT.out.trans t2 (fun _ _ e => e)
           have t3 := (Touch.refl (fun _ => False) w2).alloc (.cells Try.zeroCells46 46)
           have hz1 := HT.out.size
           refine ⟨hs.lt_.touch t3 (fun e => e) (fun e => e) (fun _ _ e => e), fun k hk => by have := hk.2; omega, RTs.zero, RTr.zero _ _, SesGood.none_, ?_, tt.trans t3 (fun _ _ e => e), ⟨by omega, by omega, tt.size⟩, by omega, by omega⟩
           rw [zRT_eq]; exact Blk.new w2 _ _)
         clear hs hg hb t2 hbl hgl))
    generalize hv : w2.alloc (.cells Try.zeroCells46 46) = w3 at *
    go_loopw [16] (fun i wr => ∃ j : Nat, j ≤ l0.length ∧ i = .int .i64 j ∧ ∃ s T F, PlL w wr g b w2.heap.size s T F) (fun i _ => l0.length - (intOf i).toNat)
    case atStart => exact ⟨0, by omega, rfl, _, _, _, H0.out⟩
    case round =>
      clear H0
      obtain ⟨j, hj, rfl, s, T, F, hL⟩ := hrel
      have HL := Lib.hid hL
      clear hL
      by_cases hjk : j < l0.length
      · have ha : l0[j]? = some (l0[j]'hjk) := List.getElem?_eq_getElem _
        have HI := Lib.hid (HO0.out _ (List.getElem_mem hjk))
        obtain ⟨a, off, rfl, -, -, hc⟩ := (HS0.out.touch HL.out.t (fun _ _ e => e)).at_ (fun a _ => sop_len a) rfl ha
        generalize l0[j]'hjk = o at *
        have HCn := Lib.hid (show o.cells.toArray.size = 17 from rfl)
        have HC1 := Lib.hid (sop_one o)
        have HRg := Lib.hid (show wr.rangeAt a (off + j * 17) o.cells.toArray.toList from fun k u hk => by rw [Nat.add_assoc]; exact hc k u (by simpa using hk))
        have HN := Lib.hid T.cells_size
        have hk1 := o.opc.k1
        have HQ := Lib.hid (show o.client < 18446744073709551616 from HI.out.1)
        obtain ⟨OC, hOC⟩ : ∃ OC, OC = o.cells.toArray := ⟨_, rfl⟩
        have hL1 := HL.out.far ((Touch.refl (fun _ => False) wr).alloc (.cells OC 37))
        have hD := hL1.doCall o HI.out
        rw [← hOC] at HCn HC1 HRg hk1 hD
        have HD := Lib.hid hD
        have HL1 := Lib.hid hL1
        have HBo := Lib.hid (Blk.new wr 37 OC)
        have HK1 := Lib.hid hk1
        generalize o.client = c at *
        have hbw := HL.out.ses.map.choose_spec.1.lt
        have htw := HL.out.tab.lt
        clear hc ha hL1 hk1 hOC hD
        go_wp2_with (first
          | (refine loadC rowOp _ rfl rfl a (off + j * 17) rfl OC HCn.out HRg.out ?_)
          | (refine storeC rowOp _ _ rfl rfl wr _ OC rfl rfl rfl rfl HCn.out HC1.out ?_)
          | ((with_reducible apply HL1.out.tab.ld rowRt HN.out); exact rfl; exact rfl; exact rfl)
          | ((with_reducible apply HBo.out.ld rowOp HCn.out); exact rfl; exact rfl; exact rfl)
          | (go_at_call 13; go_must (refine HD.out.mono ?_); rintro e w4 ⟨s', T', F', rfl, hM, t4⟩
             have t7 := (Touch.refl (fun _ => False) w4).alloc (.cells T'.cells 46)
             have HM := Lib.hid (hM.far t7)
             have HN' := Lib.hid T'.cells_size
             have H1' := Lib.hid T'.cells_one
             have HB7 := Lib.hid (Blk.new w4 46 T'.cells)
             have HB6 := Lib.hid ((t4.blk HBo.out (by omega)).alloc (.cells T'.cells 46))
             clear t7 t4 hM)
          | (refine storeC rowRt _ _ rfl rfl w4 _ T'.cells rfl rfl rfl (by kernel_rfl) HN'.out H1'.out ?_)
          | ((with_reducible apply HB7.out.ld rowRt HN'.out); exact rfl; exact rfl; exact rfl)
          | ((with_reducible apply HM.out.tab.st rowRt HN.out HN'.out H1'.out); exact rfl; exact rfl; exact rfl; exact rfl
             intro w5 hb5 t5
             have HL5 := Lib.hid (HM.out.put t5 hb5)
             have HB65 := Lib.hid (t5.blk HB6.out (by omega))
             clear t5 hb5))
        have q1 := HB65.out.cell 1
        rw [HK1.out] at q1
        have HL6 := Lib.hid (HL5.out.far (Touch.refl _ _).drew)
        have HLs := Lib.hid (slast_any g b s' F' _ HL6.out.ses c HQ.out)
        have HLr := Lib.hid (fun w1 => flast20_any T' s' HL6.out.hT HL6.out.ses.ok c w1)
        generalize lastV s' c = lv at *
        have hbe : (lv == lv) = true := by simp
        refine wp_region_plan [(0, 0), (0, 1), (0, 2), (0, 3), (0, 4), (0, 5), (0, 6), (1, 7), (0, 8), (0, 9), (2, 10), (0, 11), (0, 12)] (fun _ => False) (by kernel_rfl) (by kernel_rfl) (fun c a d v w h => by cases d <;> exact h) ?_
        iterate 7
          refine plan_s1 rfl (by rfl) (fun Kc hKc => ?_)
          go_simp
          first
            | (refine hKc _ ?_)
            | (refine ⟨_, calls_flip (HLs.out), hKc _ ?_⟩)
          clear hKc Kc
        refine plan_hC rowRt rfl _ rfl rfl w2.heap.size 0 rfl T'.cells HN'.out (fun wh hT => (hT.blk HL6.out.tab (fun e => e)).whole) ?_
        go_frame
        iterate 2
          refine plan_s1 rfl (by rfl) (fun Kc hKc => ?_)
          go_simp
          first
            | (refine hKc _ ?_)
          clear hKc Kc
        refine plan_a1 rfl (by rfl) (fun Kc hKc => ?_)
        go_simp
        refine (HLr.out _).mono ?_
        rintro e w7 ⟨rfl, t7⟩
        have HL7 := Lib.hid (HL6.out.far t7)
        refine hKc _ _ ⟨t7, ?_⟩
        clear hKc Kc
        clear t7
        iterate 2
          refine plan_s1 rfl (by rfl) (fun Kc hKc => ?_)
          go_simp
          first
            | (refine hKc _ ?_)
          clear hKc Kc
        refine plan_done ?_
        go_wp2_with fail
        go_roundw
        case rel => exact ⟨j + 1, by omega, by go_num, s', T', F', HL7.out⟩
        case measure => simp [intOf]; omega
      · obtain rfl : j = l0.length := by omega
        have HB := Lib.hid (fun w1 (h1 : PlL w w1 g b w2.heap.size s T F) => bytes20_any g b s F w1 h1.ses h1.good)
        have HF := Lib.hid (fun w1 (h1 : PlL w w1 g b w2.heap.size s T F) => fput20_any T s h1.hT h1.ses.ok h1.good _ w1 h1.hr)
        have HN := Lib.hid T.cells_size
        obtain ⟨S, hS⟩ : ∃ S : ByteArray, S = ⟨(encS s).toArray⟩ := ⟨_, rfl⟩
        rw [show strS s = .string S by rw [hS]; rfl] at HB
        have hbe : (S == S) = true := by cases S with | mk d => exact beq_self_eq_true d
        have HV := Lib.hid hS
        clear hS
        generalize encS s = E at *
        go_wp2_with fail
        have HL6 := Lib.hid (HL.out.far (Touch.refl _ _).drew)
        refine wp_region_plan [(0, 0), (1, 2), (2, 1), (2, 3), (0, 4), (0, 5), (0, 6), (2, 7), (0, 8), (0, 9)] (fun _ => False) (by kernel_rfl) (by kernel_rfl) (fun c a d v w h => by cases d <;> exact h) ?_
        iterate 1
          refine plan_s1 rfl (by rfl) (fun Kc hKc => ?_)
          go_simp
          first
            | (refine hKc _ ?_)
          clear hKc Kc
        refine plan_hC rowRt rfl _ rfl rfl w2.heap.size 0 rfl T.cells HN.out (fun wh hT => (hT.blk HL6.out.tab (fun e => e)).whole) ?_
        go_frame
        refine plan_a1 rfl (by rfl) (fun Kc hKc => ?_)
        go_simp
        refine (HB.out _ HL6.out).mono ?_
        rintro e w7 ⟨rfl, t7⟩
        have HL7 := Lib.hid (HL6.out.far t7)
        refine hKc _ _ ⟨t7, ?_⟩
        clear hKc Kc
        clear t7
        refine plan_a1 rfl (by rfl) (fun Kc hKc => ?_)
        go_simp
        refine (HF.out _ HL7.out).mono ?_
        rintro e w8 ⟨v8, k8, rfl, ho8, hk8, t8⟩
        have HL8 := Lib.hid (HL7.out.far t8)
        refine hKc _ _ ⟨t8, ?_⟩
        clear hKc Kc
        obtain ⟨A8, c8, rfl, -, -, -, hr8⟩ := ho8.rd
        have hst := Rd.str hr8 c8
        try simp only [List.length_map] at hst
        rw [← HV.out] at hst
        clear t8 ho8 hr8 hk8
        try simp only [List.length_map]
        iterate 3
          refine plan_s1 rfl (by rfl) (fun Kc hKc => ?_)
          go_simp
          first
            | (refine hKc _ ?_)
          clear hKc Kc
        refine plan_a1 rfl (by rfl) (fun Kc hKc => ?_)
        go_simp
        refine (lives20_any _).mono ?_
        rintro e w9 ⟨rfl, t9⟩
        have HL9 := Lib.hid (HL8.out.far t9)
        refine hKc _ _ ⟨t9, ?_⟩
        clear hKc Kc
        clear t9
        iterate 2
          refine plan_s1 rfl (by rfl) (fun Kc hKc => ?_)
          go_simp
          first
            | (refine hKc _ ?_)
          clear hKc Kc
        refine plan_done ?_
        go_wp2_with fail
        go_ret
        exact ⟨rfl, HL9.out.t.below⟩
end Go.Proofs.Ytmgmjehebbggaaa
end

section
namespace Go.Proofs.Ytmgmjehebbggaaa.sessionPlays
open Go.ChangeShapes Go.WideShapes Go.ChangeAt Go.RowKit Go.Deep
open Go.ChangeMaps (open_string shut_string)
set_option linter.unusedVariables false

theorem own : ownKnob Try.prog.godebug = none := by kernel_rfl
theorem laidOut : laidOutB Try.prog = true := by kernel_rfl

set_option maxRecDepth 100000 in
theorem lifted (os : Os) (started : os.Started) (H : Type) (enc : TypeId × Value → H) :
    ReturnsInHanded {} Try.checked os 4 .any (Rows.sessionPlaysSpec.pre6 enc Try.prog Try.f4 Rows.sessionPlaysRow.domain false) (Rows.sessionPlaysSpec.post enc Try.prog Try.f4 false true false false) := by
  refine returnsInHanded_of_change (C := Try.checked) own started (by kernel_rfl) Try.func4
    (ChangeSpec.witness6 (enc := enc) (C := Try.checked) false ⟨#[], #[.slice none 0 0], []⟩ 8 (by kernel_rfl) (by kernel_rfl) (by kernel_rfl) (by kernel_rfl)) ?_
  intro W base args ds gs before hval0 hW hcnd _
  have hval : ∀ (j : Nat) t v, Try.f4.params[j]? = some t → args[j]? = some v → Value.okWide Try.prog W .any base t v := hval0
  have hW' := hW
  obtain ⟨p, q, hA0, hV, rfl, hfz, hnd⟩ := hW
  have hA : DataW.TrodAll enc Try.prog W 0 (fun _ => true) true Try.f4.params.toList args.toList ds p := hA0
  rw [Try.params4] at hA hval
  obtain ⟨v0, vs0, d0, ds0, p0, q0, hargs, rfl, rfl, h0, r0⟩ := trodAll_cons hA
  obtain ⟨rfl, rfl, rfl⟩ := trodAll_nil r0
  obtain rfl : args = #[v0] := by cases args; simp_all
  obtain ⟨rfl, rfl⟩ := trodVars_none hV
  obtain ⟨A0, n0, c0, rfl⟩ := okWide_slice Try.underlying22 (hval 0 22 v0 rfl rfl)
  have k0 := h0
  have lt0 : ∀ x ∈ p0, x.block < W.heap.size := by obtain ⟨m, hm⟩ := k0; exact DataW.trod_lt m _ _ _ hm
  obtain ⟨l0, e0, o0, z0, g0, u0, m0, s0⟩ := open_list SOpV.cells (fun x => x.ok W) Try.underlying22 (sz := 17) (by kernel_rfl) (by decide) (fun _ _ _ hx => elem_sop hx) A0 n0 c0 rfl h0
  clear hA0 hval0
  refine (walk_SessionPlays (w := W) A0 n0 c0 l0 e0 o0 z0 g0 u0 m0 s0).mono fun e W' ⟨he, bel⟩ => ?_
  subst he
  exact ⟨_, rfl, _, _, _, [], _, [], hW', trodAll_mk1 (shut_bool Try.underlying4 _), (trodAll_cons_mk (Below.trod laidOut (by kernel_rfl) (of_decide_eq_true (by kernel_rfl)) k0 bel lt0) trodAll_mk0), rfl, bel.frame _, fun h => by cases h⟩

theorem over : Rows.sessionPlaysRow.holds Try.pinned (OpenSpec.ofChange Rows.sessionPlaysSpec) :=
  OpenClaim.holds_of_wide 4 Try.f4 rfl rfl rfl rfl rfl rfl rfl ⟨rfl, rfl, rfl, rfl, rfl⟩ rfl rfl rfl rfl rfl (by kernel_rfl) Try.func4 (by kernel_rfl)
    (of_decide_eq_true (by kernel_rfl)) (by unfold Func.isWrapper; first | (rw [if_pos (by decide +kernel)]; kernel_rfl) | (rw [if_neg (by decide +kernel)]; exact ⟨rfl, rfl⟩))
    (fun os started H enc _ => lifted os started H enc)

theorem proved : Rows.SessionPlaysSaid := over
#print axioms proved
end Go.Proofs.Ytmgmjehebbggaaa.sessionPlays
end
