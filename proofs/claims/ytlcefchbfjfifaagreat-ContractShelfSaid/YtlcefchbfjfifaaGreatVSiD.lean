/- The statement ContractShelfSaid: the law's walk, put under the given row. No condition. ContractReads walked. The statement ContractReadsSaid: the law's walk, put under the given row. No condition. slices.Clone at levels, contract.Copy: the new row is the call's own. (written by gensd.py) -/
import Derived.Test.YtlcefchbfjfifaaGreatRows
import Derived.Test.YtlcefchbfjfifaaGreatVSiB
import Derived.ProofKit
import Derived.OpenShut
import Derived.ShutString
import Derived.ChangeOld
import Derived.Below
section
namespace Go.Proofs.YtlcefchbfjfifaaGreat.contractShelf
open Go.ChangeShapes Go.WideShapes Go.ChangeAt Go.RowKit Go.Deep
open Go.ChangeMaps (open_string shut_string)
set_option linter.unusedVariables false

theorem own : ownKnob Tryz.prog.godebug = none := by kernel_rfl
theorem laidOut : laidOutB Tryz.prog = true := by kernel_rfl

set_option maxRecDepth 100000 in
theorem lifted (os : Os) (started : os.Started) (H : Type) (enc : TypeId × Value → H) :
    ReturnsInHanded {} Tryz.checked os 6 .any (Rows.contractShelfSpec.pre6 enc Tryz.prog Tryz.f6 Rows.contractShelfRow.domain false) (Rows.contractShelfSpec.post enc Tryz.prog Tryz.f6 false true false false) := by
  refine returnsInHanded_of_change (C := Tryz.checked) own started (by kernel_rfl) Tryz.func6
    (ChangeSpec.witness6 (enc := enc) (C := Tryz.checked) false ⟨#[], #[.slice none 0 0, .int .i64 0], []⟩ 8 (by kernel_rfl) (by kernel_rfl) (by kernel_rfl) (by kernel_rfl)) ?_
  intro W base args ds gs before hval0 hW hcnd _
  have hval : ∀ (j : Nat) t v, Tryz.f6.params[j]? = some t → args[j]? = some v → Value.okWide Tryz.prog W .any base t v := hval0
  have hW' := hW
  obtain ⟨p, q, hA0, hV, rfl, hfz, hnd⟩ := hW
  have hA : DataW.TrodAll enc Tryz.prog W 0 (fun _ => true) true Tryz.f6.params.toList args.toList ds p := hA0
  rw [Tryz.params6] at hA hval
  obtain ⟨v0, vs0, d0, ds0, p0, q0, hargs, rfl, rfl, h0, r0⟩ := trodAll_cons hA
  obtain ⟨v1, vs1, d1, ds1, p1, q1, rfl, rfl, rfl, h1, r1⟩ := trodAll_cons r0
  obtain ⟨rfl, rfl, rfl⟩ := trodAll_nil r1
  obtain rfl : args = #[v0, v1] := by cases args; simp_all
  obtain ⟨rfl, rfl⟩ := trodVars_none hV
  obtain ⟨A0, n0, c0, rfl⟩ := okWide_slice Tryz.underlying48 (hval 0 48 v0 rfl rfl)
  have k0 := h0
  have lt0 : ∀ x ∈ p0, x.block < W.heap.size := by obtain ⟨m, hm⟩ := k0; exact DataW.trod_lt m _ _ _ hm
  obtain ⟨l0, e0, o0, z0, g0, u0, m0, s0⟩ := open_list SOpV.cells (SOpV.ok W) Tryz.underlying48 (sz := 9) (by kernel_rfl) (by decide) (fun _ _ _ hx => elem_sop hx) A0 n0 c0 rfl h0
  obtain ⟨a1, rfl, rfl, rfl, w1⟩ := open_int Tryz.underlying3 (hval 1 3 v1 rfl rfl) h1
  have k1 := w1
  simp [Lit.wf, IntKind.min, IntKind.max, IntKind.signed, IntKind.bits] at k1
  clear hA0 hval0
  refine (walk_ContractShelf (w := W) A0 n0 c0 l0 e0 o0 z0 g0 u0 m0 s0 a1 k1).mono fun e W' ⟨he, bel⟩ => ?_
  subst he
  exact ⟨_, rfl, _, _, _, [], _, [], hW', trodAll_mk1 (shut_bool Tryz.underlying4 _), (trodAll_cons_mk (Below.trod laidOut (by kernel_rfl) (of_decide_eq_true (by kernel_rfl)) k0 bel lt0) (trodAll_cons_mk (shut_int Tryz.underlying3 w1) trodAll_mk0)), rfl, bel.frame _, fun h => by cases h⟩

theorem over : Rows.contractShelfRow.holds Tryz.pinned (OpenSpec.ofChange Rows.contractShelfSpec) :=
  OpenClaim.holds_of_wide 6 Tryz.f6 rfl rfl rfl rfl rfl rfl rfl ⟨rfl, rfl, rfl, rfl, rfl⟩ rfl rfl rfl rfl rfl (by kernel_rfl) Tryz.func6 (by kernel_rfl)
    (of_decide_eq_true (by kernel_rfl)) (by unfold Func.isWrapper; first | (rw [if_pos (by decide +kernel)]; kernel_rfl) | (rw [if_neg (by decide +kernel)]; exact ⟨rfl, rfl⟩))
    (fun os started H enc _ => lifted os started H enc)

theorem proved : Rows.ContractShelfSaid := over
#print axioms proved
end Go.Proofs.YtlcefchbfjfifaaGreat.contractShelf
end

section
namespace Go.Proofs.YtlcefchbfjfifaaGreat
open Go.RowKit Cal Go.Maps
set_option maxHeartbeats 4000000
set_option maxRecDepth 100000
set_option linter.unusedVariables false
attribute [local irreducible] wpPlan

theorem Rd.front {w : World} {F : Nat → Prop} {g off n : Nat} {l l' : List UInt8} (h : Rd w F (some ⟨g, off, none⟩) n ((l ++ l').map B8)) : Rd w F (some ⟨g, off, none⟩) l.length (l.map B8) := by
  refine ⟨by simp, fun hl => ?_⟩
  have hn := h.1
  simp at hn
  obtain ⟨g', off', e, h1, h2, h3⟩ := h.2 (by omega)
  injection e with e; injection e with e1 e2
  subst e1 e2
  refine ⟨g, off, rfl, h1, h2, fun j u hj => h3 j u ?_⟩
  rw [List.map_append, List.getElem?_append_left]
  · exact hj
  · exact (List.getElem?_eq_some_iff.1 hj).1
theorem walk_ContractReads {w : World} (D : Option Addr) (nd cd : Nat) (lb : List UInt8) (e1 : lb.length = nd) (g1 : D = none → cd = 0) (u1 : nd ≤ cd) (m1 : cd ≤ maxLen) (s1 : Rd w (fun k => k < w.heap.size) D nd (lb.map B8))
    (a1 : Int) (k1 : -9223372036854775808 ≤ a1 ∧ a1 ≤ 9223372036854775807) :
    Calls Tryz.prog 7 #[.slice D nd cd, .int .i64 a1] w fun e w' => e = .returned (.bool true) ∧ Below w.heap.size w w' := by
  subst e1
  have HNa := Lib.hid (show inN a1 from k1)
  clear k1 g1
  by_cases hbig : 3000 < lb.length
  · have hb : (3000 : Int) < (lb.length : Int) := by omega
    go_enter Tryz.func7, Tryz.ntmps7
    go_wp2_with (go_at_call 8; go_must (refine (lives14_any _).mono ?_); rintro e w2 ⟨rfl, t2⟩; have HT := Lib.hid t2; clear t2)
    go_ret
    exact ⟨rfl, HT.out.below⟩
  have hb : ¬ (3000 : Int) < (lb.length : Int) := by omega
  obtain ⟨W, hW⟩ : ∃ W, W = (w.alloc (.cells #[.slice D lb.length cd, .bool false] 103)).alloc (.cells #[.slice D lb.length cd, .bool false] 44) := ⟨_, rfl⟩
  have hT0 : Touch (fun _ => False) w W := hW ▸ ((Touch.refl _ w).alloc _).alloc _
  have hzW : W.heap.size = w.heap.size + 2 := by rw [hW]; simp
  have hR0 := s1.touch hT0 (fun _ _ e => e)
  have HD := Lib.hid (show RdAt W w.heap.size (fun k => k < w.heap.size) lb false from ⟨by omega, D, cd, u1, m1, hW ▸ (Blk.new w 103 #[.slice D lb.length cd, .bool false]).alloc _, hR0⟩)
  have HE := Lib.hid (show RfAt W (w.heap.size + 1) (fun k => k < w.heap.size) lb false from ⟨by omega, D, cd, u1, m1, hW ▸ (by simpa using Blk.new (w.alloc (.cells #[.slice D lb.length cd, .bool false] 103)) 44 #[.slice D lb.length cd, .bool false]), hR0⟩)
  have HT0 := Lib.hid hT0
  have HWe := Lib.hid hW.symm
  have HS1 := Lib.hid s1
  have hu1 := u1
  unfold maxLen at m1
  clear hT0 hR0 hW s1
  go_enter Tryz.func7, Tryz.ntmps7
  go_wp2_with (go_at_call 16; go_must (refine (open_any _ _ _ _).mono ?_); rintro e wo ⟨rfl, rfl⟩)
  rw [HWe.out]
  refine (hload_any w.heap.size (fun k => k < w.heap.size) false lb W HD.out (by omega) (fun k hk => by omega)).mono ?_
  rintro e wa (⟨hno, rfl, hra, ta⟩ | ⟨hyes, gs, b1, b2, x, R, X, rfl, hsh, hge, hrx, hra, ta⟩)
  · -- nothing is read
    have hrs : rdShS (false, lb) = (true, []) := by rw [rdShS, hno]; rfl
    have hza := ta.size
    have HEa := Lib.hid (rfAt_touch HE.out ta (by omega) (fun k hk => by omega))
    have HDa := Lib.hid hra
    have HTa := Lib.hid (show Touch (fun _ => False) w wa from HT0.out.trans ta (fun q hq e => by omega))
    have HFl := Lib.hid (fun w1 (h1 : RfAt w1 (w.heap.size + 1) (fun k => k < w.heap.size) lb false) (hg : w.heap.size + 1 < w1.heap.size) (hF : ∀ k, k < w.heap.size → k < w1.heap.size) => fload_any (w.heap.size + 1) (fun k => k < w.heap.size) false lb w1 h1 hg hF)
    unfold FldP at HFl
    rw [hno, hrs] at HFl
    clear hra ta hno hrs HD HE
    go_wp2_with (first
      | (go_at_call 35; go_must (refine (HFl.out _ (by exact HEa.out) (by omega) (by intro k hk; omega)).mono ?_); rintro e wb ⟨C, rfl, -, hCn, hC1, hrb, tb⟩
         have HEb := Lib.hid hrb
         have HCn := Lib.hid hCn
         have HC1 := Lib.hid hC1
         have hzb := tb.size
         have HTab := Lib.hid (show Touch (fun k => k = w.heap.size + 1) wa wb from tb)
         have HN := Lib.hid (Blk.new wb 62 Tryz.zeroCells62)
         clear hrb hCn hC1 tb)
      | ((with_reducible apply HN.out.st rowSf zSf HCn.out HC1.out); exact rfl; exact rfl; exact rfl; exact rfl
         intro wc hbc tc
         have tA := ((Touch.refl (fun _ => False) wb).alloc (.cells Tryz.zeroCells62 62)).trans tc (S := fun _ => False) (fun q hq e => by omega)
         have HTbc := Lib.hid tA
         clear hbc tc tA))
    obtain ⟨WD, hWD⟩ : ∃ WD, WD = wc.drew := ⟨_, rfl⟩
    have HTbD := Lib.hid (show Touch (fun _ => False) wb WD from hWD ▸ HTbc.out.drew)
    have HDd := Lib.hid (rdAt_touch (rdAt_touch HDa.out HTab.out (by omega) (fun k hk => by omega)) HTbD.out (fun e => e) (fun _ _ e => e))
    obtain ⟨_, Ae, ce, hle, hme, hbe, _⟩ := rfAt_touch HEb.out HTbD.out (fun e => e) (fun _ _ e => e)
    have y0 := hbe.cell 0; have y1 := hbe.cell 1
    simp at y0 y1
    have HTz := Lib.hid (show Touch (fun _ => False) w WD from (HTa.out.trans HTab.out (fun q hq e => by omega)).trans HTbD.out (fun _ _ e => e))
    clear hbe hle hme
    refine wp_region_plan [(0, 0), (0, 1), (0, 2), (0, 3), (0, 4), (0, 5), (0, 6), (0, 7), (0, 8), (0, 9), (0, 10), (0, 11), (0, 12), (0, 13), (0, 14), (0, 15), (0, 16), (0, 17), (0, 18), (0, 19), (0, 20), (0, 21)] (fun _ => False) (by kernel_rfl) (by kernel_rfl) (fun c a d v w h => by cases d <;> exact h) ?_
    rw [← hWD]
    clear hWD
    iterate 22
      refine plan_s1 rfl (by rfl) (fun Kc hKc => ?_)
      go_simp
      first
        | (refine hKc _ ?_)
        | (refine ⟨_, calls_flip (left_st w.heap.size (fun q => q < w.heap.size) [] true _ (by exact HDd.out)), hKc _ ?_⟩)
        | (refine ⟨_, calls_flip (bad_st w.heap.size (fun q => q < w.heap.size) [] true _ (by exact HDd.out)), hKc _ ?_⟩)
      clear hKc Kc
    refine plan_done ?_
    go_wp2_with (go_at_call 8; go_must (refine (lives14_any _).mono ?_); rintro e we ⟨rfl, te⟩; have HTe := Lib.hid (HTz.out.trans te (fun _ _ e => e)); clear te)
    go_ret
    exact ⟨rfl, HTe.out.below⟩
  · -- a shelf
    obtain ⟨l', hl1, -, hl3⟩ := rdSh_split hyes
    simp only at hl3
    have hza := ta.size
    have HEa := Lib.hid (rfAt_touch HE.out ta (by omega) (fun k hk => by omega))
    rw [hl1] at hra
    have HDa := Lib.hid hra
    have HTa := Lib.hid (show Touch (fun _ => False) w wa from HT0.out.trans ta (fun q hq e => by omega))
    have HFl := Lib.hid (fun w1 (h1 : RfAt w1 (w.heap.size + 1) (fun k => k < w.heap.size) lb false) (hg : w.heap.size + 1 < w1.heap.size) (hF : ∀ k, k < w.heap.size → k < w1.heap.size) => fload_any (w.heap.size + 1) (fun k => k < w.heap.size) false lb w1 h1 hg hF)
    unfold FldP at HFl
    rw [hyes, hl1] at HFl
    simp only [forall_const] at HFl
    have hok := hsh.ok
    obtain ⟨S, hS⟩ : ∃ S, S = rdShV (false, lb) := ⟨_, rfl⟩
    rw [← hS] at HFl hsh hok hl3
    have HSa := Lib.hid hsh
    obtain ⟨L, hL⟩ : ∃ L, L = encS S := ⟨_, rfl⟩
    have hlen : lb.length = L.length + l'.length := by rw [hl3, hL]; simp
    have hpos : 0 < L.length := by rw [hL, encS]; have : 0 < (encN 0 (cntG S.cal 8)).length := by simp [encN]
                                   simp only [List.length_append]; omega
    obtain ⟨gb, ob, hDe, -, -, -⟩ := HS1.out.2 (by omega)
    subst hDe
    have HSl := Lib.hid (show Rd w (fun k => k < w.heap.size) (some ⟨gb, ob, none⟩) L.length (L.map B8) from by
      have := HS1.out
      rw [hl3, ← hL] at this
      exact this.front)
    have HHb := Lib.hid (fun w1 g c1 c2 x1 R1 X1 Y1 (h : ShAt w1 g c1 c2 S x1 R1 X1 Y1) => (show Calls Tryz.prog 29 #[.pointer (some ⟨g, 0, none⟩)] w1 fun e w' => e = .returned (.string ⟨L.toArray⟩) ∧ Touch (fun _ => False) w1 w' from hL ▸ hbytes_any h))
    have HRX := Lib.hid hrx
    have HGe := Lib.hid hge
    have hwl : IntKind.i64.wrap ((lb.length : Int) - (l'.length : Int)) = (L.length : Int) := by rw [show (lb.length : Int) - (l'.length : Int) = (L.length : Int) by omega]; exact IntWalk.i64_in _ (by omega)
    have hlc : L.length ≤ cd := by omega
    have HLl := Lib.hid hlen
    have HXa := Lib.hid (fun q (hq : X q) => hsh.lt q (.inr (.inl hq)))
    clear hra ta hyes hl1 hl3 hsh hok hS hL hlen hge hrx HD HE HS1
    go_wp2_with (first
      | (go_at_call 35; go_must (refine (HFl.out _ (by exact HEa.out) (by omega) (by intro k hk; omega)).mono ?_); rintro e wb ⟨C, rfl, hrf, hCn, hC1, hrb, tb⟩
         have HEb := Lib.hid hrb
         have HRf := Lib.hid hrf
         have HCn := Lib.hid hCn
         have HC1 := Lib.hid hC1
         have hzb := tb.size
         have HTab := Lib.hid (show Touch (fun k => k = w.heap.size + 1) wa wb from tb)
         have HN := Lib.hid (Blk.new wb 62 Tryz.zeroCells62)
         clear hrb hrf hCn hC1 tb)
      | ((with_reducible apply HN.out.st rowSf zSf HCn.out HC1.out); exact rfl; exact rfl; exact rfl; exact rfl
         intro wc hbc tc
         have tA := ((Touch.refl (fun _ => False) wb).alloc (.cells Tryz.zeroCells62 62)).trans tc (S := fun _ => False) (fun q hq e => by omega)
         have HTbc := Lib.hid tA
         have HTabc := Lib.hid hbc
         clear hbc tc tA))
    obtain ⟨WD, hWD⟩ : ∃ WD, WD = wc.drew := ⟨_, rfl⟩
    have HTbD := Lib.hid (show Touch (fun _ => False) wb WD from hWD ▸ HTbc.out.drew)
    have HDd := Lib.hid (rdAt_touch (rdAt_touch HDa.out HTab.out (by omega) (fun k hk => by omega)) HTbD.out (fun e => e) (fun _ _ e => e))
    obtain ⟨_, Ae, ce, hle, hme, hbe, _⟩ := rfAt_touch HEb.out HTbD.out (fun e => e) (fun _ _ e => e)
    have y0 := hbe.cell 0; have y1 := hbe.cell 1
    simp at y0 y1
    have HTz := Lib.hid (show Touch (fun _ => False) w WD from (HTa.out.trans HTab.out (fun q hq e => by omega)).trans HTbD.out (fun _ _ e => e))
    have HTB := Lib.hid (show Blk WD wb.heap.size 62 C from hWD ▸ (Touch.refl (fun _ => False) wc).drew.blk HTabc.out (fun e => e))
    have HRD := Lib.hid (HRf.out.far HTbD.out)
    have hSD := (HSa.out.touch HTab.out (by have := HGe.out; omega) (by have := HGe.out; omega) (by have := HGe.out; omega) (fun q hq e => by
      rcases hq with hq | hq | hq
      · have := HRX.out q (.inl hq); omega
      · have := HRX.out q (.inr hq); omega
      · exact hq)).far HTbD.out
    have HSD := Lib.hid hSD
    clear hbe hle hme hSD
    refine wp_region_plan [(0, 0), (0, 1), (0, 2), (0, 3), (0, 4), (0, 5), (0, 6), (0, 7), (0, 8), (0, 9), (0, 10), (0, 11), (0, 12), (0, 13), (0, 14), (0, 15), (0, 16), (0, 17), (0, 18), (0, 19), (0, 20), (0, 21)] (fun _ => False) (by kernel_rfl) (by kernel_rfl) (fun c a d v w h => by cases d <;> exact h) ?_
    rw [← hWD]
    clear hWD
    iterate 22
      refine plan_s1 rfl (by rfl) (fun Kc hKc => ?_)
      go_simp
      first
        | (refine hKc _ ?_)
        | (refine ⟨_, calls_flip (left_st w.heap.size (fun q => q < w.heap.size) l' false _ (by exact HDd.out)), hKc _ ?_⟩)
        | (refine ⟨_, calls_flip (bad_st w.heap.size (fun q => q < w.heap.size) l' false _ (by exact HDd.out)), hKc _ ?_⟩)
      clear hKc Kc
    refine plan_done ?_
    clear y0 y1
    go_wp2_with (first
      | (go_at_call 29; go_must (refine (HHb.out _ _ _ _ _ _ _ _ (by exact HSD.out)).mono ?_); rintro e we ⟨rfl, te⟩
         have HTe := Lib.hid te
         have HDe := Lib.hid (rdAt_touch HDd.out te (fun e => e) (fun _ _ e => e))
         have HTBe := Lib.hid (te.blk HTB.out (fun e => e))
         have hse := Rd.str (HSl.out.touch (HTz.out.trans te (fun _ _ e => e)) (fun _ _ e => e)) cd
         clear te)
      | (go_at_call 20; go_must (refine (left_st w.heap.size _ _ _ _ (by exact HDe.out)).mono ?_); rintro e wf ⟨rfl, rfl⟩)
      | ((with_reducible apply HTBe.out.ld rowSf HCn.out); exact rfl; exact rfl; exact rfl)
      | (go_at_call 34; go_must (refine (like14_any (HSD.out.far HTe.out) _ C (HRD.out.far HTe.out) (fun q hq e => by have := HXa.out q e; omega) a1 HNa.out).mono ?_); rintro e wd ⟨rfl, Rd9, Yd9, -, -, -, td⟩
         have HTd := Lib.hid (show Touch (fun _ => False) w wd from (HTz.out.trans HTe.out (fun _ _ e => e)).trans td (fun q hq e => by have := HRX.out q (.inr e); omega))
         clear td)
      | (go_at_call 8; go_must (refine (lives14_any _).mono ?_); rintro e wz ⟨rfl, tz⟩; have HTy := Lib.hid (HTd.out.trans tz (fun _ _ e => e)); clear tz))
    go_ret
    exact ⟨rfl, HTy.out.below⟩
end Go.Proofs.YtlcefchbfjfifaaGreat
end

section
namespace Go.Proofs.YtlcefchbfjfifaaGreat.contractReads
open Go.ChangeShapes Go.WideShapes Go.ChangeAt Go.RowKit Go.Deep
open Go.ChangeMaps (open_string shut_string)
set_option linter.unusedVariables false

theorem own : ownKnob Tryz.prog.godebug = none := by kernel_rfl
theorem laidOut : laidOutB Tryz.prog = true := by kernel_rfl

set_option maxRecDepth 100000 in
theorem lifted (os : Os) (started : os.Started) (H : Type) (enc : TypeId × Value → H) :
    ReturnsInHanded {} Tryz.checked os 7 .any (Rows.contractReadsSpec.pre6 enc Tryz.prog Tryz.f7 Rows.contractReadsRow.domain false) (Rows.contractReadsSpec.post enc Tryz.prog Tryz.f7 false true false false) := by
  refine returnsInHanded_of_change (C := Tryz.checked) own started (by kernel_rfl) Tryz.func7
    (ChangeSpec.witness6 (enc := enc) (C := Tryz.checked) false ⟨#[], #[.slice none 0 0, .int .i64 0], []⟩ 8 (by kernel_rfl) (by kernel_rfl) (by kernel_rfl) (by kernel_rfl)) ?_
  intro W base args ds gs before hval0 hW hcnd _
  have hval : ∀ (j : Nat) t v, Tryz.f7.params[j]? = some t → args[j]? = some v → Value.okWide Tryz.prog W .any base t v := hval0
  have hW' := hW
  obtain ⟨p, q, hA0, hV, rfl, hfz, hnd⟩ := hW
  have hA : DataW.TrodAll enc Tryz.prog W 0 (fun _ => true) true Tryz.f7.params.toList args.toList ds p := hA0
  rw [Tryz.params7] at hA hval
  obtain ⟨v0, vs0, d0, ds0, p0, q0, hargs, rfl, rfl, h0, r0⟩ := trodAll_cons hA
  obtain ⟨v1, vs1, d1, ds1, p1, q1, rfl, rfl, rfl, h1, r1⟩ := trodAll_cons r0
  obtain ⟨rfl, rfl, rfl⟩ := trodAll_nil r1
  obtain rfl : args = #[v0, v1] := by cases args; simp_all
  obtain ⟨rfl, rfl⟩ := trodVars_none hV
  obtain ⟨A0, n0, c0, rfl⟩ := okWide_slice Tryz.underlying25 (hval 0 25 v0 rfl rfl)
  have k0 := h0
  have lt0 : ∀ x ∈ p0, x.block < W.heap.size := by obtain ⟨m, hm⟩ := k0; exact DataW.trod_lt m _ _ _ hm
  obtain ⟨l0, e0, g0, u0, m0, s0⟩ := open_bytes Tryz.underlying25 Tryz.underlying5 (by kernel_rfl) A0 n0 c0 rfl h0
  obtain ⟨a1, rfl, rfl, rfl, w1⟩ := open_int Tryz.underlying3 (hval 1 3 v1 rfl rfl) h1
  have k1 := w1
  simp [Lit.wf, IntKind.min, IntKind.max, IntKind.signed, IntKind.bits] at k1
  clear hA0 hval0
  refine (walk_ContractReads (w := W) A0 n0 c0 l0 e0 g0 u0 m0 s0 a1 k1).mono fun e W' ⟨he, bel⟩ => ?_
  subst he
  exact ⟨_, rfl, _, _, _, [], _, [], hW', trodAll_mk1 (shut_bool Tryz.underlying4 _), (trodAll_cons_mk (Below.trod laidOut (by kernel_rfl) (of_decide_eq_true (by kernel_rfl)) k0 bel lt0) (trodAll_cons_mk (shut_int Tryz.underlying3 w1) trodAll_mk0)), rfl, bel.frame _, fun h => by cases h⟩

theorem over : Rows.contractReadsRow.holds Tryz.pinned (OpenSpec.ofChange Rows.contractReadsSpec) :=
  OpenClaim.holds_of_wide 7 Tryz.f7 rfl rfl rfl rfl rfl rfl rfl ⟨rfl, rfl, rfl, rfl, rfl⟩ rfl rfl rfl rfl rfl (by kernel_rfl) Tryz.func7 (by kernel_rfl)
    (of_decide_eq_true (by kernel_rfl)) (by unfold Func.isWrapper; first | (rw [if_pos (by decide +kernel)]; kernel_rfl) | (rw [if_neg (by decide +kernel)]; exact ⟨rfl, rfl⟩))
    (fun os started H enc _ => lifted os started H enc)

theorem proved : Rows.ContractReadsSaid := over
#print axioms proved
end Go.Proofs.YtlcefchbfjfifaaGreat.contractReads
end

section
namespace Go.Proofs.YtlcefchbfjfifaaGreat
open Go.RowKit Cal Go.Maps
set_option maxHeartbeats 4000000
set_option maxRecDepth 100000
set_option linter.unusedVariables false
attribute [local irreducible] wpPlan

def NewLv (w : World) (l : List Sp) (e : Ending) (w' : World) : Prop :=
  ∃ A c r, e = .returned (.slice A l.length c) ∧ (0 < l.length → Own w' 68 2 (.slice A l.length c) r l.length (l.flatMap spC)) ∧ (∀ k, r = some k → w.heap.size ≤ k ∧ k < w'.heap.size) ∧ Touch (fun _ => False) w w'
theorem lvcloneO_any (F : Nat → Prop) (A : Option Addr) (c : Nat) (l : List Sp) (w : World) (h : SpR w F A l.length l) (hn : l.length ≤ 1000000) :
    Calls Tryz.prog 40 #[.slice A l.length c] w (NewLv w l) := by
  rcases A with _ | ad
  · obtain ⟨h0, rfl⟩ := h.isN
    clear h hn h0
    have hbin : ∀ w, (binOp .eql 22 (.slice none 0 c) (.slice none 0 0)).run Tryz.prog w = .ok (.bool true) w := fun w => by first | rfl | simp [go_sem]
    simp only [List.length_nil]
    go_enter Tryz.func40, Tryz.ntmps40
    go_wp2
    go_ret
    exact ⟨none, 0, none, rfl, (fun h => by simp at h), (fun _ e => by cases e), Touch.refl _ _⟩
  · have Hn := Lib.hid (show ∀ j u, (l.flatMap spC)[j]? = some u → (w.alloc (.cells #[] 68)).cell? (ad.add j) = some u from fun j u hj => (World.cell?_alloc_lt _ _ _ (World.block_lt_of_cell? w _ (h.isS j u hj))).trans (h.isS j u hj))
    have h1 := Lib.hid (spC_one l)
    have hfl := Lib.hid (show (l.flatMap spC).length = l.length * 2 from h.2.1)
    obtain ⟨i0, hi, hz0, hz1, hz2⟩ := info_parts infoLv
    have HO := Lib.hid (show Own (w.alloc (.cells #[] 68)) 68 2 (.slice (some ⟨w.heap.size, 0, none⟩) 0 0) (some w.heap.size) 0 [] from by simpa using Own.lit w 68 2 #[] 0 (by simp) (by simp))
    clear h
    generalize hm : l.length = m at *
    have hbin : ∀ w, (binOp .eql 22 (.slice (some ad) m c) (.slice none 0 0)).run Tryz.prog w = .ok (.bool false) w := fun w => by first | rfl | simp [go_sem]
    have HM := Lib.hid hm
    clear hm
    go_enter Tryz.func40, Tryz.ntmps40
    go_wp2_with (at_builtin; go_must (refine wpList_own_append rfl _ _ 22 22 rfl 68 i0 (.agg #[.int .i64 0, .int .i64 0]) 2 16 Tryz.underlying22 hi hz0 hz1 hz2 rfl _ (some w.heap.size) 0 [] rfl (by exact HO.out) _ m (l.flatMap spC) rfl (by exact Src.ofSlice _ Tryz.underlying22 ad m c _ hfl.out Hn.out h1.out) (by simp only [maxLen]; omega) (by omega) ?_); intro v1 r1 w1 ho1 ht1 hr1; have HR1 := Lib.hid (And.intro ho1 (And.intro ht1 hr1)); clear ho1 ht1 hr1)
    go_ret
    obtain ⟨ho1, ht1, hr1⟩ := HR1.out
    obtain ⟨A', c', hv, k1, k2, k3, k4⟩ := ho1.spR (l := l) (by simp) (by simp [HM.out])
    rw [Nat.zero_add, ← HM.out] at k4 hv k1
    have hsz := ht1.size
    rw [hv] at ho1
    have hrr := hr1
    refine ⟨A', c', _, by rw [← hv]; rfl, (fun _ => by simpa [HM.out] using ho1), (fun q hq => ?_), ((Touch.refl _ w).alloc _).trans ht1 (fun q hq e => ?_)⟩
    · refine ⟨?_, ho1.lt _ hq⟩
      rcases hr1 with e | ⟨q', e, hq'⟩
      · rw [e] at hq; injection hq with hq; omega
      · rw [e] at hq; injection hq with hq; simp at hq'; omega
    · injection e with e; omega
/-- A contract copied; the new row is the call's own. -/
def CopO (c : Co) (w : World) (e : Ending) (w' : World) : Prop :=
  ∃ A n r, e = .returned (.agg (conA c A n)) ∧ (0 < c.lv.length → Own w' 68 2 (.slice A c.lv.length n) r c.lv.length (c.lv.flatMap spC)) ∧ (∀ k, r = some k → w.heap.size ≤ k ∧ k < w'.heap.size) ∧ Touch (fun _ => False) w w'
theorem kcopyO_any (F : Nat → Prop) (A : Option Addr) (n : Nat) (c : Co) (w : World) (hr : SpR w F A c.lv.length c.lv) (hl : c.lv.length ≤ 1000000) : Calls Tryz.prog 13 #[.agg (conA c A n)] w (CopO c w) := by
  have HC := Lib.hid (fun w1 (t : Touch (fun _ => False) w w1) => lvcloneO_any F A n c.lv w1 (hr.touch t (fun _ _ e => e)) hl)
  unfold NewLv at HC
  obtain ⟨W0, hW0⟩ : ∃ W0, W0 = (w.alloc (.cells (conA c A n) 24)).alloc (.cells #[.int .i64 0, .slice none 0 0, .int .i64 0, .int .i64 0] 24) := ⟨_, rfl⟩
  have hT : Touch (fun _ => False) w W0 := hW0 ▸ ((Touch.refl _ w).alloc _).alloc _
  have HT := Lib.hid hT
  have HB := Lib.hid (show Blk W0 w.heap.size 24 (conA c A n) from hW0 ▸ (Blk.new w _ _).alloc _)
  have HZ := Lib.hid (show Blk W0 (w.heap.size + 1) 24 #[.int .i64 0, .slice none 0 0, .int .i64 0, .int .i64 0] from hW0 ▸ (by simpa using Blk.new (w.alloc (.cells (conA c A n) 24)) 24 #[.int .i64 0, .slice none 0 0, .int .i64 0, .int .i64 0]))
  have HW0 := Lib.hid hW0
  have hz0 : w.heap.size + 2 ≤ W0.heap.size := by rw [hW0]; simp
  have q1 := HB.out.cell 1
  rw [show (conA c A n)[1]? = some (.slice A c.lv.length n) from rfl, hW0] at q1
  have HK1 := Lib.hid (show (conA c A n)[1]? = some (.slice A c.lv.length n) from rfl)
  have HE := Lib.hid (fun A1 c1 => (show (conA c A n).setIfInBounds 1 (.slice A1 c.lv.length c1) = conA c A1 c1 by simp [conA]))
  have HZn := Lib.hid (show (#[.int .i64 0, .slice none 0 0, .int .i64 0, .int .i64 0] : Array Value).size = 4 from rfl)
  have HCn := Lib.hid (fun A1 c1 => (show (conA c A1 c1).size = 4 from rfl))
  have HC1 := Lib.hid (fun A1 c1 => conA_one c A1 c1)
  unfold CopO
  obtain ⟨CA, hCA⟩ : ∃ CA : Option Addr → Nat → Array Value, CA = conA c := ⟨_, rfl⟩
  rw [← hCA] at HB HW0 q1 HK1 HE HCn HC1 ⊢
  generalize CA A n = C0 at *
  have HS0 := Lib.hid hr
  generalize c.lv.length = ln at *
  clear hr hT hW0 hCA
  go_enter Tryz.func13, Tryz.ntmps13
  go_wp2_with (first
    | (go_at_call 40; rw [← HW0.out]; go_must (refine (HC.out _ (by exact HT.out)).mono ?_)
       rintro e w1 ⟨A1, c1, r1, rfl, hs, hr, t1⟩
       have HS := Lib.hid hs
       have HRr := Lib.hid hr
       have HT1 := Lib.hid t1
       have hb := t1.blk HB.out (fun e => e)
       have hz := t1.blk HZ.out (fun e => e)
       have x1 := hb.cell 1
       have f1 := hb.frozen 1
       rw [HK1.out] at x1
       have hb1 := hb.set_ 1 (.slice A1 ln c1)
       rw [HE.out] at hb1
       have ts := (Touch.refl (fun q => q = w.heap.size) w1).set (b := w.heap.size) (o := 1) (fun _ => rfl) (.slice A1 ln c1)
       have HBs := Lib.hid hb1
       have HZs := Lib.hid (ts.blk hz (by omega))
       have HTs := Lib.hid ts
       have HN1 := Lib.hid (HCn.out A1 c1)
       have H11 := Lib.hid (HC1.out A1 c1)
       clear hs hr t1 hb hb1 hz ts)
    | ((with_reducible apply HBs.out.ld rowCo HN1.out); exact rfl; exact rfl; exact rfl)
    | ((with_reducible apply HZs.out.st rowCo HZn.out HN1.out H11.out); exact rfl; exact rfl; exact rfl; exact rfl
       intro w4 hb4 t4
       have HB4 := Lib.hid hb4
       have HT4 := Lib.hid t4
       clear hb4 t4))
  refine bodyPost_ret (results_cell1 2 rowCo HN1.out (HB4.out.whole) rfl rfl) rfl ?_
  have tt := (HTs.out.mono (S' := fun q => q = w.heap.size ∨ q = w.heap.size + 1) (fun _ _ e => .inl e)).trans HT4.out (fun _ _ e => .inr e)
  have z1 := HT1.out.size
  refine ⟨A1, c1, r1, rfl, (fun h0 => (HS.out h0).touch tt (fun k hk e => by have := HRr.out k hk; omega)), (fun k hk => ⟨by have := HRr.out k hk; omega, Nat.lt_of_lt_of_le (HRr.out k hk).2 tt.size⟩), (HT.out.trans HT1.out (fun _ _ e => e)).trans tt (fun q hq e => by omega)⟩
end Go.Proofs.YtlcefchbfjfifaaGreat
end
