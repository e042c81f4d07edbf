/- The statement SessionReadsSaid: the law's walk, put under the given row. No condition. A table of what clients asked last: Clone. -/
import Derived.Test.YtmgmjehebbggaaaRows
import Derived.Test.YtmgmjehebbggaaaArgs
import Derived.Test.YtmgmjehebbggaaaVSesRd
import Derived.ProofKit
import Derived.OpenShut
import Derived.ShutString
import Derived.ChangeOld
import Derived.Below
import Derived.Test.YtmgmjehebbggaaaVArgsO
section
namespace Go.Proofs.Ytmgmjehebbggaaa.sessionReads
open Go.ChangeShapes Go.WideShapes Go.ChangeAt Go.RowKit Go.Deep
open Go.ChangeMaps (open_string shut_string)
set_option linter.unusedVariables false

theorem own : ownKnob Try.prog.godebug = none := by kernel_rfl
theorem laidOut : laidOutB Try.prog = true := by kernel_rfl

set_option maxRecDepth 100000 in
theorem lifted (os : Os) (started : os.Started) (H : Type) (enc : TypeId × Value → H) :
    ReturnsInHanded {} Try.checked os 5 .any (Rows.sessionReadsSpec.pre6 enc Try.prog Try.f5 Rows.sessionReadsRow.domain false) (Rows.sessionReadsSpec.post enc Try.prog Try.f5 false true false false) := by
  refine returnsInHanded_of_change (C := Try.checked) own started (by kernel_rfl) Try.func5
    (ChangeSpec.witness6 (enc := enc) (C := Try.checked) false ⟨#[], #[.slice none 0 0], []⟩ 8 (by kernel_rfl) (by kernel_rfl) (by kernel_rfl) (by kernel_rfl)) ?_
  intro W base args ds gs before hval0 hW hcnd _
  have hval : ∀ (j : Nat) t v, Try.f5.params[j]? = some t → args[j]? = some v → Value.okWide Try.prog W .any base t v := hval0
  have hW' := hW
  obtain ⟨p, q, hA0, hV, rfl, hfz, hnd⟩ := hW
  have hA : DataW.TrodAll enc Try.prog W 0 (fun _ => true) true Try.f5.params.toList args.toList ds p := hA0
  rw [Try.params5] at hA hval
  obtain ⟨v0, vs0, d0, ds0, p0, q0, hargs, rfl, rfl, h0, r0⟩ := trodAll_cons hA
  obtain ⟨rfl, rfl, rfl⟩ := trodAll_nil r0
  obtain rfl : args = #[v0] := by cases args; simp_all
  obtain ⟨rfl, rfl⟩ := trodVars_none hV
  obtain ⟨A0, n0, c0, rfl⟩ := okWide_slice Try.underlying52 (hval 0 52 v0 rfl rfl)
  have k0 := h0
  have lt0 : ∀ x ∈ p0, x.block < W.heap.size := by obtain ⟨m, hm⟩ := k0; exact DataW.trod_lt m _ _ _ hm
  obtain ⟨l0, e0, g0, u0, m0, s0⟩ := open_bytes Try.underlying52 Try.underlying5 (by kernel_rfl) A0 n0 c0 rfl h0
  clear hA0 hval0
  refine (walk_SessionReads (w := W) A0 n0 c0 l0 e0 g0 u0 m0 s0).mono fun e W' ⟨he, bel⟩ => ?_
  subst he
  exact ⟨_, rfl, _, _, _, [], _, [], hW', trodAll_mk1 (shut_bool Try.underlying4 _), (trodAll_cons_mk (Below.trod laidOut (by kernel_rfl) (of_decide_eq_true (by kernel_rfl)) k0 bel lt0) trodAll_mk0), rfl, bel.frame _, fun h => by cases h⟩

theorem over : Rows.sessionReadsRow.holds Try.pinned (OpenSpec.ofChange Rows.sessionReadsSpec) :=
  OpenClaim.holds_of_wide 5 Try.f5 rfl rfl rfl rfl rfl rfl rfl ⟨rfl, rfl, rfl, rfl, rfl⟩ rfl rfl rfl rfl rfl (by kernel_rfl) Try.func5 (by kernel_rfl)
    (of_decide_eq_true (by kernel_rfl)) (by unfold Func.isWrapper; first | (rw [if_pos (by decide +kernel)]; kernel_rfl) | (rw [if_neg (by decide +kernel)]; exact ⟨rfl, rfl⟩))
    (fun os started H enc _ => lifted os started H enc)

theorem proved : Rows.SessionReadsSaid := over
#print axioms proved
end Go.Proofs.Ytmgmjehebbggaaa.sessionReads
end

section
namespace Go.Proofs.Ytmgmjehebbggaaa
open Go.RowKit Go.Maps
set_option maxHeartbeats 4000000
set_option maxRecDepth 100000
set_option linter.unusedVariables false
attribute [local irreducible] wpPlan

def PutP (g b : Nat) (F : Nat → Prop) (s' : SesS) (w : World) (e : Ending) (w' : World) : Prop :=
  e = .returned (.tuple #[]) ∧ SesAt w' g b s' F ∧ Touch (fun k => k = b) w w'
theorem cput_any (cb g b : Nat) (s : SesS) (F : Nat → Prop) (w : World) (h : SesAt w g b s F) (hc : Blk w cb 25 #[.pointer (some ⟨g, 0, none⟩)]) (c q : Nat) (a : RpV) (A : Option Addr) (n : Nat) (hr : Rd w F A a.fired.length (a.fired.map U64)) (c1 : 1 ≤ c) (c8 : c ≤ 8) (q1 : 1 ≤ q) (q2 : q < 18446744073709551616) (ha : a.fired.length ≤ 64) :
    Calls Try.prog 43 #[.int .u64 c, .agg (askC q a A n), .pointer (some ⟨cb, 0, none⟩)] w (PutP g b F (setS s c q a) w) := by
  obtain ⟨W, hW⟩ : ∃ W, W = w.alloc (.cells (askC q a A n) 72) := ⟨_, rfl⟩
  have HW := Lib.hid hW
  have HT0 := Lib.hid (show Touch (fun _ => False) w W from hW ▸ (Touch.refl _ w).alloc _)
  have HB0 := Lib.hid (show Blk W w.heap.size 72 (askC q a A n) from hW ▸ Blk.new w _ _)
  have t1 := HT0.out.drew
  have hS := h.touch t1 (fun e => e) (fun e => e) (fun _ _ e => e)
  have HS := Lib.hid hS
  have x0 := (t1.blk hc (fun e => e)).cell 0
  have x1 := hS.blk.cell 0
  simp at x0 x1
  have HB1 := Lib.hid ((Touch.refl (fun _ => False) W).drew.blk HB0.out (fun e => e))
  obtain ⟨w4, hrun, hm4, t4⟩ := hS.map.store hS.ok hS.nF c1 c8 A n (hr.touch t1 (fun _ _ e => e)) (q := q)
  rw [askVal_eq] at hrun
  have HM4 := Lib.hid hm4
  have HT4 := Lib.hid t4
  have HCn := Lib.hid (askC_size q a A n)
  have hne := h.ne
  have hbl := h.map.choose_spec.1.lt
  clear h hc hr hW t1 hS hm4 t4
  generalize askC q a A n = C at *
  go_enter Try.func43, Try.ntmps43
  go_wp2_with fail
  rw [← HW.out]
  refine wp_region_plan [(0, 0), (0, 1), (0, 2), (0, 3), (0, 4), (1, 5), (2, 6)] (fun k => k = b) (by kernel_rfl) (by kernel_rfl) (fun c a d v w h => by cases d <;> exact h) ?_
  iterate 5
    refine plan_s1 rfl (by rfl) (fun Kc hKc => ?_)
    go_simp
    first
      | (refine hKc _ ?_)
    clear hKc Kc
  refine plan_hC rowAk rfl _ rfl rfl w.heap.size 0 rfl C HCn.out (fun wh hT => (hT.blk HB1.out (by omega)).whole) ?_
  go_frame
  refine plan_a1 rfl (by rfl) (fun Kc hKc => ?_)
  go_simp
  refine hKc _ _ ⟨HT4.out, ?_⟩
  clear hKc Kc
  refine plan_done ?_
  clear hrun
  go_wp2_with fail
  refine bodyPost_ret (v := .tuple #[]) (results_none (by rfl) _ _ _) rfl ⟨rfl, ⟨HT4.out.blk HS.out.blk (fun e => hne e.symm), HM4.out, ⟨fun i x hx => ?_, fun i q' a' hx => ?_, fun i q' a' hx => ?_⟩, HS.out.nF, hne⟩, (HT0.out.drew.mono (fun _ _ e => e.elim)).trans HT4.out (fun _ _ e => e)⟩
  · unfold setS at hx; split at hx
    · omega
    · exact HS.out.ok.who i x hx
  · unfold setS at hx; split at hx
    · injection hx with hx; injection hx with h1 h2; omega
    · exact HS.out.ok.req i q' a' hx
  · unfold setS at hx; split at hx
    · injection hx with hx; injection hx with h1 h2; subst h2; omega
    · exact HS.out.ok.rep i q' a' hx
/-- Those that were put already. -/
def doneL (s : SesS) (left : Lit → Bool) : SesS := fun c => if left (.int .u64 c) = true then none else s c
theorem doneL_ok {s : SesS} (h : SesOk s) (left : Lit → Bool) : SesOk (doneL s left) := by
  refine ⟨fun i x hx => ?_, fun i q a hx => ?_, fun i q a hx => ?_⟩ <;>
  · unfold doneL at hx; split at hx
    · cases hx
    · first | exact h.who i x hx | exact h.req i q a hx | exact h.rep i q a hx
theorem doneL_step {s : SesS} {left : Lit → Bool} {c q : Nat} {a : RpV} (hs : s c = some (q, a)) (hc : c < 18446744073709551616) : setS (doneL s left) c q a = doneL s (fun z => left z && !z.sameKey (.int .u64 c)) := by
  funext i
  unfold setS doneL
  by_cases e : i = c
  · subst e
    have : (Lit.int IntKind.u64 (i : Int)).sameKey (Lit.int IntKind.u64 (i : Int)) = true := WideAt.sameKey_self (lawU.key (keyU hc))
    rw [if_pos rfl, hs]; simp [this]
  · have hk : (Lit.int IntKind.u64 (i : Int)).sameKey (Lit.int IntKind.u64 (c : Int)) = false := sameKey_ne (fun e' => e (by injection e'; omega))
    rw [if_neg e]; simp [hk]
theorem doneL_end {s : SesS} {left : Lit → Bool} (ok : SesOk s) (h : ∀ kl, KeysOf Try.prog 29 kl → left kl = false) : doneL s left = s := by
  funext i
  unfold doneL
  cases hs : s i with
  | none => simp
  | some x =>
    have := ok.who i x hs
    rw [if_neg (by rw [h _ ⟨_, keyU (show i < 18446744073709551616 by omega)⟩]; simp)]
def CloneP (s : SesS) (F : Nat → Prop) (w : World) (e : Ending) (w' : World) : Prop :=
  ∃ g b, e = .returned (.pointer (some ⟨g, 0, none⟩)) ∧ SesAt w' g b s (fun k => F k ∧ k < w.heap.size) ∧ w.heap.size ≤ g ∧ w.heap.size ≤ b ∧ Touch (fun _ => False) w w'
theorem invU : ∀ key kl, keyOf Try.prog 29 key = some kl → ∃ x : Nat, key = Value.int .u64 (x : Int) ∧ kl = Lit.int .u64 (x : Int) := by
  intro key kl hk
  obtain ⟨x, h1, h2, hw⟩ := Maps.keyOf_int_inv Try.underlying29 hk
  simp [Lit.wf, IntKind.min, IntKind.max, IntKind.signed, IntKind.bits] at hw
  exact ⟨x.toNat, by rw [h1, Int.toNat_of_nonneg hw.1], by rw [h2, Int.toNat_of_nonneg hw.1]⟩
theorem keyU_lt {x : Nat} (hk : keyOf Try.prog 29 (.int .u64 (x : Int)) = some (.int .u64 (x : Int))) : x < 18446744073709551616 := by
  obtain ⟨y, h1, h2, hw⟩ := Maps.keyOf_int_inv Try.underlying29 hk
  injection h1 with _ h1
  subst h1
  simp [Lit.wf, IntKind.min, IntKind.max, IntKind.signed, IntKind.bits] at hw
  omega
theorem SesAt.none_F {w : World} {g b : Nat} {F F' : Nat → Prop} (h : SesAt w g b (fun _ => none) F) (hF : ∀ k, F' k → k ≠ b) : SesAt w g b (fun _ => none) F' := by
  obtain ⟨h1, ⟨f, hm, hs⟩, h3, h4, h5⟩ := h
  exact ⟨h1, ⟨f, hm, fun c hc => ⟨(hs c hc).1, fun q a e => by cases e⟩⟩, h3, hF, h5⟩
theorem sclone_any (g b : Nat) (s : SesS) (F : Nat → Prop) (w : World) (h : SesAt w g b s F) :
    Calls Try.prog 23 #[.pointer (some ⟨g, 0, none⟩)] w (CloneP s F w) := by
  have HN := Lib.hid (snone_any g b s F w h)
  have HS := Lib.hid h
  have HOk := Lib.hid h.ok
  have hgl := h.blk.lt
  obtain ⟨f, hm, hf⟩ := h.map
  have hbl := hm.lt
  have HM := Lib.hid hm
  have HF := Lib.hid hf
  clear h hm hf
  go_enter Try.func23, Try.ntmps23
  go_wp2_with (first
    | (go_at_call 26; go_must (refine HN.out.mono ?_); rintro e w1 ⟨rfl, rfl⟩)
    | (go_at_call 9
       go_must (refine (sempty_any _).mono ?_)
       rintro e w1 ⟨g2, b2, rfl, hs1, hg1, hb1, t1⟩
       have hb2l := hs1.map.choose_spec.1.lt
       have hg2l := hs1.blk.lt
       have ta := (Touch.refl (fun _ => False) w1).alloc (.cells #[.pointer (some ⟨g2, 0, none⟩)] 25)
       have HC1 := Lib.hid ((hs1.none_F (F' := fun k => F k ∧ k < w.heap.size) (fun k hk => by have := hk.2; omega)).touch ta (fun e => e) (fun e => e) (fun _ _ e => e))
       have HT1 := Lib.hid (t1.trans ta (fun _ _ e => e))
       have HM1 := Lib.hid (HM.out.touch HT1.out (fun e => e))
       have HBc := Lib.hid (Blk.new w1 25 #[.pointer (some ⟨g2, 0, none⟩)])
       have q0 := (HS.out.touch HT1.out (fun e => e) (fun e => e) (fun _ _ e => e)).blk.cell 0
       simp at q0
       have hwl := HT1.out.size
       clear hs1 t1 ta)
    | (at_range; refine rangeV _ rfl _ _ rfl _ _ lawU Try.underlying64 b 9 f rfl HM1.out ?_; intro w2 hrg t2 hz2; have HRg := Lib.hid hrg; have HT2 := Lib.hid t2; clear hrg t2 hz2; go_frame))
  obtain ⟨r, hr⟩ : ∃ r, r = (w1.alloc (.cells #[.pointer (some ⟨g2, 0, none⟩)] 25)).heap.size := ⟨_, rfl⟩
  rw [← hr] at HRg ⊢
  have hrw : w1.heap.size + 1 ≤ r := by rw [hr]; simp
  clear hr
  go_loopw [5] (fun _ wr => ∃ left, RangeV Try.prog 29 wr b r 9 f left ∧ SesAt wr g2 b2 (doneL s left) (fun k => F k ∧ k < w.heap.size) ∧ Blk wr w1.heap.size 25 #[.pointer (some ⟨g2, 0, none⟩)] ∧ Touch (fun _ => False) w wr) (fun _ wr => wr.rangeLeft b r)
  case atStart =>
    refine ⟨_, HRg.out, ?_, HT2.out.blk HBc.out (fun e => e), HT1.out.trans HT2.out (fun _ _ e => e)⟩
    have : doneL s (fun kl => (f kl).isSome) = fun _ => none := by
      funext i
      unfold doneL
      cases hs : s i with
      | none => simp
      | some x =>
        obtain ⟨q, a⟩ := x
        have := HOk.out.who i _ hs
        obtain ⟨A, k, e, -⟩ := (HF.out i (by omega)).2 q a hs
        simp [e]
    rw [this]
    exact HC1.out.touch HT2.out (fun e => e) (fun e => e) (fun _ _ e => e)
  case round =>
    clear HRg HT2 HT1 HC1 HM1 q0 HBc
    obtain ⟨left, hrg, hS, hB, hT⟩ := hrel
    have HRr := Lib.hid hrg
    have HSr := Lib.hid hS
    have HBr := Lib.hid hB
    have HT := Lib.hid hT
    clear hrg hS hB hT
    have hrl := HRr.out.lt
    go_wp2_with (at_next; refine nextV _ rfl _ rfl _ lawU (fun c : Nat => Value.int .u64 c) (fun c : Nat => Lit.int .u64 c) invU b r 9 f left rfl HRr.out ?_ ?_)
    · intro h0
      have H0 := Lib.hid h0
      clear h0
      have x0 := HBr.out.cell 0
      simp at x0
      go_wp2_with fail
      go_ret
      exact ⟨g2, b2, rfl, doneL_end HOk.out H0.out ▸ HSr.out, by omega, by omega, HT.out⟩
    · intro x v w3 hx hlx hfx hrg3 hlt t3 hen
      have hx64 := keyU_lt hx
      obtain ⟨q, a, hs⟩ : ∃ q a, s x = some (q, a) := by
        cases hs : s x with
        | none => rw [(HF.out x hx64).1 hs] at hfx; cases hfx
        | some y => exact ⟨y.1, y.2, rfl⟩
      obtain ⟨A, n, hfv, hrd⟩ := (HF.out x hx64).2 q a hs
      rw [hfv] at hfx
      injection hfx with hfx
      rw [← hfx, askVal_eq] at hen
      rw [← hfx, askVal_eq]
      obtain ⟨hc1, hc8⟩ := HOk.out.who x _ hs
      obtain ⟨hq1, hq2⟩ := HOk.out.req x q a hs
      have h64 := HOk.out.rep x q a hs
      have HX := Lib.hid (doneL_step (left := left) hs hx64)
      have HLt := Lib.hid hlt
      have HT3 := Lib.hid t3
      have HRr3 := Lib.hid hrg3
      have HEn := Lib.hid hen
      have HS3 := Lib.hid (HSr.out.touch t3 (by omega) (by omega) (fun k hk e => by have := hk.2; omega))
      have HB3 := Lib.hid (t3.blk HBr.out (by omega))
      have HTw := Lib.hid (HT.out.trans t3 (fun k hk e => by omega))
      have hr3 := HRr3.out.lt
      have HP := Lib.hid (fun w4 (h4 : Touch (fun _ => False) w3 w4) => cput_any w1.heap.size g2 b2 (doneL s left) (fun k => F k ∧ k < w.heap.size) w4 (HS3.out.touch h4 (fun e => e) (fun e => e) (fun _ _ e => e)) (h4.blk HB3.out (fun e => e)) x q a A n ((hrd.lt2_.touch HTw.out (fun _ _ e => e)).touch h4 (fun _ _ e => e)) hc1 hc8 hq1 hq2 h64)
      unfold PutP at HP
      rw [HX.out] at HP
      have HCn := Lib.hid (askC_size q a A n)
      have HC1 := Lib.hid (askC_one q a A n)
      generalize askC q a A n = C at *
      have HB4 := Lib.hid (Blk.new w3 72 C)
      have HA := Lib.hid ((Touch.refl (fun _ => False) w3).alloc (.cells C 72))
      clear hs hfv hrd hfx hx hlx hlt t3 hrg3 hc1 hc8 hq1 hq2 h64
      go_wp2_with (first
        | (refine storeC rowAk _ _ rfl rfl w3 _ C rfl rfl rfl rfl HCn.out HC1.out ?_)
        | ((with_reducible apply HB4.out.ld rowAk HCn.out); exact rfl; exact rfl; exact rfl)
        | (go_at_call 43; go_must (refine (HP.out _ (by exact HA.out)).mono ?_); rintro e w5 ⟨rfl, h5, t5⟩; have HS5 := Lib.hid h5; have HT5 := Lib.hid (show Touch (fun k => k = b2) w3 w5 from (HA.out.mono (fun _ _ e => e.elim)).trans t5 (fun _ _ e => e)); clear h5 t5))
      go_roundw
      case rel => exact ⟨_, HRr3.out.touch HT5.out (by omega) (by omega), HS5.out, HT5.out.blk HB3.out (by omega), HTw.out.trans HT5.out (fun k hk e => by omega)⟩
      case measure =>
        rw [rangeLeftV_touch HT5.out (by omega) (by omega) HRr3.out.map.lt hr3]
        exact HLt.out
end Go.Proofs.Ytmgmjehebbggaaa
end
