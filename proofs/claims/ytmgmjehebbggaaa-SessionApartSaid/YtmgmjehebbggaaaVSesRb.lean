/- session.Read: what it does. (written by gensesrb.py) -/
import Derived.Test.YtmgmjehebbggaaaVSesRa
namespace Go.Proofs.Ytmgmjehebbggaaa
open Go.RowKit Go.Maps
set_option maxHeartbeats 4000000
set_option maxRecDepth 100000
set_option linter.unusedVariables false

/-- A number, a reply: what was read is told ahead. -/
theorem num_at {m : Nat} {bad b : Bool} {l l' : List UInt8} {v : Nat} (hq : rd3 m (bad, l) = (v, b, l')) (g : Nat) (F : Nat → Prop) (w : World) (h : RdAt w g F l bad) :
    Calls Try.prog 37 #[.pointer (some ⟨g, 0, none⟩), .int .u64 m] w fun e w' => e = .returned (.int .u64 v) ∧ RdAt w' g F l' b ∧ Touch (fun k => k = g) w w' := by
  refine (num_st g F bad m l w h).mono ?_
  rintro e w' ⟨v1, b1, l1, hv, hm, rfl, h1, t1⟩
  rw [hv] at hq
  simp only [Prod.mk.injEq] at hq
  obtain ⟨rfl, rfl, rfl⟩ := hq
  exact ⟨rfl, h1, t1⟩
def RepP (r : RepN × Bool × List UInt8) (w : World) (g : Nat) (F : Nat → Prop) (e : Ending) (w' : World) : Prop :=
  ∃ A c, e = .returned (.tuple #[.agg (rpC (rpRes r).1.v A c), .bool (rpGood r)]) ∧ Rd w' (fun k => w.heap.size ≤ k ∧ k < w'.heap.size) A (rpRes r).1.v.fired.length ((rpRes r).1.v.fired.map U64) ∧ RdAt w' g F (rpRes r).2.2 (rpRes r).2.1 ∧ Touch (fun k => k = g) w w'
theorem rep_at (bad : Bool) (l : List UInt8) (g : Nat) (F : Nat → Prop) (w : World) (h : RdAt w g F l bad) (hg : g < w.heap.size) (hF : ∀ k, F k → k < w.heap.size) :
    Calls Try.prog 38 #[.pointer (some ⟨g, 0, none⟩)] w (RepP (rdRep (bad, l)) w g F) := by
  refine (rrread_any g F bad l w h hg hF).mono ?_
  rintro e w' ⟨⟨v, rfl, hu⟩, hr, ht⟩
  obtain ⟨q, ho, hq⟩ := hu
  obtain ⟨A, c, hv, -, -, -, hrd⟩ := ho.rd
  subst hv
  exact ⟨A, c, rfl, hrd.inside.mono (fun k hk => ⟨hq k hk.1, hk.2⟩), hr, ht⟩
/-- Between rows: the reader at gr, the table at g, its map at b. -/
structure SrL (w0 w : World) (gr g b : Nat) (Fr : Nat → Prop) (s : SesS) (bad : Bool) (l : List UInt8) : Prop where
  rd : RdAt w gr Fr l bad
  ses : SesAt w g b s (fun k => w0.heap.size ≤ k ∧ k ≠ b)
  t : Touch (fun k => k = gr) w0 w
  ge : w0.heap.size ≤ g ∧ w0.heap.size ≤ b
  gr : gr < w0.heap.size
  fr : ∀ k, Fr k → k < w0.heap.size
theorem SrL.read {w0 w w' : World} {gr g b : Nat} {Fr : Nat → Prop} {s : SesS} {bad bad' : Bool} {l l' : List UInt8} (h : SrL w0 w gr g b Fr s bad l) (hr : RdAt w' gr Fr l' bad') (t : Touch (fun k => k = gr) w w') : SrL w0 w' gr g b Fr s bad' l' := by
  obtain ⟨h1, h2, h3, h4, h5, h6⟩ := h
  exact ⟨hr, h2.touch t (fun e => by omega) (fun e => by omega) (fun k hk e => by have := hk.1; omega), h3.trans t (fun _ _ e => e), h4, h5, h6⟩
theorem SrL.far {w0 w w' : World} {gr g b : Nat} {Fr : Nat → Prop} {s : SesS} {bad : Bool} {l : List UInt8} (h : SrL w0 w gr g b Fr s bad l) (t : Touch (fun _ => False) w w') : SrL w0 w' gr g b Fr s bad l := by
  obtain ⟨h1, h2, h3, h4, h5, h6⟩ := h
  exact ⟨rdAt_touch h1 t (fun e => e) (fun _ _ e => e), h2.touch t (fun e => e) (fun e => e) (fun _ _ e => e), h3.trans t (fun _ _ e => e.elim), h4, h5, h6⟩
theorem SrL.done {w0 w w' : World} {gr g b : Nat} {Fr : Nat → Prop} {s s' : SesS} {bad : Bool} {l : List UInt8} (h : SrL w0 w gr g b Fr s bad l) (hs : SesAt w' g b s' (fun k => w0.heap.size ≤ k ∧ k ≠ b)) (t : Touch (fun k => k = b) w w') : SrL w0 w' gr g b Fr s' bad l := by
  obtain ⟨h1, h2, h3, h4, h5, h6⟩ := h
  exact ⟨rdAt_touch h1 t (fun e => by omega) (fun k hk e => by have := h6 k hk; omega), hs, h3.trans t (fun k hk e => by omega), h4, h5, h6⟩
def SrP (st : Bool × List UInt8) (w : World) (gr : Nat) (Fr : Nat → Prop) (e : Ending) (w' : World) : Prop :=
  (rdSesG st = true → ∃ g b, e = .returned (.tuple #[.pointer (some ⟨g, 0, none⟩), .bool true]) ∧ SesAt w' g b (rdSesX st).s (fun k => w.heap.size ≤ k ∧ k ≠ b) ∧ w.heap.size ≤ g ∧ w.heap.size ≤ b) ∧
  (rdSesG st = false → e = .returned (.tuple #[.pointer none, .bool false])) ∧ RdAt w' gr Fr (rdSesS st).2 (rdSesS st).1 ∧ Touch (fun k => k = gr) w w'
theorem last_none {x : RdS} (h : x.In) {i : Nat} (hi : x.last < i) : x.s i = none := by
  cases hs : x.s i with
  | none => rfl
  | some y => have := h.top i y hs; omega
theorem pRows_in (X : RdS) (hX : X.In) (k : Nat) (h : (pRows k X).ok = true) : (pRows k X).In := by
  obtain ⟨h1, h2⟩ := rows_same X k
  rw [h2 (h1 ▸ h)]
  exact fRows_in hX k
theorem sread_any (gr : Nat) (Fr : Nat → Prop) (bad : Bool) (l : List UInt8) (w : World) (h : RdAt w gr Fr l bad) (hg : gr < w.heap.size) (hF : ∀ k, Fr k → k < w.heap.size) :
    Calls Try.prog 19 #[.pointer (some ⟨gr, 0, none⟩)] w (SrP (bad, l) w gr Fr) := by
  obtain ⟨v1, b1, l1, hv1⟩ := rd3_pair 8 (bad, l)
  have hm1 : v1 ≤ 8 := by have := rd3_le 8 (bad, l); rw [hv1] at this; exact this
  have HV := Lib.hid hv1
  obtain ⟨X, hX⟩ : ∃ X, X = x0 (b1, l1) := ⟨_, rfl⟩
  have HXe := Lib.hid hX
  have HXi := Lib.hid (show X.In from hX ▸ x0_in _)
  have HN1 := Lib.hid (fun w1 (h1 : RdAt w1 gr Fr l bad) => num_at hv1 gr Fr w1 h1)
  have HR0 := Lib.hid h
  have HFr := Lib.hid hF
  obtain ⟨P, hP⟩ : ∃ P, P = SrP (bad, l) w gr Fr := ⟨_, rfl⟩
  rw [← hP]
  have HP := Lib.hid hP
  clear h hF hv1 hX hP
  go_enter Try.func19, Try.ntmps19
  go_wp2_with (first
    | (go_at_call 9
       go_must (refine (sempty_any _).mono ?_)
       rintro e w1 ⟨g, b, rfl, hs, hgg, hgb, t1⟩
       have HL1 := Lib.hid (show SrL w w1 gr g b Fr (fun _ => none) bad l from ⟨rdAt_touch HR0.out t1 (fun e => e) (fun _ _ e => e), hs, t1.mono (fun _ _ e => e.elim), ⟨hgg, hgb⟩, hg, HFr.out⟩)
       clear hs t1)
    | (go_at_call 37
       go_must (refine (HN1.out _ (by exact HL1.out.rd)).mono ?_)
       rintro e w2 ⟨rfl, h2, t2⟩
       have HL2 := Lib.hid (HL1.out.read h2 t2)
       clear h2 t2))
  have H00 := Lib.hid (show (pRows 0 X).s = (fun _ => none) ∧ (pRows 0 X).last = 0 ∧ (pRows 0 X).ok = true ∧ (pRows 0 X).st = (b1, l1) by rw [HXe.out]; exact ⟨rfl, rfl, rfl, rfl⟩)
  go_loopw [5, 6, 16] (fun ok la i wr => ∃ j : Nat, j ≤ v1 ∧ i = .int .u64 j ∧ ok = .bool (pRows j X).ok ∧ la = .int .u64 (pRows j X).last ∧ SrL w wr gr g b Fr (pRows j X).s (pRows j X).st.1 (pRows j X).st.2) (fun _ _ i _ => v1 - (intOf i).toNat)
  case atStart =>
    obtain ⟨e1, e2, e3, e4⟩ := H00.out
    exact ⟨0, by omega, rfl, by rw [e3], by rw [e2]; rfl, by rw [e1, e4]; exact HL2.out⟩
  case round =>
    obtain ⟨j, hj, rfl, rfl, rfl, hL⟩ := hrel
    have HL := Lib.hid hL
    clear H00 HL1 HL2 hL HR0
    by_cases hjn : j < v1
    · have hpn := show pRows (j + 1) X = pRow (pRows j X) from rfl
      have HIn := Lib.hid (pRows_in X HXi.out j)
      generalize pRows j X = x at *
      generalize hx' : pRows (j + 1) X = x' at *
      have HX' := Lib.hid hx'
      clear hx'
      obtain ⟨s, la, ok, bd, ll⟩ := x
      have hL' := HL.out
      simp only at hL' HL HIn
      obtain ⟨i, b2, l2, q1⟩ := rd3_pair 8 (bd, ll)
      obtain ⟨q, b3, l3, q2⟩ := rd3_pair 18446744073709551615 (b2, l2)
      obtain ⟨r, hr⟩ : ∃ r, r = rdRep (b3, l3) := ⟨_, rfl⟩
      have hrow : rowR (bd, ll) = ⟨i, q, (rpRes r).1, rpGood r, (rpRes r).2⟩ := by
        unfold rowR; rw [q1]; simp only; rw [q2]; simp only; rw [hr]
      have hi8 : i ≤ 8 := by have := rd3_le 8 (bd, ll); rw [q1] at this; exact this
      have hq : q < 18446744073709551616 := by have := rd3_le 18446744073709551615 (b2, l2); rw [q2] at this; simp only at this; omega
      have HC1 := Lib.hid (fun w1 (h1 : RdAt w1 gr Fr ll bd) => num_at q1 gr Fr w1 h1)
      have HC2 := Lib.hid (fun w1 (h1 : RdAt w1 gr Fr l2 b2) => num_at q2 gr Fr w1 h1)
      have HC3 := Lib.hid (fun w1 (h1 : RdAt w1 gr Fr l3 b3) (hg : gr < w1.heap.size) (hF : ∀ k, Fr k → k < w1.heap.size) => rep_at b3 l3 gr Fr w1 h1 hg hF)
      rw [← hr] at HC3
      have HRw := Lib.hid hrow
      have hokp : (rpRes r).1.v.okp := by
        unfold rpRes
        split
        · rw [hr]; exact RepN.v_okp _
        · exact ⟨by simp [RepN.v, rpZero, tkZero, TkN.v, TkV.ok], by simp [RepN.v, rpZero, tkZero, TkN.v], by simp [RepN.v, rpZero], by simp [RepN.v, rpZero]⟩
      have hgs : rpGood r = true → rpS (rpRes r).1.v = true := fun hg => by
        rw [hr] at hg ⊢; rw [rpRes, if_pos hg]; exact rpGood_s hg
      unfold RepP at HC3
      generalize hgd : rpGood r = gd at *
      obtain ⟨⟨Rv, b4, l4⟩, hRR⟩ : ∃ z, rpRes r = z := ⟨_, rfl⟩
      rw [hRR] at HC3 hokp hgs hrow
      simp only at HC3 hokp hgs hrow
      generalize hva : Rv.v = a at *
      have HHk := Lib.hid hokp
      have HHs := Lib.hid hgs
      have HHr := Lib.hid hrow
      have hpn' : x' = (if (ok && okR ⟨s, la, ok, (bd, ll)⟩ ⟨i, q, Rv, gd, (b4, l4)⟩) = true then ⟨setS s i q a, i, true, (b4, l4)⟩ else ⟨s, i, false, (b4, l4)⟩ : RdS) := by
        rw [hpn, pRow]; simp only [stepR]; rw [hrow]; simp only; rw [hva]
      have HPn := Lib.hid hpn'
      obtain ⟨E, hE⟩ : ∃ E, E = doneE s i q a := ⟨_, rfl⟩
      obtain ⟨S2, hS⟩ : ∃ S2, S2 = doneS s i q a := ⟨_, rfl⟩
      have HDn := Lib.hid (show ∀ A c w6, SesAt w6 g b s (fun k => w.heap.size ≤ k ∧ k ≠ b) → (∀ k, w6.heap.size ≤ k → w.heap.size ≤ k ∧ k ≠ b) → Rd w6 (fun k => k < w6.heap.size) A a.fired.length (a.fired.map U64) →
          Calls Try.prog 12 #[.pointer (some ⟨g, 0, none⟩), .int .u64 i, .int .u64 q, .agg (rpC a A c)] w6 (DoneP g b (fun k => w.heap.size ≤ k ∧ k ≠ b) E S2 w6) from by
        intro A c w6 h6 hk hrd
        rw [hE, hS]
        exact sdone_any g b s (fun k => w.heap.size ≤ k ∧ k ≠ b) w6 h6 hk i q (by omega) hq a A c hrd HHk.out.1)
      have HE := Lib.hid hE
      have HS := Lib.hid hS
      unfold DoneP at HDn
      clear hpn hrow hgs hokp hpn' hr hgd hRR hva q1 q2 HRw hE hS
      cases ok
      · have HX := Lib.hid (show pRows (j + 1) X = ⟨s, i, false, (b4, l4)⟩ by rw [HX'.out, HPn.out]; rfl)
        clear HPn HX'
        go_wp2_with
              (first
            | (go_at_call 37; have HM9 := HLa
               go_must (refine (HC2.out _ (by exact HLa.out.rd)).mono ?_)
               rintro e w4 ⟨rfl, h4, t4⟩
               have HLb := Lib.hid (HLa.out.read h4 t4)
               clear h4 t4)
            | (go_at_call 37
               go_must (refine (HC1.out _ (by exact HL.out.rd)).mono ?_)
               rintro e w3 ⟨rfl, h3, t3⟩
               have HLa := Lib.hid (HL.out.read h3 t3)
               clear h3 t3)
            | (go_at_call 38
               go_must (refine (HC3.out _ (by exact HLb.out.rd) (by have := HLb.out.t.size; omega) (by intro k hk; have := HLb.out.fr k hk; have := HLb.out.t.size; omega)).mono ?_)
               rintro e w5 ⟨A5, c5, rfl, hr5, h5, t5⟩
               have HLc := Lib.hid (HLb.out.read h5 t5)
               have HRd := Lib.hid hr5
               have HSz := Lib.hid (rpC_size a A5 c5)
               have HOn := Lib.hid (rpC_one a A5 c5)
               have HDm := Lib.hid (HDn.out A5 c5)
               generalize rpC a A5 c5 = C5 at *
               have HLd := Lib.hid (HLc.out.far ((Touch.refl (fun _ => False) w5).alloc (.cells C5 35)))
               have HBr := Lib.hid (Blk.new w5 35 C5)
               clear h5 t5 hr5)
            | (refine storeC rowRy _ _ rfl rfl _ _ C5 rfl rfl rfl rfl HSz.out HOn.out ?_)
            | ((with_reducible apply HBr.out.ld rowRy HSz.out); exact rfl; exact rfl; exact rfl))
        go_roundw
        case rel => exact ⟨j + 1, by omega, by go_num, by rw [HX.out], by rw [HX.out], by rw [HX.out]; exact HLd.out⟩
        case measure => simp [intOf]; omega
      cases gd
      · have HX := Lib.hid (show pRows (j + 1) X = ⟨s, i, false, (b4, l4)⟩ by rw [HX'.out, HPn.out]; rfl)
        clear HPn HX'
        go_wp2_with
              (first
            | (go_at_call 37; have HM9 := HLa
               go_must (refine (HC2.out _ (by exact HLa.out.rd)).mono ?_)
               rintro e w4 ⟨rfl, h4, t4⟩
               have HLb := Lib.hid (HLa.out.read h4 t4)
               clear h4 t4)
            | (go_at_call 37
               go_must (refine (HC1.out _ (by exact HL.out.rd)).mono ?_)
               rintro e w3 ⟨rfl, h3, t3⟩
               have HLa := Lib.hid (HL.out.read h3 t3)
               clear h3 t3)
            | (go_at_call 38
               go_must (refine (HC3.out _ (by exact HLb.out.rd) (by have := HLb.out.t.size; omega) (by intro k hk; have := HLb.out.fr k hk; have := HLb.out.t.size; omega)).mono ?_)
               rintro e w5 ⟨A5, c5, rfl, hr5, h5, t5⟩
               have HLc := Lib.hid (HLb.out.read h5 t5)
               have HRd := Lib.hid hr5
               have HSz := Lib.hid (rpC_size a A5 c5)
               have HOn := Lib.hid (rpC_one a A5 c5)
               have HDm := Lib.hid (HDn.out A5 c5)
               generalize rpC a A5 c5 = C5 at *
               have HLd := Lib.hid (HLc.out.far ((Touch.refl (fun _ => False) w5).alloc (.cells C5 35)))
               have HBr := Lib.hid (Blk.new w5 35 C5)
               clear h5 t5 hr5)
            | (refine storeC rowRy _ _ rfl rfl _ _ C5 rfl rfl rfl rfl HSz.out HOn.out ?_)
            | ((with_reducible apply HBr.out.ld rowRy HSz.out); exact rfl; exact rfl; exact rfl))
        go_roundw
        case rel => exact ⟨j + 1, by omega, by go_num, by rw [HX.out], by rw [HX.out], by rw [HX.out]; exact HLd.out⟩
        case measure => simp [intOf]; omega
      have HIn := Lib.hid (HIn.out rfl)
      have HHs := Lib.hid (HHs.out rfl)
      by_cases hla : la < i
      case neg =>
        have HX := Lib.hid (show pRows (j + 1) X = ⟨s, i, false, (b4, l4)⟩ by rw [HX'.out, HPn.out]; simp [okR, hla])
        clear HPn HX'
        have hla1 : ¬ (la : Int) < (i : Int) := by omega
        clear hla
        go_wp2_with
              (first
            | (go_at_call 37; have HM9 := HLa
               go_must (refine (HC2.out _ (by exact HLa.out.rd)).mono ?_)
               rintro e w4 ⟨rfl, h4, t4⟩
               have HLb := Lib.hid (HLa.out.read h4 t4)
               clear h4 t4)
            | (go_at_call 37
               go_must (refine (HC1.out _ (by exact HL.out.rd)).mono ?_)
               rintro e w3 ⟨rfl, h3, t3⟩
               have HLa := Lib.hid (HL.out.read h3 t3)
               clear h3 t3)
            | (go_at_call 38
               go_must (refine (HC3.out _ (by exact HLb.out.rd) (by have := HLb.out.t.size; omega) (by intro k hk; have := HLb.out.fr k hk; have := HLb.out.t.size; omega)).mono ?_)
               rintro e w5 ⟨A5, c5, rfl, hr5, h5, t5⟩
               have HLc := Lib.hid (HLb.out.read h5 t5)
               have HRd := Lib.hid hr5
               have HSz := Lib.hid (rpC_size a A5 c5)
               have HOn := Lib.hid (rpC_one a A5 c5)
               have HDm := Lib.hid (HDn.out A5 c5)
               generalize rpC a A5 c5 = C5 at *
               have HLd := Lib.hid (HLc.out.far ((Touch.refl (fun _ => False) w5).alloc (.cells C5 35)))
               have HBr := Lib.hid (Blk.new w5 35 C5)
               clear h5 t5 hr5)
            | (refine storeC rowRy _ _ rfl rfl _ _ C5 rfl rfl rfl rfl HSz.out HOn.out ?_)
            | ((with_reducible apply HBr.out.ld rowRy HSz.out); exact rfl; exact rfl; exact rfl))
        go_roundw
        case rel => exact ⟨j + 1, by omega, by go_num, by rw [HX.out], by rw [HX.out], by rw [HX.out]; exact HLd.out⟩
        case measure => simp [intOf]; omega
      have hla1 : (la : Int) < (i : Int) := by omega
      have hnone : s i = none := last_none HIn.out hla
      have hlast : lastV s i = 0 := by rw [lastV, hnone]
      clear hnone
      have hwho : whoB i = true := by simp [whoB]; omega
      by_cases hq0 : 0 < q
      case neg =>
        have HX := Lib.hid (show pRows (j + 1) X = ⟨s, i, false, (b4, l4)⟩ by rw [HX'.out, HPn.out]; simp [okR, hq0])
        have hE : E = 34 := by rw [HE.out, doneE, hwho, HHs.out, hlast]; simp; omega
        have hS : S2 = s := by rw [HS.out, doneS, ← HE.out, hE]; rfl
        clear HE HS
        subst hE hS
        clear HPn HX' hla hlast hwho hq0
        go_wp2_with
              (first
            | (go_at_call 37; have HM9 := HLa
               go_must (refine (HC2.out _ (by exact HLa.out.rd)).mono ?_)
               rintro e w4 ⟨rfl, h4, t4⟩
               have HLb := Lib.hid (HLa.out.read h4 t4)
               clear h4 t4)
            | (go_at_call 37
               go_must (refine (HC1.out _ (by exact HL.out.rd)).mono ?_)
               rintro e w3 ⟨rfl, h3, t3⟩
               have HLa := Lib.hid (HL.out.read h3 t3)
               clear h3 t3)
            | (go_at_call 38
               go_must (refine (HC3.out _ (by exact HLb.out.rd) (by have := HLb.out.t.size; omega) (by intro k hk; have := HLb.out.fr k hk; have := HLb.out.t.size; omega)).mono ?_)
               rintro e w5 ⟨A5, c5, rfl, hr5, h5, t5⟩
               have HLc := Lib.hid (HLb.out.read h5 t5)
               have HRd := Lib.hid hr5
               have HSz := Lib.hid (rpC_size a A5 c5)
               have HOn := Lib.hid (rpC_one a A5 c5)
               have HDm := Lib.hid (HDn.out A5 c5)
               generalize rpC a A5 c5 = C5 at *
               have HLd := Lib.hid (HLc.out.far ((Touch.refl (fun _ => False) w5).alloc (.cells C5 35)))
               have HBr := Lib.hid (Blk.new w5 35 C5)
               clear h5 t5 hr5)
            | (refine storeC rowRy _ _ rfl rfl _ _ C5 rfl rfl rfl rfl HSz.out HOn.out ?_)
            | ((with_reducible apply HBr.out.ld rowRy HSz.out); exact rfl; exact rfl; exact rfl)
            | (go_at_call 12
               go_must (refine (HDm.out _ (by exact HLd.out.ses) (by intro k hk; have := HLd.out.t.size; have := HLd.out.ge; have := HLd.out.ses.map.choose_spec.1.lt; constructor <;> omega) (by exact (HRd.out.touch ((Touch.refl (fun _ => False) w5).alloc _) (fun _ _ e => e)).mono (fun k hk => by simp; omega))).mono ?_)
               rintro e w6 ⟨rfl, h6, t6⟩
               have HLe := Lib.hid (HLd.out.done h6 t6)
               clear h6 t6))
        go_roundw
        case rel => exact ⟨j + 1, by omega, by go_num, by rw [HX.out], by rw [HX.out], by rw [HX.out]; exact HLe.out⟩
        case measure => simp [intOf]; omega
      have HX := Lib.hid (show pRows (j + 1) X = ⟨setS s i q a, i, true, (b4, l4)⟩ by rw [HX'.out, HPn.out]; simp [okR, hla, hq0])
      have hE : E = 0 := by rw [HE.out, doneE, hwho, HHs.out, hlast]; simp; omega
      have hS : S2 = setS s i q a := by rw [HS.out, doneS, ← HE.out, hE]; rfl
      clear HE HS
      obtain rfl := hE
      rw [hS] at HDn
      clear HPn HX' hla hlast hwho hq0 hS
      generalize setS s i q a = S3 at *
      go_wp2_with
          (first
          | (go_at_call 37; have HM9 := HLa
             go_must (refine (HC2.out _ (by exact HLa.out.rd)).mono ?_)
             rintro e w4 ⟨rfl, h4, t4⟩
             have HLb := Lib.hid (HLa.out.read h4 t4)
             clear h4 t4)
          | (go_at_call 37
             go_must (refine (HC1.out _ (by exact HL.out.rd)).mono ?_)
             rintro e w3 ⟨rfl, h3, t3⟩
             have HLa := Lib.hid (HL.out.read h3 t3)
             clear h3 t3)
          | (go_at_call 38
             go_must (refine (HC3.out _ (by exact HLb.out.rd) (by have := HLb.out.t.size; omega) (by intro k hk; have := HLb.out.fr k hk; have := HLb.out.t.size; omega)).mono ?_)
             rintro e w5 ⟨A5, c5, rfl, hr5, h5, t5⟩
             have HLc := Lib.hid (HLb.out.read h5 t5)
             have HRd := Lib.hid hr5
             have HSz := Lib.hid (rpC_size a A5 c5)
             have HOn := Lib.hid (rpC_one a A5 c5)
             have HDm := Lib.hid (HDn.out A5 c5)
             generalize rpC a A5 c5 = C5 at *
             have HLd := Lib.hid (HLc.out.far ((Touch.refl (fun _ => False) w5).alloc (.cells C5 35)))
             have HBr := Lib.hid (Blk.new w5 35 C5)
             clear h5 t5 hr5)
          | (refine storeC rowRy _ _ rfl rfl _ _ C5 rfl rfl rfl rfl HSz.out HOn.out ?_)
          | ((with_reducible apply HBr.out.ld rowRy HSz.out); exact rfl; exact rfl; exact rfl)
          | (go_at_call 12
             go_must (refine (HDm.out _ (by exact HLd.out.ses) (by intro k hk; have := HLd.out.t.size; have := HLd.out.ge; have := HLd.out.ses.map.choose_spec.1.lt; constructor <;> omega) (by exact (HRd.out.touch ((Touch.refl (fun _ => False) w5).alloc _) (fun _ _ e => e)).mono (fun k hk => by simp; omega))).mono ?_)
             rintro e w6 ⟨rfl, h6, t6⟩
             have HLe := Lib.hid (HLd.out.done h6 t6)
             clear h6 t6))
      go_roundw
      case rel => exact ⟨j + 1, by omega, by go_num, by rw [HX.out], by rw [HX.out], by rw [HX.out]; exact HLe.out⟩
      case measure => simp [intOf]; omega
    · obtain rfl : j = v1 := by omega
      have HSp := Lib.hid (rows_same X j)
      have HQ := Lib.hid (show rdSesX (bad, l) = fRows j X from by rw [rdSesX, HV.out, HXe.out])
      generalize pRows j X = x at *
      generalize fRows j X = y at *
      obtain ⟨s, la, ok, bd, ll⟩ := x
      simp only at HL HSp
      have HB := Lib.hid (fun w1 (h1 : RdAt w1 gr Fr ll bd) => bad_st gr Fr ll bd w1 h1)
      have HFl := Lib.hid (fun w1 (h1 : RdAt w1 gr Fr ll bd) => fail_st gr Fr ll bd w1 h1)
      unfold RPost at HFl
      cases ok
      · have HG := Lib.hid (show rdSesG (bad, l) = false by rw [rdSesG, HQ.out, ← HSp.out.1]; rfl)
        clear HSp
        go_wp2_with (go_at_call 39; go_must (refine (HFl.out _ (by exact HL.out.rd)).mono ?_); rintro e w3 ⟨rfl, h3, t3⟩; have HL3 := Lib.hid (HL.out.read h3 t3); clear h3 t3)
        rw [HP.out]
        exact ⟨fun h => (by rw [HG.out] at h; cases h), fun _ => rfl, by rw [rdSesS, if_neg (by rw [HG.out]; simp)]; exact HL3.out.rd, HL3.out.t⟩
      have HY := Lib.hid (HSp.out.2 HSp.out.1.symm)
      clear HSp
      cases bd
      · have HG := Lib.hid (show rdSesG (bad, l) = true by rw [rdSesG, HQ.out, ← HY.out]; rfl)
        go_wp2_with (go_at_call 22; go_must (refine (HB.out _ (by exact HL.out.rd)).mono ?_); rintro e w3 ⟨rfl, rfl⟩)
        rw [HP.out]
        refine ⟨fun _ => ⟨g, b, rfl, ?_, HL.out.ge.1, HL.out.ge.2⟩, fun h => (by rw [HG.out] at h; cases h), ?_, HL.out.t⟩
        · rw [HQ.out, ← HY.out]; exact HL.out.ses
        · rw [rdSesS, if_pos HG.out, HQ.out, ← HY.out]; exact HL.out.rd
      · have HG := Lib.hid (show rdSesG (bad, l) = false by rw [rdSesG, HQ.out, ← HY.out]; rfl)
        go_wp2_with (first
          | (go_at_call 22; go_must (refine (HB.out _ (by exact HL.out.rd)).mono ?_); rintro e w3 ⟨rfl, rfl⟩)
          | (go_at_call 39; go_must (refine (HFl.out _ (by exact HL.out.rd)).mono ?_); rintro e w3 ⟨rfl, h3, t3⟩; have HL3 := Lib.hid (HL.out.read h3 t3); clear h3 t3))
        rw [HP.out]
        exact ⟨fun h => (by rw [HG.out] at h; cases h), fun _ => rfl, by rw [rdSesS, if_neg (by rw [HG.out]; simp)]; exact HL3.out.rd, HL3.out.t⟩
end Go.Proofs.Ytmgmjehebbggaaa
