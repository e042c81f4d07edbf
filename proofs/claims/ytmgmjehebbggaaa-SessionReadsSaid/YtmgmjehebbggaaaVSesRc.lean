/- ref20.Read: what it does. (written by gensesrc.py) -/
import Derived.Test.YtmgmjehebbggaaaVSesRb
import Derived.Test.YtmgmjehebbggaaaVArgsO
import Derived.Test.YtmgmjehebbggaaaVRepL
namespace Go.Proofs.Ytmgmjehebbggaaa
open Go.RowKit Go.Maps
set_option maxHeartbeats 4000000
set_option maxRecDepth 100000
set_option linter.unusedVariables false

theorem fnum_at {m : Nat} {bad b : Bool} {l l' : List UInt8} {v : Nat} (hq : rd3 m (bad, l) = (v, b, l')) (g : Nat) (F : Nat → Prop) (w : World) (h : RfAt w g F l bad) :
    Calls Try.prog 40 #[.pointer (some ⟨g, 0, none⟩), .int .u64 m] w fun e w' => e = .returned (.int .u64 v) ∧ RfAt w' g F l' b ∧ Touch (fun k => k = g) w w' := by
  refine (fnum_st g F bad m l w h).mono ?_
  rintro e w' ⟨v1, b1, l1, hv, hm, rfl, h1, t1⟩
  rw [hv] at hq
  simp only [Prod.mk.injEq] at hq
  obtain ⟨rfl, rfl, rfl⟩ := hq
  exact ⟨rfl, h1, t1⟩
def FRepP (r : RepN × Bool × List UInt8) (w : World) (g : Nat) (F : Nat → Prop) (e : Ending) (w' : World) : Prop :=
  ∃ A c, e = .returned (.tuple #[.agg (rpC (rpRes r).1.v A c), .bool (rpGood r)]) ∧ Rd w' (fun k => w.heap.size ≤ k ∧ k < w'.heap.size) A (rpRes r).1.v.fired.length ((rpRes r).1.v.fired.map U64) ∧ RfAt w' g F (rpRes r).2.2 (rpRes r).2.1 ∧ Touch (fun k => k = g) w w'
theorem frep_at (bad : Bool) (l : List UInt8) (g : Nat) (F : Nat → Prop) (w : World) (h : RfAt w g F l bad) (hg : g < w.heap.size) (hF : ∀ k, F k → k < w.heap.size) :
    Calls Try.prog 41 #[.pointer (some ⟨g, 0, none⟩)] w (FRepP (rdRep (bad, l)) w g F) := by
  refine (rrreadR_any g F bad l w h hg hF).mono ?_
  rintro e w' ⟨⟨v, rfl, hu⟩, hr, ht⟩
  obtain ⟨q, ho, hq⟩ := hu
  obtain ⟨A, c, hv, -, -, -, hrd⟩ := ho.rd
  subst hv
  exact ⟨A, c, rfl, hrd.inside.mono (fun k hk => ⟨hq k hk.1, hk.2⟩), hr, ht⟩
theorem fRows_stop (X : RdS) (j : Nat) (h : (fRows j X).ok = false) : ∀ k, fRows (j + k) X = fRows j X
  | 0 => rfl
  | k + 1 => by
    rw [← Nat.add_assoc]
    show fRow (fRows (j + k) X) = _
    rw [fRows_stop X j h k]
    unfold fRow
    rw [if_neg (by rw [h]; simp)]
/-- Between rows: the reader at gr; the result's block; the table's block behind it. -/
structure SfL (w0 w : World) (gr : Nat) (Fr : Nat → Prop) (T : RT) (s : SesS) (C : Array Value) (bad : Bool) (l : List UInt8) : Prop where
  rd : RfAt w gr Fr l bad
  res : ∃ Z, Z.size = 135 ∧ Blk w w0.heap.size 46 Z
  tab : Blk w (w0.heap.size + 1) 46 C
  hT : RTs T s
  hr : RTr T s w (fun k => w0.heap.size + 2 ≤ k)
  t : Touch (fun k => k = gr) w0 w
  gr : gr < w0.heap.size
  fr : ∀ k, Fr k → k < w0.heap.size
  n : w0.heap.size + 2 ≤ w.heap.size
section
variable {w0 w w' : World} {gr : Nat} {Fr : Nat → Prop} {T T' : RT} {s s' : SesS} {C D : Array Value} {bad bad' : Bool} {l l' : List UInt8}
theorem SfL.read (h : SfL w0 w gr Fr T s C bad l) (hr : RfAt w' gr Fr l' bad') (t : Touch (fun k => k = gr) w w') : SfL w0 w' gr Fr T s C bad' l' := by
  obtain ⟨h1, ⟨Z, hz, h2⟩, h3, h4, h5, h6, h7, h8, h9⟩ := h
  exact ⟨hr, ⟨Z, hz, t.blk h2 (by omega)⟩, t.blk h3 (by omega), h4, h5.touch t (fun k hk e => by omega), h6.trans t (fun _ _ e => e), h7, h8, Nat.le_trans h9 t.size⟩
theorem SfL.far (h : SfL w0 w gr Fr T s C bad l) (t : Touch (fun _ => False) w w') : SfL w0 w' gr Fr T s C bad l := by
  obtain ⟨h1, ⟨Z, hz, h2⟩, h3, h4, h5, h6, h7, h8, h9⟩ := h
  exact ⟨rfAt_touch h1 t (fun e => e) (fun _ _ e => e), ⟨Z, hz, t.blk h2 (fun e => e)⟩, t.blk h3 (fun e => e), h4, h5.touch t (fun _ _ e => e), h6.trans t (fun _ _ e => e.elim), h7, h8, Nat.le_trans h9 t.size⟩
theorem SfL.own (h : SfL w0 w gr Fr T s C bad l) (t : Touch (fun k => k = w0.heap.size + 1) w w') (hb : Blk w' (w0.heap.size + 1) 46 D) : SfL w0 w' gr Fr T s D bad l := by
  obtain ⟨h1, ⟨Z, hz, h2⟩, h3, h4, h5, h6, h7, h8, h9⟩ := h
  exact ⟨rfAt_touch h1 t (by omega) (fun k hk e => by have := h8 k hk; omega), ⟨Z, hz, t.blk h2 (by omega)⟩, hb, h4, h5.touch t (fun k hk e => by omega), h6.trans t (fun k hk e => by omega), h7, h8, Nat.le_trans h9 t.size⟩
theorem SfL.say (h : SfL w0 w gr Fr T s C bad l) (hT : RTs T' s') (hr : RTr T' s' w (fun k => w0.heap.size + 2 ≤ k)) : SfL w0 w gr Fr T' s' C bad l := by
  obtain ⟨h1, h2, h3, h4, h5, h6, h7, h8, h9⟩ := h
  exact ⟨h1, h2, h3, hT, hr, h6, h7, h8, h9⟩
end
section
variable {ops : Array Oper} {rest : List Oper} {o : Oper} {a : Act} {w w1 : World} {Q : Exit → Act → World → Prop} {gr : Nat} {Fr : Nat → Prop} {T : RT} {s : SesS} {C D L : Array Value} {bad : Bool} {l : List UInt8}
theorem SfL.put (h : SfL w w1 gr Fr T s C bad l) (hn : C.size = 135) (k : Nat) (hk : k < 9) (hL : L.size = 14) (h1 : L.all (·.oneCell') = true) (hE : setAll C (9 + k * 14) L.toList = D) (x y : Operand) (ho : o.op = .store 35 x y) (hw : Region.wanted o (yielded ops a.tmps) = true) (hx : a.eval x = .pointer (some ⟨w.heap.size + 1, 9 + k * 14, none⟩)) (hy : a.eval y = .agg L)
    (hK : ∀ w2, SfL w w2 gr Fr T s D bad l → Touch (fun q => q = w.heap.size + 1) w1 w2 → wpList Try.prog ops Q rest (a.put o.dst undef) w2) : wpList Try.prog ops Q (o :: rest) a w1 := by
  refine storeP rowRy x y ho hw _ _ hx L hy _ C h.tab (by omega) hL h1 ?_
  intro w2 h2 t2 _
  exact hK w2 (h.own t2 (hE ▸ h2)) t2
theorem SfL.load (h : SfL w w1 gr Fr T s C bad l) (hn : C.size = 135) (x : Operand) (ho : o.op = .load 46 x) (hw : Region.wanted o (yielded ops a.tmps) = true) (hx : a.eval x = .pointer (some ⟨w.heap.size + 1, 0, none⟩))
    (hK : wpList Try.prog ops Q rest (a.put o.dst (.agg C)) w1) : wpList Try.prog ops Q (o :: rest) a w1 := h.tab.ld rowRt hn x ho hw hx hK
theorem SfL.store (h : SfL w w1 gr Fr T s C bad l) (hn : D.size = 135) (h1 : D.all (·.oneCell') = true) (x y : Operand) (ho : o.op = .store 46 x y) (hw : Region.wanted o (yielded ops a.tmps) = true) (hx : a.eval x = .pointer (some ⟨w.heap.size, 0, none⟩)) (hy : a.eval y = .agg D)
    (hK : ∀ w2, Blk w2 w.heap.size 46 D → RfAt w2 gr Fr l bad → RTr T s w2 (fun k => w.heap.size + 2 ≤ k) → Touch (fun k => k = gr) w w2 → wpList Try.prog ops Q rest (a.put o.dst undef) w2) : wpList Try.prog ops Q (o :: rest) a w1 := by
  obtain ⟨h1', ⟨Z, hz, h2⟩, h3, h4, h5, h6, h7, h8, h9⟩ := h
  refine storeM rowRt x y ho hw _ hx D hy _ Z h2 hz hn h1 ?_
  intro w2 hb t2
  exact hK w2 hb (rfAt_touch h1' t2 (by omega) (fun k hk e => by have := h8 k hk; omega)) (h5.touch t2 (fun k hk e => by omega)) (h6.trans t2 (fun k hk e => by omega))
end
def SfP (st : Bool × List UInt8) (w : World) (gr : Nat) (Fr : Nat → Prop) (e : Ending) (w' : World) : Prop :=
  ∃ T : RT, e = .returned (.tuple #[.agg T.cells, .bool (rdSesG st)]) ∧ (rdSesG st = true → RTs T (rdSesX st).s ∧ RTr T (rdSesX st).s w' (fun k => w.heap.size + 2 ≤ k)) ∧ RfAt w' gr Fr (rdSesS st).2 (rdSesS st).1 ∧ Touch (fun k => k = gr) w w'
theorem RT.zero_is : RT.zero.cells = Try.zeroCells46 := by kernel_rfl
theorem builtRt : Try.prog.built 46 [] = some RT.zero.cells := by kernel_rfl
theorem fread20_any (gr : Nat) (Fr : Nat → Prop) (bad : Bool) (l : List UInt8) (w : World) (h : RfAt w gr Fr l bad) (hg : gr < w.heap.size) (hF : ∀ k, Fr k → k < w.heap.size) :
    Calls Try.prog 20 #[.pointer (some ⟨gr, 0, none⟩)] w (SfP (bad, l) w gr Fr) := by
  obtain ⟨v1, b1, l1, hv1⟩ := rd3_pair 8 (bad, l)
  have hm1 : v1 ≤ 8 := by have := rd3_le 8 (bad, l); rw [hv1] at this; exact this
  have HV := Lib.hid hv1
  obtain ⟨X, hX⟩ : ∃ X, X = x0 (b1, l1) := ⟨_, rfl⟩
  have HXe := Lib.hid hX
  have HXi := Lib.hid (show X.In from hX ▸ x0_in _)
  have HN1 := Lib.hid (fun w1 (h1 : RfAt w1 gr Fr l bad) => fnum_at hv1 gr Fr w1 h1)
  have HFr := Lib.hid hF
  have ta := ((Touch.refl (fun _ => False) w).alloc (.cells Try.zeroCells46 46)).alloc (.cells Try.zeroCells46 46)
  have HL1 := Lib.hid (show SfL w ((w.alloc (.cells Try.zeroCells46 46)).alloc (.cells Try.zeroCells46 46)) gr Fr RT.zero (fun _ => none) Try.zeroCells46 bad l from
    ⟨rfAt_touch h ta (fun e => e) (fun _ _ e => e), ⟨Try.zeroCells46, by kernel_rfl, (Blk.new w _ _).alloc _⟩, by simpa using Blk.new (w.alloc (.cells Try.zeroCells46 46)) 46 Try.zeroCells46, RTs.zero, RTr.zero _ _, ta.mono (fun _ _ e => e.elim), hg, hF, by simp⟩)
  obtain ⟨P, hP⟩ : ∃ P, P = SfP (bad, l) w gr Fr := ⟨_, rfl⟩
  rw [← hP]
  have HP := Lib.hid hP
  clear h hF hv1 hX hP ta
  go_enter Try.func20, Try.ntmps20
  go_wp2_with (first
    | (go_at_call 40
       go_must (refine (HN1.out _ (by exact HL1.out.rd)).mono ?_)
       rintro e w2 ⟨rfl, h2, t2⟩
       have HL2 := Lib.hid (HL1.out.read h2 t2)
       clear h2 t2))
  have H00 := Lib.hid (show (fRows 0 X).s = (fun _ => none) ∧ (fRows 0 X).last = 0 ∧ (fRows 0 X).ok = true ∧ (fRows 0 X).st = (b1, l1) by rw [HXe.out]; exact ⟨rfl, rfl, rfl, rfl⟩)
  go_loopw [5, 6, 7] (fun ok la n wr => ∃ j m : Nat, m + j = v1 ∧ n = .int .u64 m ∧ ok = .bool (fRows j X).ok ∧ la = .int .u64 (fRows j X).last ∧ ∃ T : RT, SfL w wr gr Fr T (fRows j X).s T.cells (fRows j X).st.1 (fRows j X).st.2) (fun _ _ n _ => (intOf n).toNat)
  case atStart =>
    obtain ⟨e1, e2, e3, e4⟩ := H00.out
    exact ⟨0, v1, by omega, rfl, by rw [e3], by rw [e2]; rfl, RT.zero, by rw [e1, e4, RT.zero_is]; exact HL2.out⟩
  case round =>
    obtain ⟨j, m, hj, rfl, rfl, rfl, T, hL⟩ := hrel
    have HL := Lib.hid hL
    clear H00 HL1 HL2 hL
    have hpn := show fRows (j + 1) X = fRow (fRows j X) from rfl
    have HIn := Lib.hid (fRows_in HXi.out j)
    have HQ := Lib.hid (show (fRows j X).ok = false ∨ m = 0 → rdSesX (bad, l) = fRows j X from by
      rintro (e | e)
      · rw [rdSesX, HV.out, ← HXe.out, ← hj, Nat.add_comm m j]; exact fRows_stop X j e m
      · rw [rdSesX, HV.out, ← HXe.out, ← hj, e, Nat.zero_add])
    have HJ := Lib.hid hj
    have hm8 : m ≤ 8 := by omega
    clear hj
    generalize fRows j X = x at *
    generalize hx' : fRows (j + 1) X = x' at *
    have HX' := Lib.hid hx'
    obtain ⟨s, la, ok, bd, ll⟩ := x
    simp only at HL HIn HQ
    have HCn := Lib.hid T.cells_size
    have HC1 := Lib.hid T.cells_one
    clear hx'
    have HFl := Lib.hid (fun w1 (h1 : RfAt w1 gr Fr ll bd) => rf_fail gr Fr ll bd w1 h1)
    unfold FPost at HFl
    by_cases hstop : ok = false ∨ m = 0
    · have HQQ := Lib.hid (HQ.out hstop)
      clear HQ
      clear hpn
      by_cases hbk : ok = true ∧ bd = false
      · obtain ⟨rfl, rfl⟩ := hbk
        have hm0 : m = 0 := by rcases hstop with e | e; cases e; exact e
        subst hm0
        have HG := Lib.hid (show rdSesG (bad, l) = true by rw [rdSesG, HQQ.out]; rfl)
        obtain ⟨_, Ae, ce, hle, hme, hbe, _⟩ := HL.out.rd
        have y1 := hbe.cell 1
        simp at y1
        clear hstop hbe hle hme
        generalize hC : T.cells = C at *
        have HC := Lib.hid hC
        clear hC
        go_wp2_with (first
          | ((with_reducible apply HL.out.load HCn.out); exact rfl; exact rfl; exact rfl)
          | ((with_reducible apply HL.out.store HCn.out HC1.out); exact rfl; exact rfl; exact rfl; exact rfl; intro w2 hb2 hr2 hq2 t2; have HB2 := Lib.hid hb2; have HR2 := Lib.hid hr2; have HQ2 := Lib.hid hq2; have HT2 := Lib.hid t2; clear hb2 hr2 hq2 t2))
        refine bodyPost_ret (results_cell2 2 3 rowRt HCn.out (HB2.out.whole) rfl rfl) rfl ?_
        rw [HP.out]
        refine ⟨T, by rw [HC.out, HG.out]; rfl, fun _ => ?_, ?_, HT2.out⟩
        · rw [HQQ.out]; exact ⟨HL.out.hT, HQ2.out⟩
        · rw [rdSesS, if_pos HG.out, HQQ.out]; exact HR2.out
      · have HG := Lib.hid (show rdSesG (bad, l) = false by
          rw [rdSesG, HQQ.out]; simp only
          cases ok <;> cases bd <;> first | rfl | exact absurd ⟨rfl, rfl⟩ hbk)
        obtain ⟨_, Ae, ce, hle, hme, hbe, _⟩ := HL.out.rd
        have y1 := hbe.cell 1
        simp at y1
        obtain ⟨ZC, hZC⟩ : ∃ C, C = RT.zero.cells := ⟨_, rfl⟩
        have HZn := Lib.hid (hZC ▸ RT.zero.cells_size)
        have HZ1 := Lib.hid (hZC ▸ RT.zero.cells_one)
        have HZb := Lib.hid (hZC ▸ builtRt)
        have HZ := Lib.hid hZC
        have hcase : (ok = false ∧ 0 < m) ∨ (ok = false ∧ m = 0) ∨ (ok = true ∧ m = 0 ∧ bd = true) := by
          cases ok <;> cases bd <;> simp at hbk hstop ⊢ <;> omega
        clear hbk hstop hbe hle hme hZC
        rcases hcase with ⟨rfl, hm0⟩ | ⟨rfl, rfl⟩ | ⟨rfl, rfl, rfl⟩
        · cases bd
          · generalize hC : T.cells = C at *
            clear hC
            have hmp : (0 : Int) < (m : Int) := by omega
            go_wp2_with (first
              | (go_at_call 42; go_must (refine (HFl.out _ (by exact HL.out.rd)).mono ?_); rintro e w3 ⟨rfl, h3, t3⟩; have HL3 := Lib.hid (HL.out.read h3 t3); clear h3 t3)
              | (refine buildZ HZb.out rfl rfl ?_)
              | ((with_reducible apply HL3.out.store HZn.out HZ1.out); exact rfl; exact rfl; exact rfl; exact rfl; intro w2 hb2 hr2 hq2 t2; have HB2 := Lib.hid hb2; have HR2 := Lib.hid hr2; have HT2 := Lib.hid t2; clear hb2 hr2 hq2 t2))
            refine bodyPost_ret (results_cell2 2 3 rowRt HZn.out (HB2.out.whole) rfl rfl) rfl ?_
            rw [HP.out]
            exact ⟨RT.zero, by rw [HZ.out, HG.out]; rfl, fun h => (by rw [HG.out] at h; cases h), by rw [rdSesS, if_neg (by rw [HG.out]; simp)]; exact HR2.out, HT2.out⟩
          · generalize hC : T.cells = C at *
            clear hC
            have hmp : (0 : Int) < (m : Int) := by omega
            go_wp2_with (first
              | (go_at_call 42; go_must (refine (HFl.out _ (by exact HL.out.rd)).mono ?_); rintro e w3 ⟨rfl, h3, t3⟩; have HL3 := Lib.hid (HL.out.read h3 t3); clear h3 t3)
              | (refine buildZ HZb.out rfl rfl ?_)
              | ((with_reducible apply HL3.out.store HZn.out HZ1.out); exact rfl; exact rfl; exact rfl; exact rfl; intro w2 hb2 hr2 hq2 t2; have HB2 := Lib.hid hb2; have HR2 := Lib.hid hr2; have HT2 := Lib.hid t2; clear hb2 hr2 hq2 t2))
            refine bodyPost_ret (results_cell2 2 3 rowRt HZn.out (HB2.out.whole) rfl rfl) rfl ?_
            rw [HP.out]
            exact ⟨RT.zero, by rw [HZ.out, HG.out]; rfl, fun h => (by rw [HG.out] at h; cases h), by rw [rdSesS, if_neg (by rw [HG.out]; simp)]; exact HR2.out, HT2.out⟩
        · cases bd
          · generalize hC : T.cells = C at *
            clear hC
            skip
            go_wp2_with (first
              | (go_at_call 42; go_must (refine (HFl.out _ (by exact HL.out.rd)).mono ?_); rintro e w3 ⟨rfl, h3, t3⟩; have HL3 := Lib.hid (HL.out.read h3 t3); clear h3 t3)
              | (refine buildZ HZb.out rfl rfl ?_)
              | ((with_reducible apply HL3.out.store HZn.out HZ1.out); exact rfl; exact rfl; exact rfl; exact rfl; intro w2 hb2 hr2 hq2 t2; have HB2 := Lib.hid hb2; have HR2 := Lib.hid hr2; have HT2 := Lib.hid t2; clear hb2 hr2 hq2 t2))
            refine bodyPost_ret (results_cell2 2 3 rowRt HZn.out (HB2.out.whole) rfl rfl) rfl ?_
            rw [HP.out]
            exact ⟨RT.zero, by rw [HZ.out, HG.out]; rfl, fun h => (by rw [HG.out] at h; cases h), by rw [rdSesS, if_neg (by rw [HG.out]; simp)]; exact HR2.out, HT2.out⟩
          · generalize hC : T.cells = C at *
            clear hC
            skip
            go_wp2_with (first
              | (go_at_call 42; go_must (refine (HFl.out _ (by exact HL.out.rd)).mono ?_); rintro e w3 ⟨rfl, h3, t3⟩; have HL3 := Lib.hid (HL.out.read h3 t3); clear h3 t3)
              | (refine buildZ HZb.out rfl rfl ?_)
              | ((with_reducible apply HL3.out.store HZn.out HZ1.out); exact rfl; exact rfl; exact rfl; exact rfl; intro w2 hb2 hr2 hq2 t2; have HB2 := Lib.hid hb2; have HR2 := Lib.hid hr2; have HT2 := Lib.hid t2; clear hb2 hr2 hq2 t2))
            refine bodyPost_ret (results_cell2 2 3 rowRt HZn.out (HB2.out.whole) rfl rfl) rfl ?_
            rw [HP.out]
            exact ⟨RT.zero, by rw [HZ.out, HG.out]; rfl, fun h => (by rw [HG.out] at h; cases h), by rw [rdSesS, if_neg (by rw [HG.out]; simp)]; exact HR2.out, HT2.out⟩
        · generalize hC : T.cells = C at *
          clear hC
          skip
          go_wp2_with (first
            | (go_at_call 42; go_must (refine (HFl.out _ (by exact HL.out.rd)).mono ?_); rintro e w3 ⟨rfl, h3, t3⟩; have HL3 := Lib.hid (HL.out.read h3 t3); clear h3 t3)
            | (refine buildZ HZb.out rfl rfl ?_)
            | ((with_reducible apply HL3.out.store HZn.out HZ1.out); exact rfl; exact rfl; exact rfl; exact rfl; intro w2 hb2 hr2 hq2 t2; have HB2 := Lib.hid hb2; have HR2 := Lib.hid hr2; have HT2 := Lib.hid t2; clear hb2 hr2 hq2 t2))
          refine bodyPost_ret (results_cell2 2 3 rowRt HZn.out (HB2.out.whole) rfl rfl) rfl ?_
          rw [HP.out]
          exact ⟨RT.zero, by rw [HZ.out, HG.out]; rfl, fun h => (by rw [HG.out] at h; cases h), by rw [rdSesS, if_neg (by rw [HG.out]; simp)]; exact HR2.out, HT2.out⟩
    · simp only [not_or] at hstop
      obtain ⟨hok, hm0⟩ := hstop
      obtain rfl : ok = true := by simpa using hok
      clear hok HQ
      have hmp : (0 : Int) < (m : Int) := by omega
      have hmw : IntKind.u64.wrap ((m : Int) - 1) = ((m - 1 : Nat) : Int) := by rw [show (m : Int) - 1 = ((m - 1 : Nat) : Int) by omega]; exact IntWalk.u64_in _ (by omega)
      obtain ⟨i, b2, l2, q1⟩ := rd3_pair 8 (bd, ll)
      obtain ⟨q, b3, l3, q2⟩ := rd3_pair 18446744073709551615 (b2, l2)
      obtain ⟨r, hr⟩ : ∃ r, r = rdRep (b3, l3) := ⟨_, rfl⟩
      have hrow : rowR (bd, ll) = ⟨i, q, (rpRes r).1, rpGood r, (rpRes r).2⟩ := by
        unfold rowR; rw [q1]; simp only; rw [q2]; simp only; rw [hr]
      have hi8 : i ≤ 8 := by have := rd3_le 8 (bd, ll); rw [q1] at this; exact this
      have hq : q < 18446744073709551616 := by have := rd3_le 18446744073709551615 (b2, l2); rw [q2] at this; simp only at this; omega
      have HK1 := Lib.hid (fun w1 (h1 : RfAt w1 gr Fr ll bd) => fnum_at q1 gr Fr w1 h1)
      have HK2 := Lib.hid (fun w1 (h1 : RfAt w1 gr Fr l2 b2) => fnum_at q2 gr Fr w1 h1)
      have HK3 := Lib.hid (fun w1 (h1 : RfAt w1 gr Fr l3 b3) (hg : gr < w1.heap.size) (hF : ∀ k, Fr k → k < w1.heap.size) => frep_at b3 l3 gr Fr w1 h1 hg hF)
      rw [← hr] at HK3
      unfold FRepP at HK3
      generalize hgd : rpGood r = gd at *
      obtain ⟨⟨Rv, b4, l4⟩, hRR⟩ : ∃ z, rpRes r = z := ⟨_, rfl⟩
      rw [hRR] at HK3 hrow
      simp only at HK3 hrow
      generalize hva : Rv.v = a at *
      have hpn' : x' = (if okR ⟨s, la, true, (bd, ll)⟩ ⟨i, q, Rv, gd, (b4, l4)⟩ = true then ⟨setS s i q a, i, true, (b4, l4)⟩ else ⟨s, la, false, (b4, l4)⟩ : RdS) := by
        rw [hpn, fRow]; simp only [if_true, stepR]; rw [hrow]; simp only; rw [hva]
      have HPn := Lib.hid hpn'
      clear hpn hrow hpn' hr hgd hRR hva q1 q2
      cases gd
      · have HX := Lib.hid (show fRows (j + 1) X = ⟨s, la, false, (b4, l4)⟩ by rw [HX'.out, HPn.out]; rfl)
        clear HPn HX'
        go_wp2_with
            (first
            | (go_at_call 40; have HM9 := HLa
               go_must (refine (HK2.out _ (by exact HLa.out.rd)).mono ?_)
               rintro e w4 ⟨rfl, h4, t4⟩
               have HLb := Lib.hid (HLa.out.read h4 t4)
               clear h4 t4)
            | (go_at_call 40
               go_must (refine (HK1.out _ (by exact HL.out.rd)).mono ?_)
               rintro e w3 ⟨rfl, h3, t3⟩
               have HLa := Lib.hid (HL.out.read h3 t3)
               clear h3 t3)
            | (go_at_call 41
               go_must (refine (HK3.out _ (by exact HLb.out.rd) (by have := HLb.out.t.size; omega) (by intro k hk; have := HLb.out.fr k hk; have := HLb.out.t.size; omega)).mono ?_)
               rintro e w5 ⟨A5, c5, rfl, hr5, h5, t5⟩
               have HLc := Lib.hid (HLb.out.read h5 t5)
               have hn5 := HLb.out.n
               have HRd := Lib.hid (hr5.mono (F' := fun k => w.heap.size + 2 ≤ k) (fun k hk => by omega))
               have HSz := Lib.hid (rpC_size a A5 c5)
               have HOn := Lib.hid (rpC_one a A5 c5)
               skip
               generalize rpC a A5 c5 = C5 at *
               have HBr := Lib.hid (Blk.new w5 35 C5)
               clear h5 t5 hr5)
            | (refine storeC rowRy _ _ rfl rfl _ _ C5 rfl rfl rfl rfl HSz.out HOn.out ?_
               have HLd := Lib.hid (HLc.out.far ((Touch.refl (fun _ => False) w5).alloc (.cells C5 35)))
               have HRd := Lib.hid (HRd.out.touch ((Touch.refl (fun _ => False) w5).alloc (.cells C5 35)) (fun _ _ e => e))
               generalize w5.alloc (.cells C5 35) = w6 at *
               skip)
            | ((with_reducible apply HBr.out.ld rowRy HSz.out); exact rfl; exact rfl; exact rfl))
        go_roundw
        case rel => exact ⟨j + 1, m - 1, by have := HJ.out; omega, rfl, by rw [HX.out], by rw [HX.out], T, by rw [HX.out]; exact HLd.out⟩
        case measure => simp [intOf]; omega
      by_cases hla : la < i
      case neg =>
        have HX := Lib.hid (show fRows (j + 1) X = ⟨s, la, false, (b4, l4)⟩ by rw [HX'.out, HPn.out]; simp [okR, hla])
        clear HPn HX'
        have hla1 : ¬ (la : Int) < (i : Int) := by omega
        clear hla
        go_wp2_with
            (first
            | (go_at_call 40; have HM9 := HLa
               go_must (refine (HK2.out _ (by exact HLa.out.rd)).mono ?_)
               rintro e w4 ⟨rfl, h4, t4⟩
               have HLb := Lib.hid (HLa.out.read h4 t4)
               clear h4 t4)
            | (go_at_call 40
               go_must (refine (HK1.out _ (by exact HL.out.rd)).mono ?_)
               rintro e w3 ⟨rfl, h3, t3⟩
               have HLa := Lib.hid (HL.out.read h3 t3)
               clear h3 t3)
            | (go_at_call 41
               go_must (refine (HK3.out _ (by exact HLb.out.rd) (by have := HLb.out.t.size; omega) (by intro k hk; have := HLb.out.fr k hk; have := HLb.out.t.size; omega)).mono ?_)
               rintro e w5 ⟨A5, c5, rfl, hr5, h5, t5⟩
               have HLc := Lib.hid (HLb.out.read h5 t5)
               have hn5 := HLb.out.n
               have HRd := Lib.hid (hr5.mono (F' := fun k => w.heap.size + 2 ≤ k) (fun k hk => by omega))
               have HSz := Lib.hid (rpC_size a A5 c5)
               have HOn := Lib.hid (rpC_one a A5 c5)
               skip
               generalize rpC a A5 c5 = C5 at *
               have HBr := Lib.hid (Blk.new w5 35 C5)
               clear h5 t5 hr5)
            | (refine storeC rowRy _ _ rfl rfl _ _ C5 rfl rfl rfl rfl HSz.out HOn.out ?_
               have HLd := Lib.hid (HLc.out.far ((Touch.refl (fun _ => False) w5).alloc (.cells C5 35)))
               have HRd := Lib.hid (HRd.out.touch ((Touch.refl (fun _ => False) w5).alloc (.cells C5 35)) (fun _ _ e => e))
               generalize w5.alloc (.cells C5 35) = w6 at *
               skip)
            | ((with_reducible apply HBr.out.ld rowRy HSz.out); exact rfl; exact rfl; exact rfl))
        go_roundw
        case rel => exact ⟨j + 1, m - 1, by have := HJ.out; omega, rfl, by rw [HX.out], by rw [HX.out], T, by rw [HX.out]; exact HLd.out⟩
        case measure => simp [intOf]; omega
      have hla1 : (la : Int) < (i : Int) := by omega
      by_cases hq0 : 0 < q
      case neg =>
        have HX := Lib.hid (show fRows (j + 1) X = ⟨s, la, false, (b4, l4)⟩ by rw [HX'.out, HPn.out]; simp [okR, hq0])
        have hq1 : ¬ (0 : Int) < (q : Int) := by omega
        clear HPn HX' hla hq0
        go_wp2_with
            (first
            | (go_at_call 40; have HM9 := HLa
               go_must (refine (HK2.out _ (by exact HLa.out.rd)).mono ?_)
               rintro e w4 ⟨rfl, h4, t4⟩
               have HLb := Lib.hid (HLa.out.read h4 t4)
               clear h4 t4)
            | (go_at_call 40
               go_must (refine (HK1.out _ (by exact HL.out.rd)).mono ?_)
               rintro e w3 ⟨rfl, h3, t3⟩
               have HLa := Lib.hid (HL.out.read h3 t3)
               clear h3 t3)
            | (go_at_call 41
               go_must (refine (HK3.out _ (by exact HLb.out.rd) (by have := HLb.out.t.size; omega) (by intro k hk; have := HLb.out.fr k hk; have := HLb.out.t.size; omega)).mono ?_)
               rintro e w5 ⟨A5, c5, rfl, hr5, h5, t5⟩
               have HLc := Lib.hid (HLb.out.read h5 t5)
               have hn5 := HLb.out.n
               have HRd := Lib.hid (hr5.mono (F' := fun k => w.heap.size + 2 ≤ k) (fun k hk => by omega))
               have HSz := Lib.hid (rpC_size a A5 c5)
               have HOn := Lib.hid (rpC_one a A5 c5)
               skip
               generalize rpC a A5 c5 = C5 at *
               have HBr := Lib.hid (Blk.new w5 35 C5)
               clear h5 t5 hr5)
            | (refine storeC rowRy _ _ rfl rfl _ _ C5 rfl rfl rfl rfl HSz.out HOn.out ?_
               have HLd := Lib.hid (HLc.out.far ((Touch.refl (fun _ => False) w5).alloc (.cells C5 35)))
               have HRd := Lib.hid (HRd.out.touch ((Touch.refl (fun _ => False) w5).alloc (.cells C5 35)) (fun _ _ e => e))
               generalize w5.alloc (.cells C5 35) = w6 at *
               skip)
            | ((with_reducible apply HBr.out.ld rowRy HSz.out); exact rfl; exact rfl; exact rfl))
        go_roundw
        case rel => exact ⟨j + 1, m - 1, by have := HJ.out; omega, rfl, by rw [HX.out]; simp; omega, by rw [HX.out], T, by rw [HX.out]; exact HLd.out⟩
        case measure => simp [intOf]; omega
      have HX := Lib.hid (show fRows (j + 1) X = ⟨setS s i q a, i, true, (b4, l4)⟩ by rw [HX'.out, HPn.out]; simp [okR, hla, hq0])
      have hq1 : (0 : Int) < (q : Int) := by omega
      have hi9 : i < 9 := by omega
      have hi9' : (i : Int) < 9 := by omega
      have HP1 := Lib.hid (T.put_q hi9 q)
      have HNq := Lib.hid (T.setq i q).cells_size
      have HCi := Lib.hid (T.at_q hi9)
      clear HPn HX' hla hq0
      go_wp2_with
          (first
          | (go_at_call 40; have HM9 := HLa
             go_must (refine (HK2.out _ (by exact HLa.out.rd)).mono ?_)
             rintro e w4 ⟨rfl, h4, t4⟩
             have HLb := Lib.hid (HLa.out.read h4 t4)
             clear h4 t4)
          | (go_at_call 40
             go_must (refine (HK1.out _ (by exact HL.out.rd)).mono ?_)
             rintro e w3 ⟨rfl, h3, t3⟩
             have HLa := Lib.hid (HL.out.read h3 t3)
             clear h3 t3)
          | (go_at_call 41
             go_must (refine (HK3.out _ (by exact HLb.out.rd) (by have := HLb.out.t.size; omega) (by intro k hk; have := HLb.out.fr k hk; have := HLb.out.t.size; omega)).mono ?_)
             rintro e w5 ⟨A5, c5, rfl, hr5, h5, t5⟩
             have HLc := Lib.hid (HLb.out.read h5 t5)
             have hn5 := HLb.out.n
             have HRd := Lib.hid (hr5.mono (F' := fun k => w.heap.size + 2 ≤ k) (fun k hk => by omega))
             have HSz := Lib.hid (rpC_size a A5 c5)
             have HOn := Lib.hid (rpC_one a A5 c5)
             have HP2 := Lib.hid ((T.setq i q).put_a hi9 a A5 c5)
             generalize hD : ((T.setq i q).seta i a A5 c5).cells = D at *
             have HD := Lib.hid hD
             clear hD
             generalize hE : (T.setq i q).cells = E at *
             generalize hTC : T.cells = TC at *
             generalize rpC a A5 c5 = C5 at *
             have HBr := Lib.hid (Blk.new w5 35 C5)
             clear h5 t5 hr5)
          | (refine storeC rowRy _ _ rfl rfl _ _ C5 rfl rfl rfl rfl HSz.out HOn.out ?_
             have HLd := Lib.hid (HLc.out.far ((Touch.refl (fun _ => False) w5).alloc (.cells C5 35)))
             have HRd := Lib.hid (HRd.out.touch ((Touch.refl (fun _ => False) w5).alloc (.cells C5 35)) (fun _ _ e => e))
             generalize w5.alloc (.cells C5 35) = w6 at *
             have c1 := HLd.out.tab.cell i
             rw [HCi.out] at c1
             have f1 := HLd.out.tab.frozen i
             have t7 := (Touch.refl (fun q => q = w.heap.size + 1) w6).set (o := i) (fun _ => rfl) (.int .u64 q)
             have HLe := Lib.hid (HLd.out.own t7 (HP1.out ▸ HLd.out.tab.set_ i (.int .u64 q)))
             have HRd7 := Lib.hid (HRd.out.touch t7 (fun k hk e => by omega))
             have hn6 := HLc.out.n
             have HBr7 := Lib.hid (t7.blk HBr.out (by omega))
             clear t7)
          | ((with_reducible apply HBr.out.ld rowRy HSz.out); exact rfl; exact rfl; exact rfl)
          | ((with_reducible apply HBr7.out.ld rowRy HSz.out); exact rfl; exact rfl; exact rfl)
          | ((with_reducible apply SfL.put (L := C5) HLe.out HNq.out i hi9 HSz.out HOn.out HP2.out); exact rfl; exact rfl; exact rfl; exact rfl
             intro w8 h8 t8
             have HLf := Lib.hid h8
             have HRf := Lib.hid (HRd7.out.touch t8 (fun k hk e => by omega))
             clear h8 t8))
      have HT2 := Lib.hid (HLf.out.hT.set i q a A5 c5)
      have HR2 := Lib.hid (HLf.out.hr.set i q a A5 c5 HRf.out)
      go_roundw
      case rel => exact ⟨j + 1, m - 1, by have := HJ.out; omega, rfl, by rw [HX.out], by rw [HX.out], (T.setq i q).seta i a A5 c5, by rw [HX.out, HD.out]; exact HLf.out.say HT2.out HR2.out⟩
      case measure => simp [intOf]; omega
end Go.Proofs.Ytmgmjehebbggaaa
