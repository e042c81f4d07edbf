/- contract.Load. (written by genld.py) -/
import Derived.Test.YtlcefchbfjfifaaGreatVShQ
import Derived.Test.YtlcefchbfjfifaaGreatVShP
import Derived.Test.YtlcefchbfjfifaaGreatVCcG
namespace Go.Proofs.YtlcefchbfjfifaaGreat
open Go.RowKit Cal Go.Maps
set_option maxHeartbeats 4000000
set_option maxRecDepth 100000
set_option linter.unusedVariables false
attribute [local irreducible] wpPlan

theorem pnum_at {m : Nat} {bad b : Bool} {l l' : List UInt8} {v : Nat} (hq : rd3 m (bad, l) = (v, b, l')) (g : Nat) (F : Nat → Prop) (w : World) (h : RdAt w g F l bad) :
    Calls Tryz.prog 43 #[.pointer (some ⟨g, 0, none⟩), .int .u64 m] w fun e w' => e = .returned (.int .u64 v) ∧ RdAt w' g F l' b ∧ Touch (fun k => k = g) w w' := by
  refine (num_st g F bad m l w h).mono ?_
  rintro e w' ⟨v1, b1, l1, hv, hm, rfl, h1, t1⟩
  rw [hv] at hq
  simp only [Prod.mk.injEq] at hq
  obtain ⟨rfl, rfl, rfl⟩ := hq
  exact ⟨rfl, h1, t1⟩
theorem rises_any (p : Nat) (la n : Int) (w : World) (hb : Blk w p 3 #[.int .i64 la]) :
    Calls Tryz.prog 64 #[.int .i64 n, .pointer (some ⟨p, 0, none⟩)] w fun e w' => e = .returned (.bool (decide (la < n))) ∧ Blk w' p 3 #[.int .i64 n] ∧ Touch (fun k => k = p) w w' := by
  have q0 := hb.cell 0
  have f0 := hb.frozen 0
  have h1 := Lib.hid (show Blk (w.setCell ⟨p, 0, none⟩ (.int .i64 n)) p 3 #[.int .i64 n] from by simpa using hb.set_ 0 (.int .i64 n))
  have t1 := Lib.hid ((Touch.refl (fun k => k = p) w).set (b := p) (o := 0) (fun _ => rfl) (.int .i64 n))
  simp at q0
  clear hb
  go_enter Tryz.func64, Tryz.ntmps64
  go_wp2
  go_ret
  exact ⟨by simp, h1.out, t1.out⟩
/-- Between rows of Load: the reader g, the shelf gs with its maps b1, b2, the last number at p. -/
structure LdS (w wr : World) (g : Nat) (F : Nat → Prop) (gs b1 b2 p : Nat) (S : Shl) (x : Int → Nat) (R X : Nat → Prop) (st : Bool × List UInt8) (la : Int) : Prop where
  rd : RdAt wr g F st.2 st.1
  sh : ShAt wr gs b1 b2 S x R X (fun _ => False)
  la : Blk wr p 3 #[.int .i64 la]
  t : Touch (fun k => k = g) w wr
  gl : g < w.heap.size
  fl : ∀ k, F k → k < w.heap.size
  ge : w.heap.size ≤ gs ∧ w.heap.size ≤ b1 ∧ w.heap.size ≤ b2 ∧ w.heap.size ≤ p
  rx : ∀ q, R q ∨ X q → w.heap.size ≤ q ∧ q ≠ p
  np : p ≠ gs ∧ p ≠ b1 ∧ p ≠ b2
section
variable {w wr w' : World} {g : Nat} {F : Nat → Prop} {gs b1 b2 p : Nat} {S S' : Shl} {x : Int → Nat} {R X : Nat → Prop} {st : Bool × List UInt8} {la : Int}
theorem LdS.read (h : LdS w wr g F gs b1 b2 p S x R X st la) {b' : Bool} {l' : List UInt8} (hr : RdAt w' g F l' b') (t : Touch (fun k => k = g) wr w') : LdS w w' g F gs b1 b2 p S x R X (b', l') la := by
  obtain ⟨h1, h2, h3, h4, h5, h6, h7, h8, h9⟩ := h
  refine ⟨hr, h2.touch t (by omega) (by omega) (by omega) (fun q hq e => ?_), t.blk h3 (by omega), h4.trans t (fun _ _ e => e), h5, h6, h7, h8, h9⟩
  rcases hq with hq | hq | hq
  · have := h8 q (.inl hq); omega
  · have := h8 q (.inr hq); omega
  · exact hq
theorem LdS.far (h : LdS w wr g F gs b1 b2 p S x R X st la) (t : Touch (fun _ => False) wr w') : LdS w w' g F gs b1 b2 p S x R X st la := by
  obtain ⟨h1, h2, h3, h4, h5, h6, h7, h8, h9⟩ := h
  exact ⟨rdAt_touch h1 t (fun e => e) (fun _ _ e => e), h2.far t, t.blk h3 (fun e => e), h4.trans t (fun _ _ e => e.elim), h5, h6, h7, h8, h9⟩
theorem LdS.turn (h : LdS w wr g F gs b1 b2 p S x R X st la) {n : Int} (hb : Blk w' p 3 #[.int .i64 n]) (t : Touch (fun k => k = p) wr w') : LdS w w' g F gs b1 b2 p S x R X st n := by
  obtain ⟨h1, h2, h3, h4, h5, h6, h7, h8, h9⟩ := h
  refine ⟨rdAt_touch h1 t (by omega) (fun k hk e => by have := h6 k hk; omega), h2.touch t (by omega) (by omega) (by omega) (fun q hq e => ?_), hb, h4.trans t (fun q hq e => by omega), h5, h6, h7, h8, h9⟩
  rcases hq with hq | hq | hq
  · exact (h8 q (.inl hq)).2 e
  · exact (h8 q (.inr hq)).2 e
  · exact hq
theorem LdS.call (h : LdS w wr g F gs b1 b2 p S x R X st la) {v : Value} {e : Ending} {bb : Nat} (hbb : bb = b1 ∨ bb = b2) (hp : HsP v gs b1 b2 S' R X (fun _ => False) (fun q => q = bb) wr e w') : ∃ x' R' X', e = .returned v ∧ LdS w w' g F gs b1 b2 p S' x' R' X' st la := by
  obtain ⟨x', R', X', he, hs, hR, hX, t⟩ := hp
  obtain ⟨h1, h2, h3, h4, h5, h6, h7, h8, h9⟩ := h
  have hz := h4.size
  have hpl := h3.lt
  refine ⟨x', R', X', he, rdAt_touch h1 t (by omega) (fun k hk e => by have := h6 k hk; omega), hs, t.blk h3 (by omega), h4.trans t (fun q hq e => by omega), h5, h6, h7, fun q hq => ?_, h9⟩
  rcases hq with hq | hq
  · rcases hR q hq with e | e
    · exact h8 q (.inl e)
    · omega
  · rcases hX q hq with e | e
    · exact h8 q (.inr e)
    · omega
theorem LdS.fg (h : LdS w wr g F gs b1 b2 p S x R X st la) : g < wr.heap.size ∧ ∀ k, F k → k < wr.heap.size := ⟨Nat.lt_of_lt_of_le h.gl h.t.size, fun k hk => Nat.lt_of_lt_of_le (h.fl k hk) h.t.size⟩
end
def LdP (st : Bool × List UInt8) (w : World) (g : Nat) (F : Nat → Prop) (e : Ending) (w' : World) : Prop :=
  (rdShG st = false ∧ e = .returned (.tuple #[.pointer none, .bool false]) ∧ RdAt w' g F [] true ∧ Touch (fun k => k = g) w w') ∨
  (rdShG st = true ∧ ∃ gs b1 b2 x R X, e = .returned (.tuple #[.pointer (some ⟨gs, 0, none⟩), .bool true]) ∧ ShAt w' gs b1 b2 (rdShV st) x R X (fun _ => False) ∧ (w.heap.size ≤ gs ∧ w.heap.size ≤ b1 ∧ w.heap.size ≤ b2) ∧ (∀ q, R q ∨ X q → w.heap.size ≤ q) ∧ RdAt w' g F (rdShS st).2 (rdShS st).1 ∧ Touch (fun k => k = g) w w')
theorem rowP {α : Type} (K : Knd α) (b : Bool) (l : List UInt8) {i : Nat} {b1 : Bool} {l1 : List UInt8} (q : rd3 K.m (b, l) = (i, b1, l1)) : K.row (b, l) = ⟨i, (K.rd (b1, l1)).1, (K.rd (b1, l1)).2.1, (K.rd (b1, l1)).2.2⟩ := by
  unfold Knd.row; rw [q]
theorem layE_new {f : Int → Option Ca} {i : Nat} {c : Ca} (hi : i < 8) (hc : checkE c = 0) (hf : f (i : Int) = none) : layE ⟨f, fun _ => none⟩ i c = 0 ∧ (⟨f, fun _ => none⟩ : Shl).layS i c = ⟨setG f i c, fun _ => none⟩ := by
  have h : layE ⟨f, fun _ => none⟩ i c = 0 := by rw [layE, if_pos (by omega), if_pos hc]; simp [hf]
  exact ⟨h, by rw [Shl.layS, if_pos h]; rfl⟩
theorem sigE_new {fa : Int → Option Ca} {f : Int → Option Co} {i : Nat} {c : Co} (hi : i < 16) (hc : goodB c = true) (hs : (fa c.cal).isSome = true) (hf : f (i : Int) = none) : sigE ⟨fa, f⟩ i c = 0 ∧ (⟨fa, f⟩ : Shl).sigS i c = ⟨fa, setG f i c⟩ := by
  have h : sigE ⟨fa, f⟩ i c = 0 := by rw [sigE, if_pos ⟨by omega, hc⟩, if_pos hs]; simp [hf]
  exact ⟨h, by rw [Shl.sigS, if_pos h]; rfl⟩
theorem sigE_non {fa : Int → Option Ca} {f : Int → Option Co} {i : Nat} {c : Co} (hi : i < 16) (hc : goodB c = true) (hs : (fa c.cal).isSome = false) : sigE ⟨fa, f⟩ i c = 31 ∧ (⟨fa, f⟩ : Shl).sigS i c = ⟨fa, f⟩ := by
  have h : sigE ⟨fa, f⟩ i c = 31 := by rw [sigE, if_pos ⟨by omega, hc⟩, if_neg (by simp [hs])]
  exact ⟨h, by rw [Shl.sigS, h]; rfl⟩
theorem hload_any (g : Nat) (F : Nat → Prop) (bad : Bool) (l : List UInt8) (w : World) (h : RdAt w g F l bad) (hg : g < w.heap.size) (hF : ∀ k, F k → k < w.heap.size) :
    Calls Tryz.prog 33 #[.pointer (some ⟨g, 0, none⟩)] w (LdP (bad, l) w g F) := by
  obtain ⟨v1, b1, l1, hv1⟩ := rd3_pair 8 (bad, l)
  have hm1 : v1 ≤ 8 := by have := rd3_le 8 (bad, l); rw [hv1] at this; exact this
  have HXA := Lib.hid (show rdA (bad, l) = kCal.steps (fun _ => true) v1 (x0G (b1, l1)) by unfold rdA; rw [hv1])
  have HXi := Lib.hid (fun j => steps_in kCal_law (x0G_in kCal (fun _ => true) (b1, l1)) j)
  obtain ⟨X0, hX⟩ : ∃ X : RdG Ca, X = x0G (b1, l1) := ⟨_, rfl⟩
  rw [← hX] at HXA HXi
  have HX0 := Lib.hid (show X0.f = (fun _ => none) ∧ X0.last = -1 ∧ X0.ok = true ∧ X0.st = (b1, l1) by rw [hX]; exact ⟨rfl, rfl, rfl, rfl⟩)
  have HRd := Lib.hid h
  have HF := Lib.hid hF
  have HN1 := Lib.hid (fun w1 (h1 : RdAt w1 g F l bad) => pnum_at hv1 g F w1 h1)
  obtain ⟨P, hP⟩ : ∃ P, P = LdP (bad, l) w g F := ⟨_, rfl⟩
  rw [← hP]
  have HP := Lib.hid hP
  clear h hF hv1 hX hP
  go_enter Tryz.func33, Tryz.ntmps33
  go_wp2_with fail
  refine (hnew_any w).mono ?_
  rintro e w1 ⟨gs, c1, c2, rfl, hs, g1, g2, g3, t1⟩
  have hz1 := t1.size
  have hsl := hs.gl
  have hl1 := hs.m1.lt
  have hl2 := hs.m2.lt
  obtain ⟨W1, hW1⟩ : ∃ W1, W1 = w1.alloc (.cells #[.int .i64 (-1)] 3) := ⟨_, rfl⟩
  obtain ⟨p, hp⟩ : ∃ p, p = w1.heap.size := ⟨_, rfl⟩
  have t2 : Touch (fun _ => False) w W1 := hW1 ▸ t1.alloc _
  have HL0 := Lib.hid (show LdS w W1 g F gs c1 c2 p Shl.nil (fun _ => 0) (fun _ => False) (fun _ => False) (bad, l) (-1) from
    ⟨rdAt_touch HRd.out t2 (fun e => e) (fun _ _ e => e), hs.far (hW1 ▸ (Touch.refl _ w1).alloc _), hW1 ▸ hp ▸ Blk.new w1 _ _, t2.mono (fun _ _ e => e.elim), hg, HF.out, by omega, (fun q e => by rcases e with e | e <;> exact e.elim), by omega⟩)
  have HWe := Lib.hid hW1.symm
  have HPe := Lib.hid hp.symm
  have hpg : p ≠ g := by omega
  clear hs t1 t2 hW1 hp g1 g2 g3 hz1 hsl hl1 hl2
  go_wp2_with fail
  rw [HWe.out, HPe.out]
  refine (HN1.out _ (by exact HL0.out.rd)).mono ?_
  rintro e w2 ⟨rfl, h2, t2⟩
  have HL2 := Lib.hid (HL0.out.read h2 t2)
  clear h2 t2 HL0
  go_wp2_with fail
  go_loopw [7, 20] (fun ok i wr => ∃ (j : Nat) (xx : RdG Ca) (S : Shl) (x : Int → Nat) (R X : Nat → Prop) (st : Bool × List UInt8) (la : Int), j ≤ v1 ∧ xx = kCal.steps (fun _ => true) j X0 ∧ ok = .bool xx.ok ∧ i = .int .u64 j ∧ (xx.ok = true → S = ⟨xx.f, fun _ => none⟩ ∧ la = xx.last ∧ st = xx.st) ∧ LdS w wr g F gs c1 c2 p S x R X st la) (fun _ i _ => v1 - (intOf i).toNat)
  case atStart =>
    obtain ⟨e1, e2, e3, e4⟩ := HX0.out
    exact ⟨0, X0, _, _, _, _, _, _, by omega, rfl, by rw [e3], rfl, (fun _ => ⟨by rw [e1]; rfl, e2.symm, e4.symm⟩), HL2.out⟩
  case round =>
    obtain ⟨j, xx, S, x, R, X, st, la, hj, hx, rfl, rfl, hi, hL⟩ := hrel
    have HL := Lib.hid hL
    have HXe := Lib.hid hx
    have HI := Lib.hid hi
    clear hL HL2 hi hx
    have HZ1 := Lib.hid (show (#[.int .i64 0, .slice none 0 0, .slice none 0 0] : Array Value).size = 3 from rfl)
    by_cases hjk : j < v1
    · have hjk' : (j : Int) < (v1 : Int) := by omega
      cases hok : xx.ok
      · have HSt := Lib.hid (show (kCal.steps (fun _ => true) (j + 1) X0).ok = false by rw [steps_off (j := j) (by rw [← HXe.out]; exact hok) (j + 1) (by omega), ← HXe.out]; exact hok)
        have HC2 := Lib.hid (fun b2 l2 w1 (h1 : RdAt w1 g F l2 b2) (hF : ∀ k, F k → k < w1.heap.size) (hg : g < w1.heap.size) => cread_any g F b2 l2 w1 h1 hF hg)
        unfold CrPost at HC2
        clear hok
        go_wp2_with (first
          | (go_at_call 43; go_must (refine (num_st g F _ 7 _ _ (by exact HL.out.rd)).mono ?_); rintro e w2 ⟨i, b2, l2, -, hi8, rfl, h2, t2⟩
             have hwi : IntKind.i64.wrap (i : Int) = i := IntWalk.i64_in _ (by omega)
             have HL2 := Lib.hid (HL.out.read h2 t2)
             clear h2 t2)
          | (go_at_call 65; go_must (refine (HC2.out b2 l2 _ (by exact HL2.out.rd) (by exact HL2.out.fg.2) (by exact HL2.out.fg.1)).mono ?_); rintro e w3 ⟨A1, B1, k1, m1, rfl, hr3, h3, t3⟩
             have HL3 := Lib.hid (HL2.out.read h3 t3)
             have HR3 := Lib.hid hr3
             have HNb := Lib.hid (Blk.new w3 51 #[.int .i64 0, .slice none 0 0, .slice none 0 0])
             have HK3 := Lib.hid (show (#[.int .i64 (rdRes b2 l2).c.off, .slice A1 (rdRes b2 l2).c.wk.length k1, .slice B1 (rdRes b2 l2).c.cl.length m1] : Array Value).size = 3 from rfl)
             have HK1 := Lib.hid (show (#[.int .i64 (rdRes b2 l2).c.off, .slice A1 (rdRes b2 l2).c.wk.length k1, .slice B1 (rdRes b2 l2).c.cl.length m1] : Array Value).all (·.oneCell') = true from caA_one (rdRes b2 l2).c A1 B1 k1 m1)
             clear h3 t3 hr3)
          | ((with_reducible apply HNb.out.st rowCa HZ1.out HK3.out HK1.out); exact rfl; exact rfl; exact rfl; exact rfl; intro w4 hb4 t4
             have tA := ((Touch.refl (fun _ => False) w3).alloc (.cells #[.int .i64 0, .slice none 0 0, .slice none 0 0] 51)).trans t4 (S := fun _ => False) (fun q hq e => by omega)
             have HL4 := Lib.hid (HL3.out.far tA)
             have HB4 := Lib.hid hb4
             have HR4 := Lib.hid (CaR.touch HR3.out tA (fun _ _ e => e))
             clear hb4 t4 tA))
        go_roundw
        case rel => exact ⟨j + 1, _, _, _, _, _, _, _, by omega, rfl, by rw [HSt.out], by go_num, (fun e => by rw [HSt.out] at e; cases e), HL4.out⟩
        case measure => simp [intOf]; omega
      · obtain ⟨rfl, rfl, rfl⟩ := HI.out hok
        have hXi := HXi.out j
        rw [← HXe.out] at hXi
        clear HI
        obtain ⟨f, la, ok, ⟨b, ll⟩⟩ := xx
        simp only at hok HL
        subst hok
        obtain ⟨i, b2, l2, q1⟩ := rd3_pair 7 (b, ll)
        have hi8 : i < 8 := by have := rd3_le 7 (b, ll); rw [q1] at this; simp only at this; omega
        have hck : (rdRes b2 l2).ok = true → checkE (rdRes b2 l2).c = 0 := fun h => by have := (kCal_law.split (b2, l2) h).2.2.2; simpa [kCal] using this
        obtain ⟨q, hq⟩ : ∃ q, q = rdRes b2 l2 := ⟨_, rfl⟩
        rw [← hq] at hck
        have hrow : kCal.row (b, ll) = ⟨i, q.c, q.ok, (q.bad, q.left)⟩ := by rw [rowP kCal b ll q1, hq]; rfl
        have HSt := Lib.hid (show kCal.steps (fun _ => true) (j + 1) X0 = (if (q.ok && decide (la < (i : Int))) = true then ⟨setG f i q.c, i, true, (q.bad, q.left)⟩ else ⟨f, la, false, (q.bad, q.left)⟩) by
          rw [Knd.steps, ← HXe.out, Knd.step, if_pos rfl, hrow]
          simp only [okG, Bool.and_true])
        have HC1 := Lib.hid (fun w1 (h1 : RdAt w1 g F ll b) => pnum_at q1 g F w1 h1)
        have HC2 := Lib.hid (fun w1 (h1 : RdAt w1 g F l2 b2) (hF : ∀ k, F k → k < w1.heap.size) (hg : g < w1.heap.size) => hq ▸ cread_any g F b2 l2 w1 h1 hF hg)
        unfold CrPost at HC2
        have hwi : IntKind.i64.wrap (i : Int) = i := IntWalk.i64_in _ (by omega)
        have HIn := Lib.hid (show inN (i : Int) by unfold inN; omega)
        obtain ⟨c, qok, ql, qb⟩ := q
        simp only at HSt HC2 hck
        have HTop := Lib.hid hXi.top
        clear q1 hq hrow hXi
        cases qok
        · have HSt2 := Lib.hid (show (kCal.steps (fun _ => true) (j + 1) X0).ok = false by rw [HSt.out]; simp)
          clear HSt hck
          go_wp2_with (first
            | (go_at_call 43; go_must (refine (HC1.out _ (by exact HL.out.rd)).mono ?_); rintro e w2 ⟨rfl, h2, t2⟩
               have HL2 := Lib.hid (HL.out.read h2 t2)
               clear h2 t2)
            | (go_at_call 65; go_must (refine (HC2.out _ (by exact HL2.out.rd) (by exact HL2.out.fg.2) (by exact HL2.out.fg.1)).mono ?_); rintro e w3 ⟨A1, B1, k1, m1, rfl, hr3, h3, t3⟩
               have HL3 := Lib.hid (HL2.out.read h3 t3)
               have HR3 := Lib.hid hr3
               have HNb := Lib.hid (Blk.new w3 51 #[.int .i64 0, .slice none 0 0, .slice none 0 0])
               have HK3 := Lib.hid (show (#[.int .i64 c.off, .slice A1 c.wk.length k1, .slice B1 c.cl.length m1] : Array Value).size = 3 from rfl)
               have HK1 := Lib.hid (show (#[.int .i64 c.off, .slice A1 c.wk.length k1, .slice B1 c.cl.length m1] : Array Value).all (·.oneCell') = true from caA_one c A1 B1 k1 m1)
               clear h3 t3 hr3)
            | ((with_reducible apply HNb.out.st rowCa HZ1.out HK3.out HK1.out); exact rfl; exact rfl; exact rfl; exact rfl; intro w4 hb4 t4
               have tA := ((Touch.refl (fun _ => False) w3).alloc (.cells #[.int .i64 0, .slice none 0 0, .slice none 0 0] 51)).trans t4 (S := fun _ => False) (fun q hq e => by omega)
               have HL4 := Lib.hid (HL3.out.far tA)
               have HB4 := Lib.hid hb4
               have HR4 := Lib.hid (CaR.touch HR3.out tA (fun _ _ e => e))
               clear hb4 t4 tA))
          go_roundw
          case rel => exact ⟨j + 1, _, _, _, _, _, _, _, by omega, rfl, by rw [HSt2.out], by go_num, (fun e => by rw [HSt2.out] at e; cases e), HL4.out⟩
          case measure => simp [intOf]; omega
        · have hc0 := hck rfl
          have hlen := checkE_len hc0
          clear hck
          by_cases hl : la < (i : Int)
          · have HSt2 := Lib.hid (HSt.out.trans (by simp [hl]) : kCal.steps (fun _ => true) (j + 1) X0 = ⟨setG f i c, i, true, (qb, ql)⟩)
            have HE := Lib.hid (layE_new (f := f) hi8 hc0 (by
              cases hf : f (i : Int) with
              | none => rfl
              | some a => have := (HTop.out i a hf).2.1; simp only at this; omega))
            have hle : decide (la < (i : Int)) = true := by simp [hl]
            clear HSt hc0
            go_wp2_with (first
              | (go_at_call 43; go_must (refine (HC1.out _ (by exact HL.out.rd)).mono ?_); rintro e w2 ⟨rfl, h2, t2⟩
                 have HL2 := Lib.hid (HL.out.read h2 t2)
                 clear h2 t2)
              | (go_at_call 65; go_must (refine (HC2.out _ (by exact HL2.out.rd) (by exact HL2.out.fg.2) (by exact HL2.out.fg.1)).mono ?_); rintro e w3 ⟨A1, B1, k1, m1, rfl, hr3, h3, t3⟩
                 have HL3 := Lib.hid (HL2.out.read h3 t3)
                 have HR3 := Lib.hid hr3
                 have HNb := Lib.hid (Blk.new w3 51 #[.int .i64 0, .slice none 0 0, .slice none 0 0])
                 have HK3 := Lib.hid (show (#[.int .i64 c.off, .slice A1 c.wk.length k1, .slice B1 c.cl.length m1] : Array Value).size = 3 from rfl)
                 have HK1 := Lib.hid (show (#[.int .i64 c.off, .slice A1 c.wk.length k1, .slice B1 c.cl.length m1] : Array Value).all (·.oneCell') = true from caA_one c A1 B1 k1 m1)
                 clear h3 t3 hr3)
              | ((with_reducible apply HNb.out.st rowCa HZ1.out HK3.out HK1.out); exact rfl; exact rfl; exact rfl; exact rfl; intro w4 hb4 t4
                 have tA := ((Touch.refl (fun _ => False) w3).alloc (.cells #[.int .i64 0, .slice none 0 0, .slice none 0 0] 51)).trans t4 (S := fun _ => False) (fun q hq e => by omega)
                 have HL4 := Lib.hid (HL3.out.far tA)
                 have HB4 := Lib.hid hb4
                 have HR4 := Lib.hid (CaR.touch HR3.out tA (fun _ _ e => e))
                 clear hb4 t4 tA)
              | (go_at_call 64; go_must (refine (rises_any p la (i : Int) _ (by exact HL4.out.la)).mono ?_); rintro e w5 ⟨rfl, hb5, t5⟩
                 have hpl := HL3.out.la.lt
                 have HL5 := Lib.hid (HL4.out.turn hb5 t5)
                 have HB5 := Lib.hid (t5.blk HB4.out (by omega))
                 have hly := hlay_any HL5.out.sh (i : Int) HIn.out _ A1 B1 k1 m1 c (CaR.touch HR4.out t5 (fun q hq e => by have := HL2.out.la.lt; omega)) (by omega) (by omega)
                 rw [HE.out.1, HE.out.2] at hly
                 have HLy := Lib.hid hly
                 clear hly
                 clear hb5 t5)
              | ((with_reducible apply HB5.out.ld rowCa HK3.out); exact rfl; exact rfl; exact rfl)
              | (go_at_call 25; go_must (refine HLy.out.mono ?_); intro e w6 h6
                 obtain ⟨x6, R6, X6, rfl, hL6⟩ := HL5.out.call (.inl rfl) h6
                 have HL6 := Lib.hid hL6
                 clear h6 hL6))
            go_roundw
            case rel => exact ⟨j + 1, _, _, _, _, _, _, _, by omega, HSt2.out.symm, rfl, by go_num, (fun _ => ⟨rfl, rfl, rfl⟩), HL6.out⟩
            case measure => simp [intOf]; omega
          · have HSt2 := Lib.hid (show (kCal.steps (fun _ => true) (j + 1) X0).ok = false by rw [HSt.out]; simp [hl])
            have hle : decide (la < (i : Int)) = false := by simp; omega
            clear HSt hc0
            go_wp2_with (first
              | (go_at_call 43; go_must (refine (HC1.out _ (by exact HL.out.rd)).mono ?_); rintro e w2 ⟨rfl, h2, t2⟩
                 have HL2 := Lib.hid (HL.out.read h2 t2)
                 clear h2 t2)
              | (go_at_call 65; go_must (refine (HC2.out _ (by exact HL2.out.rd) (by exact HL2.out.fg.2) (by exact HL2.out.fg.1)).mono ?_); rintro e w3 ⟨A1, B1, k1, m1, rfl, hr3, h3, t3⟩
                 have HL3 := Lib.hid (HL2.out.read h3 t3)
                 have HR3 := Lib.hid hr3
                 have HNb := Lib.hid (Blk.new w3 51 #[.int .i64 0, .slice none 0 0, .slice none 0 0])
                 have HK3 := Lib.hid (show (#[.int .i64 c.off, .slice A1 c.wk.length k1, .slice B1 c.cl.length m1] : Array Value).size = 3 from rfl)
                 have HK1 := Lib.hid (show (#[.int .i64 c.off, .slice A1 c.wk.length k1, .slice B1 c.cl.length m1] : Array Value).all (·.oneCell') = true from caA_one c A1 B1 k1 m1)
                 clear h3 t3 hr3)
              | ((with_reducible apply HNb.out.st rowCa HZ1.out HK3.out HK1.out); exact rfl; exact rfl; exact rfl; exact rfl; intro w4 hb4 t4
                 have tA := ((Touch.refl (fun _ => False) w3).alloc (.cells #[.int .i64 0, .slice none 0 0, .slice none 0 0] 51)).trans t4 (S := fun _ => False) (fun q hq e => by omega)
                 have HL4 := Lib.hid (HL3.out.far tA)
                 have HB4 := Lib.hid hb4
                 have HR4 := Lib.hid (CaR.touch HR3.out tA (fun _ _ e => e))
                 clear hb4 t4 tA)
              | (go_at_call 64; go_must (refine (rises_any p la (i : Int) _ (by exact HL4.out.la)).mono ?_); rintro e w5 ⟨rfl, hb5, t5⟩
                 have hpl := HL3.out.la.lt
                 have HL5 := Lib.hid (HL4.out.turn hb5 t5)
                 have HB5 := Lib.hid (t5.blk HB4.out (by omega))
                 clear hb5 t5))
            go_roundw
            case rel => exact ⟨j + 1, _, _, _, _, _, _, _, by omega, rfl, by rw [HSt2.out], by go_num, (fun e => by rw [HSt2.out] at e; cases e), HL5.out⟩
            case measure => simp [intOf]; omega
    · obtain rfl : j = v1 := by omega
      have hxa : rdA (bad, l) = xx := by rw [HXA.out, HXe.out]
      have HZ2 := Lib.hid (show (#[.int .i64 0, .slice none 0 0, .int .i64 0, .int .i64 0] : Array Value).size = 4 from rfl)
      cases hok : xx.ok
      · have HG := Lib.hid (show rdShG (bad, l) = false by rw [rdShG, hxa, hok]; rfl)
        have HC2 := Lib.hid (fun b2 l2 w1 (h1 : RdAt w1 g F l2 b2) (hF : ∀ k, F k → k < w1.heap.size) (hg : g < w1.heap.size) => kread_any g F b2 l2 w1 h1 hF hg)
        unfold KpPost at HC2
        clear hok HI hxa HXe HXA HXi HX0 HN1
        have q0 := HL.out.la.cell 0
        have f0 := HL.out.la.frozen 0
        simp at q0
        obtain ⟨W9, hW9⟩ : ∃ W9, W9 = wr.setCell ⟨p, 0, none⟩ (.int .i64 (-1)) := ⟨_, rfl⟩
        have HL9 := Lib.hid (show LdS w W9 g F gs c1 c2 p _ x R X _ (-1) from hW9 ▸ HL.out.turn (n := -1) (by simpa using HL.out.la.set_ 0 (.int .i64 (-1))) ((Touch.refl (fun k => k = p) wr).set (b := p) (o := 0) (fun _ => rfl) (.int .i64 (-1))))
        have HW9 := Lib.hid hW9.symm
        clear hW9
        go_wp2_with fail
        rw [HW9.out]
        clear q0 f0

        refine (num_st g F _ 16 _ _ (by exact HL9.out.rd)).mono ?_
        rintro e w7 ⟨v7, b7, l7, -, hm7, rfl, h7, t7⟩
        have HL7 := Lib.hid (HL9.out.read h7 t7)
        clear h7 t7 HL9 HW9 HL
        go_wp2_with fail
        go_loopw [7, 49] (fun ok i wr => ∃ (j : Nat) (S : Shl) (x : Int → Nat) (R X : Nat → Prop) (st : Bool × List UInt8) (la : Int), j ≤ v7 ∧ ok = .bool false ∧ i = .int .u64 j ∧ LdS w wr g F gs c1 c2 p S x R X st la) (fun _ i _ => v7 - (intOf i).toNat)
        case atStart => exact ⟨0, _, _, _, _, _, _, by omega, rfl, rfl, HL7.out⟩
        case round =>
          obtain ⟨j, S, x, R, X, st, la, hj, rfl, rfl, hL⟩ := hrel
          have HL := Lib.hid hL
          clear hL HL7
          by_cases hjk : j < v7
          · have hjk' : (j : Int) < (v7 : Int) := by omega
            go_wp2_with (first
              | (go_at_call 43; go_must (refine (num_st g F _ 15 _ _ (by exact HL.out.rd)).mono ?_); rintro e w2 ⟨i, b2, l2, -, hi8, rfl, h2, t2⟩
                 have hwi : IntKind.i64.wrap (i : Int) = i := IntWalk.i64_in _ (by omega)
                 have HL2 := Lib.hid (HL.out.read h2 t2)
                 clear h2 t2)
              | (go_at_call 15; go_must (refine (HC2.out b2 l2 _ (by exact HL2.out.rd) (by exact HL2.out.fg.2) (by exact HL2.out.fg.1)).mono ?_); rintro e w3 ⟨A1, k1, rfl, hr3, h3, t3⟩
                 have HL3 := Lib.hid (HL2.out.read h3 t3)
                 have HR3 := Lib.hid hr3
                 have HNb := Lib.hid (Blk.new w3 24 #[.int .i64 0, .slice none 0 0, .int .i64 0, .int .i64 0])
                 have HK3 := Lib.hid (show (#[.int .i64 (conRes (rdCon (b2, l2))).1.cal, .slice A1 (conRes (rdCon (b2, l2))).1.lv.length k1, .int .i64 (conRes (rdCon (b2, l2))).1.rt, .int .i64 (conRes (rdCon (b2, l2))).1.bk] : Array Value).size = 4 from rfl)
                 have HK1 := Lib.hid (show (#[.int .i64 (conRes (rdCon (b2, l2))).1.cal, .slice A1 (conRes (rdCon (b2, l2))).1.lv.length k1, .int .i64 (conRes (rdCon (b2, l2))).1.rt, .int .i64 (conRes (rdCon (b2, l2))).1.bk] : Array Value).all (·.oneCell') = true from conA_one (conRes (rdCon (b2, l2))).1 A1 k1)
                 clear h3 t3 hr3)
              | ((with_reducible apply HNb.out.st rowCo HZ2.out HK3.out HK1.out); exact rfl; exact rfl; exact rfl; exact rfl; intro w4 hb4 t4
                 have tA := ((Touch.refl (fun _ => False) w3).alloc (.cells #[.int .i64 0, .slice none 0 0, .int .i64 0, .int .i64 0] 24)).trans t4 (S := fun _ => False) (fun q hq e => by omega)
                 have HL4 := Lib.hid (HL3.out.far tA)
                 have HB4 := Lib.hid hb4
                 have HR4 := Lib.hid (HR3.out.touch tA (fun _ _ e => e))
                 clear hb4 t4 tA))
            go_roundw
            case rel => exact ⟨j + 1, _, _, _, _, _, _, by omega, rfl, by go_num, HL4.out⟩
            case measure => simp [intOf]; omega
          · obtain rfl : j = v7 := by omega
            go_wp2_with (first
              | (go_at_call 21; go_must (refine (bad_st g F _ _ _ (by exact HL.out.rd)).mono ?_); rintro e w8 ⟨rfl, rfl⟩)
              | (go_at_call 44; go_must (refine (fail_st g F _ _ _ (by exact HL.out.rd)).mono ?_); rintro e w8 ⟨rfl, h8, t8⟩
                 have HL8 := Lib.hid (HL.out.read h8 t8)
                 clear h8 t8))
            show P (.returned (.tuple #[.pointer none, .bool false])) w8
            rw [HP.out]
            exact .inl ⟨HG.out, rfl, HL8.out.rd, HL8.out.t⟩

      · obtain ⟨rfl, rfl, rfl⟩ := HI.out hok
        obtain ⟨fa, laa, oka, ⟨bx, lx⟩⟩ := xx
        simp only at hok HL
        subst hok
        obtain ⟨v2, b3, l3, hv2⟩ := rd3_pair 16 (bx, lx)
        have hm2 : v2 ≤ 16 := by have := rd3_le 16 (bx, lx); rw [hv2] at this; exact this
        have HN2 := Lib.hid (fun w1 (h1 : RdAt w1 g F lx bx) => pnum_at hv2 g F w1 h1)
        have HXA2 := Lib.hid hxa
        have HXB := Lib.hid (show rdB (bad, l) = kCon.steps (hasC fa) v2 (x0G (b3, l3)) by unfold rdB; rw [hxa]; simp only; rw [hv2])
        have HXi2 := Lib.hid (fun j => steps_in kCon_law (x0G_in kCon (hasC fa) (b3, l3)) j)
        obtain ⟨X2, hX2⟩ : ∃ X : RdG Co, X = x0G (b3, l3) := ⟨_, rfl⟩
        rw [← hX2] at HXB HXi2
        have HX20 := Lib.hid (show X2.f = (fun _ => none) ∧ X2.last = -1 ∧ X2.ok = true ∧ X2.st = (b3, l3) by rw [hX2]; exact ⟨rfl, rfl, rfl, rfl⟩)
        clear hxa hX2 hv2 HI HXe HXA HXi HX0 HN1
        have q0 := HL.out.la.cell 0
        have f0 := HL.out.la.frozen 0
        simp at q0
        obtain ⟨W9, hW9⟩ : ∃ W9, W9 = wr.setCell ⟨p, 0, none⟩ (.int .i64 (-1)) := ⟨_, rfl⟩
        have HL9 := Lib.hid (show LdS w W9 g F gs c1 c2 p _ x R X _ (-1) from hW9 ▸ HL.out.turn (n := -1) (by simpa using HL.out.la.set_ 0 (.int .i64 (-1))) ((Touch.refl (fun k => k = p) wr).set (b := p) (o := 0) (fun _ => rfl) (.int .i64 (-1))))
        have HW9 := Lib.hid hW9.symm
        clear hW9
        go_wp2_with fail
        rw [HW9.out]
        clear q0 f0

        refine (HN2.out _ (by exact HL9.out.rd)).mono ?_
        rintro e w7 ⟨rfl, h7, t7⟩
        have HL7 := Lib.hid (HL9.out.read h7 t7)
        clear h7 t7 HL9 HW9 HL HN2
        go_wp2_with fail
        go_loopw [7, 49] (fun ok i wr => ∃ (j : Nat) (y : RdG Co) (S : Shl) (x : Int → Nat) (R X : Nat → Prop) (st : Bool × List UInt8) (la : Int), j ≤ v2 ∧ y = kCon.steps (hasC fa) j X2 ∧ ok = .bool y.ok ∧ i = .int .u64 j ∧ (y.ok = true → S = ⟨fa, y.f⟩ ∧ la = y.last ∧ st = y.st) ∧ LdS w wr g F gs c1 c2 p S x R X st la) (fun _ i _ => v2 - (intOf i).toNat)
        case atStart =>
          obtain ⟨e1, e2, e3, e4⟩ := HX20.out
          exact ⟨0, X2, _, _, _, _, _, _, by omega, rfl, by rw [e3], rfl, (fun _ => ⟨by rw [e1], e2.symm, e4.symm⟩), HL7.out⟩
        case round =>
          obtain ⟨j, y, S, x, R, X, st, la, hj, hy, rfl, rfl, hi, hL⟩ := hrel
          have HL := Lib.hid hL
          have HYe := Lib.hid hy
          have HI := Lib.hid hi
          clear hL HL7 hi hy
          by_cases hjk : j < v2
          · have hjk' : (j : Int) < (v2 : Int) := by omega
            cases hok : y.ok
            · have HSt := Lib.hid (show (kCon.steps (hasC fa) (j + 1) X2).ok = false by rw [steps_off (j := j) (by rw [← HYe.out]; exact hok) (j + 1) (by omega), ← HYe.out]; exact hok)
              have HC2 := Lib.hid (fun b2 l2 w1 (h1 : RdAt w1 g F l2 b2) (hF : ∀ k, F k → k < w1.heap.size) (hg : g < w1.heap.size) => kread_any g F b2 l2 w1 h1 hF hg)
              unfold KpPost at HC2
              clear hok
              go_wp2_with (first
                | (go_at_call 43; go_must (refine (num_st g F _ 15 _ _ (by exact HL.out.rd)).mono ?_); rintro e w2 ⟨i, b2, l2, -, hi8, rfl, h2, t2⟩
                   have hwi : IntKind.i64.wrap (i : Int) = i := IntWalk.i64_in _ (by omega)
                   have HL2 := Lib.hid (HL.out.read h2 t2)
                   clear h2 t2)
                | (go_at_call 15; go_must (refine (HC2.out b2 l2 _ (by exact HL2.out.rd) (by exact HL2.out.fg.2) (by exact HL2.out.fg.1)).mono ?_); rintro e w3 ⟨A1, k1, rfl, hr3, h3, t3⟩
                   have HL3 := Lib.hid (HL2.out.read h3 t3)
                   have HR3 := Lib.hid hr3
                   have HNb := Lib.hid (Blk.new w3 24 #[.int .i64 0, .slice none 0 0, .int .i64 0, .int .i64 0])
                   have HK3 := Lib.hid (show (#[.int .i64 (conRes (rdCon (b2, l2))).1.cal, .slice A1 (conRes (rdCon (b2, l2))).1.lv.length k1, .int .i64 (conRes (rdCon (b2, l2))).1.rt, .int .i64 (conRes (rdCon (b2, l2))).1.bk] : Array Value).size = 4 from rfl)
                   have HK1 := Lib.hid (show (#[.int .i64 (conRes (rdCon (b2, l2))).1.cal, .slice A1 (conRes (rdCon (b2, l2))).1.lv.length k1, .int .i64 (conRes (rdCon (b2, l2))).1.rt, .int .i64 (conRes (rdCon (b2, l2))).1.bk] : Array Value).all (·.oneCell') = true from conA_one (conRes (rdCon (b2, l2))).1 A1 k1)
                   clear h3 t3 hr3)
                | ((with_reducible apply HNb.out.st rowCo HZ2.out HK3.out HK1.out); exact rfl; exact rfl; exact rfl; exact rfl; intro w4 hb4 t4
                   have tA := ((Touch.refl (fun _ => False) w3).alloc (.cells #[.int .i64 0, .slice none 0 0, .int .i64 0, .int .i64 0] 24)).trans t4 (S := fun _ => False) (fun q hq e => by omega)
                   have HL4 := Lib.hid (HL3.out.far tA)
                   have HB4 := Lib.hid hb4
                   have HR4 := Lib.hid (HR3.out.touch tA (fun _ _ e => e))
                   clear hb4 t4 tA))
              go_roundw
              case rel => exact ⟨j + 1, _, _, _, _, _, _, _, by omega, rfl, by rw [HSt.out], by go_num, (fun e => by rw [HSt.out] at e; cases e), HL4.out⟩
              case measure => simp [intOf]; omega
            · obtain ⟨rfl, rfl, rfl⟩ := HI.out hok
              have hXi := HXi2.out j
              rw [← HYe.out] at hXi
              clear HI
              obtain ⟨f, la, ok, ⟨b, ll⟩⟩ := y
              simp only at hok HL
              subst hok
              obtain ⟨i, b2, l2, q1⟩ := rd3_pair 15 (b, ll)
              have hi8 : i < 16 := by have := rd3_le 15 (b, ll); rw [q1] at this; simp only at this; omega
              obtain ⟨rr, hrr⟩ : ∃ rr, rr = rdCon (b2, l2) := ⟨_, rfl⟩
              have hrow : kCon.row (b, ll) = ⟨i, (conRes rr).1, conGood rr, (conRes rr).2⟩ := by rw [rowP kCon b ll q1, hrr]; rfl
              have hgd : conGood rr = true → goodB (conRes rr).1 = true := fun h => by
                rw [conRes, if_pos h]; simp only [conGood, Bool.and_eq_true] at h; exact h.2
              have HC1 := Lib.hid (fun w1 (h1 : RdAt w1 g F ll b) => pnum_at q1 g F w1 h1)
              have HC2 := Lib.hid (fun w1 (h1 : RdAt w1 g F l2 b2) (hF : ∀ k, F k → k < w1.heap.size) (hg : g < w1.heap.size) => hrr ▸ kread_any g F b2 l2 w1 h1 hF hg)
              unfold KpPost at HC2
              generalize conGood rr = gd at *
              obtain ⟨⟨⟨cal, lv, rt, bk⟩, qb, ql⟩, hRR⟩ : ∃ z, conRes rr = z := ⟨_, rfl⟩
              rw [hRR] at HC2 hgd hrow
              simp only at HC2 hgd hrow
              have HSt := Lib.hid (show kCon.steps (hasC fa) (j + 1) X2 = (if (gd && decide (la < (i : Int)) && (fa cal).isSome) = true then ⟨setG f i ⟨cal, lv, rt, bk⟩, i, true, (qb, ql)⟩ else ⟨f, la, false, (qb, ql)⟩) by
                rw [Knd.steps, ← HYe.out, Knd.step, if_pos rfl, hrow]
                rfl)
              have hwi : IntKind.i64.wrap (i : Int) = i := IntWalk.i64_in _ (by omega)
              have HIn := Lib.hid (show inN (i : Int) by unfold inN; omega)
              have HTop := Lib.hid hXi.top
              clear q1 hrr hrow hXi hRR
              cases gd
              · have HSt2 := Lib.hid (show (kCon.steps (hasC fa) (j + 1) X2).ok = false by rw [HSt.out]; simp)
                clear HSt hgd
                go_wp2_with (first
                  | (go_at_call 43; go_must (refine (HC1.out _ (by exact HL.out.rd)).mono ?_); rintro e w2 ⟨rfl, h2, t2⟩
                     have HL2 := Lib.hid (HL.out.read h2 t2)
                     clear h2 t2)
                  | (go_at_call 15; go_must (refine (HC2.out _ (by exact HL2.out.rd) (by exact HL2.out.fg.2) (by exact HL2.out.fg.1)).mono ?_); rintro e w3 ⟨A1, k1, rfl, hr3, h3, t3⟩
                     have HL3 := Lib.hid (HL2.out.read h3 t3)
                     have HR3 := Lib.hid hr3
                     have HNb := Lib.hid (Blk.new w3 24 #[.int .i64 0, .slice none 0 0, .int .i64 0, .int .i64 0])
                     have HK3 := Lib.hid (show (#[.int .i64 cal, .slice A1 lv.length k1, .int .i64 rt, .int .i64 bk] : Array Value).size = 4 from rfl)
                     have HK1 := Lib.hid (show (#[.int .i64 cal, .slice A1 lv.length k1, .int .i64 rt, .int .i64 bk] : Array Value).all (·.oneCell') = true from conA_one ⟨cal, lv, rt, bk⟩ A1 k1)
                     clear h3 t3 hr3)
                  | ((with_reducible apply HNb.out.st rowCo HZ2.out HK3.out HK1.out); exact rfl; exact rfl; exact rfl; exact rfl; intro w4 hb4 t4
                     have tA := ((Touch.refl (fun _ => False) w3).alloc (.cells #[.int .i64 0, .slice none 0 0, .int .i64 0, .int .i64 0] 24)).trans t4 (S := fun _ => False) (fun q hq e => by omega)
                     have HL4 := Lib.hid (HL3.out.far tA)
                     have HB4 := Lib.hid hb4
                     have HR4 := Lib.hid (HR3.out.touch tA (fun _ _ e => e))
                     clear hb4 t4 tA))
                go_roundw
                case rel => exact ⟨j + 1, _, _, _, _, _, _, _, by omega, rfl, by rw [HSt2.out], by go_num, (fun e => by rw [HSt2.out] at e; cases e), HL4.out⟩
                case measure => simp [intOf]; omega
              · have hgb := hgd rfl
                clear hgd
                by_cases hl : la < (i : Int)
                · have hle : decide (la < (i : Int)) = true := by simp [hl]
                  cases hld : (fa cal).isSome
                  · have HE := Lib.hid (sigE_non (f := f) hi8 hgb hld)
                    have HSt2 := Lib.hid (show (kCon.steps (hasC fa) (j + 1) X2).ok = false by rw [HSt.out]; simp [hl, hld])
                    clear HSt hld hgb
                    go_wp2_with (first
                      | (go_at_call 43; go_must (refine (HC1.out _ (by exact HL.out.rd)).mono ?_); rintro e w2 ⟨rfl, h2, t2⟩
                         have HL2 := Lib.hid (HL.out.read h2 t2)
                         clear h2 t2)
                      | (go_at_call 15; go_must (refine (HC2.out _ (by exact HL2.out.rd) (by exact HL2.out.fg.2) (by exact HL2.out.fg.1)).mono ?_); rintro e w3 ⟨A1, k1, rfl, hr3, h3, t3⟩
                         have HL3 := Lib.hid (HL2.out.read h3 t3)
                         have HR3 := Lib.hid hr3
                         have HNb := Lib.hid (Blk.new w3 24 #[.int .i64 0, .slice none 0 0, .int .i64 0, .int .i64 0])
                         have HK3 := Lib.hid (show (#[.int .i64 cal, .slice A1 lv.length k1, .int .i64 rt, .int .i64 bk] : Array Value).size = 4 from rfl)
                         have HK1 := Lib.hid (show (#[.int .i64 cal, .slice A1 lv.length k1, .int .i64 rt, .int .i64 bk] : Array Value).all (·.oneCell') = true from conA_one ⟨cal, lv, rt, bk⟩ A1 k1)
                         clear h3 t3 hr3)
                      | ((with_reducible apply HNb.out.st rowCo HZ2.out HK3.out HK1.out); exact rfl; exact rfl; exact rfl; exact rfl; intro w4 hb4 t4
                         have tA := ((Touch.refl (fun _ => False) w3).alloc (.cells #[.int .i64 0, .slice none 0 0, .int .i64 0, .int .i64 0] 24)).trans t4 (S := fun _ => False) (fun q hq e => by omega)
                         have HL4 := Lib.hid (HL3.out.far tA)
                         have HB4 := Lib.hid hb4
                         have HR4 := Lib.hid (HR3.out.touch tA (fun _ _ e => e))
                         clear hb4 t4 tA)
                      | (go_at_call 64; go_must (refine (rises_any p la (i : Int) _ (by exact HL4.out.la)).mono ?_); rintro e w5 ⟨rfl, hb5, t5⟩
                         have hpl := HL3.out.la.lt
                         have HL5 := Lib.hid (HL4.out.turn hb5 t5)
                         have HB5 := Lib.hid (t5.blk HB4.out (by omega))
                         have hly := hsign_any HL5.out.sh (i : Int) HIn.out _ A1 k1 ⟨cal, lv, rt, bk⟩ (HR4.out.touch t5 (fun q hq e => by have := HL2.out.la.lt; omega))
                         rw [HE.out.1, HE.out.2] at hly
                         have HLy := Lib.hid hly
                         clear hly
                         clear hb5 t5)
                      | ((with_reducible apply HB5.out.ld rowCo HK3.out); exact rfl; exact rfl; exact rfl)
                      | (go_at_call 26; go_must (refine HLy.out.mono ?_); intro e w6 h6
                         obtain ⟨x6, R6, X6, rfl, hL6⟩ := HL5.out.call (.inr rfl) h6
                         have HL6 := Lib.hid hL6
                         clear h6 hL6))
                    go_roundw
                    case rel => exact ⟨j + 1, _, _, _, _, _, _, _, by omega, rfl, by rw [HSt2.out], by go_num, (fun e => by rw [HSt2.out] at e; cases e), HL6.out⟩
                    case measure => simp [intOf]; omega
                  · have HE := Lib.hid (sigE_new (f := f) hi8 hgb hld (by
                      cases hf : f (i : Int) with
                      | none => rfl
                      | some a => have := (HTop.out i a hf).2.1; simp only at this; omega))
                    have HSt2 := Lib.hid (HSt.out.trans (by simp [hl, hld]) : kCon.steps (hasC fa) (j + 1) X2 = ⟨setG f i ⟨cal, lv, rt, bk⟩, i, true, (qb, ql)⟩)
                    clear HSt hld hgb
                    go_wp2_with (first
                      | (go_at_call 43; go_must (refine (HC1.out _ (by exact HL.out.rd)).mono ?_); rintro e w2 ⟨rfl, h2, t2⟩
                         have HL2 := Lib.hid (HL.out.read h2 t2)
                         clear h2 t2)
                      | (go_at_call 15; go_must (refine (HC2.out _ (by exact HL2.out.rd) (by exact HL2.out.fg.2) (by exact HL2.out.fg.1)).mono ?_); rintro e w3 ⟨A1, k1, rfl, hr3, h3, t3⟩
                         have HL3 := Lib.hid (HL2.out.read h3 t3)
                         have HR3 := Lib.hid hr3
                         have HNb := Lib.hid (Blk.new w3 24 #[.int .i64 0, .slice none 0 0, .int .i64 0, .int .i64 0])
                         have HK3 := Lib.hid (show (#[.int .i64 cal, .slice A1 lv.length k1, .int .i64 rt, .int .i64 bk] : Array Value).size = 4 from rfl)
                         have HK1 := Lib.hid (show (#[.int .i64 cal, .slice A1 lv.length k1, .int .i64 rt, .int .i64 bk] : Array Value).all (·.oneCell') = true from conA_one ⟨cal, lv, rt, bk⟩ A1 k1)
                         clear h3 t3 hr3)
                      | ((with_reducible apply HNb.out.st rowCo HZ2.out HK3.out HK1.out); exact rfl; exact rfl; exact rfl; exact rfl; intro w4 hb4 t4
                         have tA := ((Touch.refl (fun _ => False) w3).alloc (.cells #[.int .i64 0, .slice none 0 0, .int .i64 0, .int .i64 0] 24)).trans t4 (S := fun _ => False) (fun q hq e => by omega)
                         have HL4 := Lib.hid (HL3.out.far tA)
                         have HB4 := Lib.hid hb4
                         have HR4 := Lib.hid (HR3.out.touch tA (fun _ _ e => e))
                         clear hb4 t4 tA)
                      | (go_at_call 64; go_must (refine (rises_any p la (i : Int) _ (by exact HL4.out.la)).mono ?_); rintro e w5 ⟨rfl, hb5, t5⟩
                         have hpl := HL3.out.la.lt
                         have HL5 := Lib.hid (HL4.out.turn hb5 t5)
                         have HB5 := Lib.hid (t5.blk HB4.out (by omega))
                         have hly := hsign_any HL5.out.sh (i : Int) HIn.out _ A1 k1 ⟨cal, lv, rt, bk⟩ (HR4.out.touch t5 (fun q hq e => by have := HL2.out.la.lt; omega))
                         rw [HE.out.1, HE.out.2] at hly
                         have HLy := Lib.hid hly
                         clear hly
                         clear hb5 t5)
                      | ((with_reducible apply HB5.out.ld rowCo HK3.out); exact rfl; exact rfl; exact rfl)
                      | (go_at_call 26; go_must (refine HLy.out.mono ?_); intro e w6 h6
                         obtain ⟨x6, R6, X6, rfl, hL6⟩ := HL5.out.call (.inr rfl) h6
                         have HL6 := Lib.hid hL6
                         clear h6 hL6))
                    go_roundw
                    case rel => exact ⟨j + 1, _, _, _, _, _, _, _, by omega, HSt2.out.symm, rfl, by go_num, (fun _ => ⟨rfl, rfl, rfl⟩), HL6.out⟩
                    case measure => simp [intOf]; omega
                · have HSt2 := Lib.hid (show (kCon.steps (hasC fa) (j + 1) X2).ok = false by rw [HSt.out]; simp [hl])
                  have hle : decide (la < (i : Int)) = false := by simp; omega
                  clear HSt hgb
                  go_wp2_with (first
                    | (go_at_call 43; go_must (refine (HC1.out _ (by exact HL.out.rd)).mono ?_); rintro e w2 ⟨rfl, h2, t2⟩
                       have HL2 := Lib.hid (HL.out.read h2 t2)
                       clear h2 t2)
                    | (go_at_call 15; go_must (refine (HC2.out _ (by exact HL2.out.rd) (by exact HL2.out.fg.2) (by exact HL2.out.fg.1)).mono ?_); rintro e w3 ⟨A1, k1, rfl, hr3, h3, t3⟩
                       have HL3 := Lib.hid (HL2.out.read h3 t3)
                       have HR3 := Lib.hid hr3
                       have HNb := Lib.hid (Blk.new w3 24 #[.int .i64 0, .slice none 0 0, .int .i64 0, .int .i64 0])
                       have HK3 := Lib.hid (show (#[.int .i64 cal, .slice A1 lv.length k1, .int .i64 rt, .int .i64 bk] : Array Value).size = 4 from rfl)
                       have HK1 := Lib.hid (show (#[.int .i64 cal, .slice A1 lv.length k1, .int .i64 rt, .int .i64 bk] : Array Value).all (·.oneCell') = true from conA_one ⟨cal, lv, rt, bk⟩ A1 k1)
                       clear h3 t3 hr3)
                    | ((with_reducible apply HNb.out.st rowCo HZ2.out HK3.out HK1.out); exact rfl; exact rfl; exact rfl; exact rfl; intro w4 hb4 t4
                       have tA := ((Touch.refl (fun _ => False) w3).alloc (.cells #[.int .i64 0, .slice none 0 0, .int .i64 0, .int .i64 0] 24)).trans t4 (S := fun _ => False) (fun q hq e => by omega)
                       have HL4 := Lib.hid (HL3.out.far tA)
                       have HB4 := Lib.hid hb4
                       have HR4 := Lib.hid (HR3.out.touch tA (fun _ _ e => e))
                       clear hb4 t4 tA)
                    | (go_at_call 64; go_must (refine (rises_any p la (i : Int) _ (by exact HL4.out.la)).mono ?_); rintro e w5 ⟨rfl, hb5, t5⟩
                       have hpl := HL3.out.la.lt
                       have HL5 := Lib.hid (HL4.out.turn hb5 t5)
                       have HB5 := Lib.hid (t5.blk HB4.out (by omega))
                       clear hb5 t5))
                  go_roundw
                  case rel => exact ⟨j + 1, _, _, _, _, _, _, _, by omega, rfl, by rw [HSt2.out], by go_num, (fun e => by rw [HSt2.out] at e; cases e), HL5.out⟩
                  case measure => simp [intOf]; omega
          · obtain rfl : j = v2 := by omega
            have hyb : rdB (bad, l) = y := by rw [HXB.out, HYe.out]
            cases hok : y.ok
            · have HG := Lib.hid (show rdShG (bad, l) = false by rw [rdShG, HXA2.out, hyb, hok]; simp)
              clear hok HI hyb HYe HXB HX20 HXi2
              go_wp2_with (first
                | (go_at_call 21; go_must (refine (bad_st g F _ _ _ (by exact HL.out.rd)).mono ?_); rintro e w8 ⟨rfl, rfl⟩)
                | (go_at_call 44; go_must (refine (fail_st g F _ _ _ (by exact HL.out.rd)).mono ?_); rintro e w8 ⟨rfl, h8, t8⟩
                   have HL8 := Lib.hid (HL.out.read h8 t8)
                   clear h8 t8))
              show P (.returned (.tuple #[.pointer none, .bool false])) w8
              rw [HP.out]
              exact .inl ⟨HG.out, rfl, HL8.out.rd, HL8.out.t⟩

            · obtain ⟨rfl, rfl, rfl⟩ := HI.out hok
              obtain ⟨fb, lab, okb, ⟨by_, ly⟩⟩ := y
              simp only at hok HL
              subst hok
              clear HI HYe HXB HX20 HXi2
              cases by_
              · have HG := Lib.hid (show rdShG (bad, l) = true by rw [rdShG, HXA2.out, hyb]; rfl)
                have HV := Lib.hid (show rdShV (bad, l) = ⟨fa, fb⟩ by rw [rdShV, HXA2.out, hyb])
                have HSs := Lib.hid (show rdShS (bad, l) = (false, ly) by rw [rdShS, if_pos HG.out, hyb])
                clear hyb
                go_wp2_with (go_at_call 21; go_must (refine (bad_st g F _ _ _ (by exact HL.out.rd)).mono ?_); rintro e w8 ⟨rfl, rfl⟩)
                show P (.returned (.tuple #[.pointer (some ⟨gs, 0, none⟩), .bool true])) _
                rw [HP.out]
                have hge := HL.out.ge
                exact .inr ⟨HG.out, gs, c1, c2, x, R, X, rfl, HV.out.symm ▸ HL.out.sh, by omega, (fun q hq => (HL.out.rx q hq).1), by rw [HSs.out]; exact HL.out.rd, HL.out.t⟩
              · have HG := Lib.hid (show rdShG (bad, l) = false by rw [rdShG, HXA2.out, hyb]; rfl)
                clear hyb
                go_wp2_with (first
                  | (go_at_call 21; go_must (refine (bad_st g F _ _ _ (by exact HL.out.rd)).mono ?_); rintro e w8 ⟨rfl, rfl⟩)
                  | (go_at_call 44; go_must (refine (fail_st g F _ _ _ (by exact HL.out.rd)).mono ?_); rintro e w8 ⟨rfl, h8, t8⟩
                     have HL8 := Lib.hid (HL.out.read h8 t8)
                     clear h8 t8))
                show P (.returned (.tuple #[.pointer none, .bool false])) w8
                rw [HP.out]
                exact .inl ⟨HG.out, rfl, HL8.out.rd, HL8.out.t⟩

end Go.Proofs.YtlcefchbfjfifaaGreat
