/- The reference's shelf: Load. (written by genfl.py) -/
import Derived.Test.YtlcefchbfjfifaaGreatVShV
namespace Go.Proofs.YtlcefchbfjfifaaGreat
open Go.RowKit Cal Go.Maps
set_option maxHeartbeats 4000000
set_option maxRecDepth 100000
set_option linter.unusedVariables false
attribute [local irreducible] wpPlan

theorem fnum_at {m : Nat} {bad b : Bool} {l l' : List UInt8} {v : Nat} (hq : rd3 m (bad, l) = (v, b, l')) (g : Nat) (F : Nat → Prop) (w : World) (h : RfAt w g F l bad) :
    Calls Tryz.prog 47 #[.pointer (some ⟨g, 0, none⟩), .int .u64 m] w fun e w' => e = .returned (.int .u64 v) ∧ RfAt w' g F l' b ∧ Touch (fun k => k = g) w w' := by
  refine (fnum_st g F bad m l w h).mono ?_
  rintro e w' ⟨v1, b1, l1, hv, hm, rfl, h1, t1⟩
  rw [hv] at hq
  simp only [Prod.mk.injEq] at hq
  obtain ⟨rfl, rfl, rfl⟩ := hq
  exact ⟨rfl, h1, t1⟩
/-- Between rows of the reference's Load: result's block, its own shelf, the reader. -/
structure FlL (w wr : World) (g : Nat) (F : Nat → Prop) (S : Shl) (C : Array Value) (st : Bool × List UInt8) : Prop where
  rd : RfAt wr g F st.2 st.1
  tab : Blk wr (w.heap.size + 1) 62 C
  rs : RfS wr (fun k => w.heap.size + 2 ≤ k) S C
  zz : ∃ Z, Z.size = 112 ∧ Blk wr w.heap.size 62 Z
  t : Touch (fun k => k = g) w wr
  g : g < w.heap.size
  f : ∀ k, F k → k < w.heap.size
section
variable {w wr w' : World} {g : Nat} {F : Nat → Prop} {S : Shl} {C : Array Value} {st : Bool × List UInt8}
theorem FlL.read (h : FlL w wr g F S C st) {b' : Bool} {l' : List UInt8} (hr : RfAt w' g F l' b') (t : Touch (fun k => k = g) wr w') : FlL w w' g F S C (b', l') := by
  obtain ⟨h1, h2, h3, ⟨Z, hZ, h4⟩, h5, h6, h7⟩ := h
  exact ⟨hr, t.blk h2 (by omega), h3.touch t (fun q hq e => by omega), ⟨Z, hZ, t.blk h4 (by omega)⟩, h5.trans t (fun _ _ e => e), h6, h7⟩
theorem FlL.far (h : FlL w wr g F S C st) (t : Touch (fun _ => False) wr w') : FlL w w' g F S C st := by
  obtain ⟨h1, h2, h3, ⟨Z, hZ, h4⟩, h5, h6, h7⟩ := h
  exact ⟨rfAt_touch h1 t (fun e => e) (fun _ _ e => e), t.blk h2 (fun e => e), h3.far t, ⟨Z, hZ, t.blk h4 (fun e => e)⟩, h5.trans t (fun _ _ e => e.elim), h6, h7⟩
theorem FlL.fg (h : FlL w wr g F S C st) : g < wr.heap.size ∧ ∀ k, F k → k < wr.heap.size := ⟨Nat.lt_of_lt_of_le h.g h.t.size, fun k hk => Nat.lt_of_lt_of_le (h.f k hk) h.t.size⟩
theorem FlL.sz (h : FlL w wr g F S C st) : w.heap.size + 2 ≤ wr.heap.size := h.tab.lt
theorem FlL.put (h : FlL w wr g F S C st) {S' : Shl} {C' : Array Value} (t : Touch (fun k => k = w.heap.size + 1) wr w') (hb : Blk w' (w.heap.size + 1) 62 C') (hr : RfS w' (fun k => w.heap.size + 2 ≤ k) S' C') : FlL w w' g F S' C' st := by
  obtain ⟨h1, h2, h3, ⟨Z, hZ, h4⟩, h5, h6, h7⟩ := h
  exact ⟨rfAt_touch h1 t (by omega) (fun k hk e => by have := h7 k hk; omega), hb, hr, ⟨Z, hZ, t.blk h4 (by omega)⟩, h5.trans t (fun q hq e => by omega), h6, h7⟩
end
theorem builtSf : Tryz.prog.built 62 [] = some Tryz.zeroCells62 := by kernel_rfl
theorem zSf1 : Tryz.zeroCells62.all (·.oneCell') = true := by kernel_rfl
theorem RfS.zero (w : World) (F : Nat → Prop) : RfS w F Shl.nil Tryz.zeroCells62 := by
  have e : Tryz.zeroCells62 = (List.replicate 8 (Value.bool false) ++ (List.replicate 8 [Value.int .i64 0, .slice none 0 0, .slice none 0 0]).flatten ++ List.replicate 16 (Value.bool false) ++ (List.replicate 16 [Value.int .i64 0, .slice none 0 0, .int .i64 0, .int .i64 0]).flatten).toArray := by kernel_rfl
  have la : ∀ i j, i < 8 → j < 3 → Tryz.zeroCells62[8 + i * 3 + j]? = (caA caN none none 0 0)[j]? := by
    intro i j hi hj
    rw [e]
    have h1 : i = 0 ∨ i = 1 ∨ i = 2 ∨ i = 3 ∨ i = 4 ∨ i = 5 ∨ i = 6 ∨ i = 7 := by omega
    have h2 : j = 0 ∨ j = 1 ∨ j = 2 := by omega
    rcases h1 with rfl | rfl | rfl | rfl | rfl | rfl | rfl | rfl <;> rcases h2 with rfl | rfl | rfl <;> rfl
  have sa : ∀ i j, i < 16 → j < 4 → Tryz.zeroCells62[48 + i * 4 + j]? = (conA conZ none 0)[j]? := by
    intro i j hi hj
    rw [e]
    have h1 : i = 0 ∨ i = 1 ∨ i = 2 ∨ i = 3 ∨ i = 4 ∨ i = 5 ∨ i = 6 ∨ i = 7 ∨ i = 8 ∨ i = 9 ∨ i = 10 ∨ i = 11 ∨ i = 12 ∨ i = 13 ∨ i = 14 ∨ i = 15 := by omega
    have h2 : j = 0 ∨ j = 1 ∨ j = 2 ∨ j = 3 := by omega
    rcases h1 with rfl | rfl | rfl | rfl | rfl | rfl | rfl | rfl | rfl | rfl | rfl | rfl | rfl | rfl | rfl | rfl <;> rcases h2 with rfl | rfl | rfl | rfl <;> rfl
  refine ⟨zSf, zSf1, fun i hi => ?_, fun i hi => ⟨none, none, 0, 0, fun j hj => la i j hi hj, ⟨SpR.nil _ _ _, SpR.nil _ _ _⟩⟩, fun i hi => ?_, fun i hi => ⟨none, 0, fun j hj => sa i j hi hj, SpR.nil _ _ _⟩⟩
  · rw [e]
    have h1 : i = 0 ∨ i = 1 ∨ i = 2 ∨ i = 3 ∨ i = 4 ∨ i = 5 ∨ i = 6 ∨ i = 7 := by omega
    rcases h1 with rfl | rfl | rfl | rfl | rfl | rfl | rfl | rfl <;> rfl
  · rw [e]
    have h1 : i = 0 ∨ i = 1 ∨ i = 2 ∨ i = 3 ∨ i = 4 ∨ i = 5 ∨ i = 6 ∨ i = 7 ∨ i = 8 ∨ i = 9 ∨ i = 10 ∨ i = 11 ∨ i = 12 ∨ i = 13 ∨ i = 14 ∨ i = 15 := by omega
    rcases h1 with rfl | rfl | rfl | rfl | rfl | rfl | rfl | rfl | rfl | rfl | rfl | rfl | rfl | rfl | rfl | rfl <;> rfl
def FldP (st : Bool × List UInt8) (w : World) (g : Nat) (F : Nat → Prop) (e : Ending) (w' : World) : Prop :=
  ∃ C, e = .returned (.tuple #[.agg C, .bool (rdShG st)]) ∧ (rdShG st = true → RfS w' (fun k => w.heap.size + 2 ≤ k) (rdShV st) C) ∧ C.size = 112 ∧ C.all (·.oneCell') = true ∧ RfAt w' g F (rdShS st).2 (rdShS st).1 ∧ Touch (fun k => k = g) w w'
theorem rowA {α : Type} (K : Knd α) (b : Bool) (l : List UInt8) {i : Nat} {b1 : Bool} {l1 : List UInt8} (q : rd3 K.m (b, l) = (i, b1, l1)) : K.row (b, l) = ⟨i, (K.rd (b1, l1)).1, (K.rd (b1, l1)).2.1, (K.rd (b1, l1)).2.2⟩ := by
  unfold Knd.row; rw [q]
theorem FldP.no {st : Bool × List UInt8} {w w8 w9 : World} {g : Nat} {F : Nat → Prop} {S : Shl} {C : Array Value} {e : Ending} (h : rdShG st = false) (he : e = .returned (.tuple #[.agg Tryz.zeroCells62, .bool false])) (hl : FlL w w8 g F S C (true, [])) (t : Touch (fun k => k = w.heap.size) w8 w9) : FldP st w g F e w9 := by
  obtain ⟨h1, h2, h3, h4, h5, h6, h7⟩ := hl
  refine ⟨_, by rw [he, h], (fun e => by rw [h] at e; cases e), zSf, zSf1, ?_, h5.trans t (fun q hq e => by omega)⟩
  rw [rdShS, h]
  exact rfAt_touch h1 t (by omega) (fun k hk e => by have := h7 k hk; omega)
theorem FldP.yes {st : Bool × List UInt8} {w w8 w9 : World} {g : Nat} {F : Nat → Prop} {S : Shl} {C : Array Value} {e : Ending} {l' : List UInt8} (h : rdShG st = true) (he : e = .returned (.tuple #[.agg C, .bool true])) (hs : rdShV st = S) (hl : FlL w w8 g F S C (false, l')) (hst : rdShS st = (false, l')) (t : Touch (fun k => k = w.heap.size) w8 w9) : FldP st w g F e w9 := by
  obtain ⟨h1, h2, h3, h4, h5, h6, h7⟩ := hl
  have h8 := h3.touch t (fun q hq e => by omega)
  refine ⟨_, by rw [he, h], (fun _ => hs ▸ h8), h3.n, h3.one, ?_, h5.trans t (fun q hq e => by omega)⟩
  rw [hst]
  exact rfAt_touch h1 t (by omega) (fun k hk e => by have := h7 k hk; omega)
theorem fload_any (g : Nat) (F : Nat → Prop) (bad : Bool) (l : List UInt8) (w : World) (h : RfAt w g F l bad) (hg : g < w.heap.size) (hF : ∀ k, F k → k < w.heap.size) :
    Calls Tryz.prog 35 #[.pointer (some ⟨g, 0, none⟩)] w (FldP (bad, l) w g F) := by
  obtain ⟨v1, b1, l1, hv1⟩ := rd3_pair 8 (bad, l)
  have hm1 : v1 ≤ 8 := by have := rd3_le 8 (bad, l); rw [hv1] at this; exact this
  have HXA := Lib.hid (show rdA (bad, l) = kCal.steps (fun _ => true) v1 (x0G (b1, l1)) by unfold rdA; rw [hv1])
  obtain ⟨X, hX⟩ : ∃ X : RdG Ca, X = x0G (b1, l1) := ⟨_, rfl⟩
  rw [← hX] at HXA
  have HX0 := Lib.hid (show X.f = (fun _ => none) ∧ X.last = -1 ∧ X.ok = true ∧ X.st = (b1, l1) by rw [hX]; exact ⟨rfl, rfl, rfl, rfl⟩)
  obtain ⟨W, hW⟩ : ∃ W, W = (w.alloc (.cells Tryz.zeroCells62 62)).alloc (.cells Tryz.zeroCells62 62) := ⟨_, rfl⟩
  have t0 : Touch (fun _ => False) w W := hW ▸ ((Touch.refl _ w).alloc _).alloc _
  have HL0 := Lib.hid (show FlL w W g F Shl.nil Tryz.zeroCells62 (bad, l) from
    ⟨rfAt_touch h t0 (fun e => e) (fun _ _ e => e), by rw [hW]; simpa using Blk.new (w.alloc (.cells Tryz.zeroCells62 62)) 62 Tryz.zeroCells62, RfS.zero _ _, ⟨Tryz.zeroCells62, zSf, by rw [hW]; exact (Blk.new w _ _).alloc _⟩, t0.mono (fun _ _ e => e.elim), hg, hF⟩)
  have HWe := Lib.hid hW.symm
  have HN1 := Lib.hid (fun w1 (h1 : RfAt w1 g F l bad) => fnum_at hv1 g F w1 h1)
  obtain ⟨P, hP⟩ : ∃ P, P = FldP (bad, l) w g F := ⟨_, rfl⟩
  rw [← hP]
  have HP := Lib.hid hP
  clear h hF hv1 hX hP hW t0
  go_enter Tryz.func35, Tryz.ntmps35
  go_wp2_with fail
  rw [HWe.out]
  refine (HN1.out _ HL0.out.rd).mono ?_
  rintro e w1 ⟨rfl, h1, t1⟩
  have HL1 := Lib.hid (HL0.out.read h1 t1)
  clear h1 t1
  go_wp2_with fail
  go_loopw [5, 6, 7] (fun ok la n wr => ∃ (j m : Nat) (x : RdG Ca) (C : Array Value), j + m = v1 ∧ x = kCal.steps (fun _ => true) j X ∧ ok = .bool x.ok ∧ la = .int .i64 x.last ∧ n = .int .u64 m ∧ FlL w wr g F ⟨x.f, fun _ => none⟩ C x.st) (fun _ _ n _ => (intOf n).toNat)
  case atStart =>
    obtain ⟨e1, e2, e3, e4⟩ := HX0.out
    exact ⟨0, v1, X, _, by omega, rfl, by rw [e3], by rw [e2], rfl, by rw [e1, e4]; exact HL1.out⟩
  case round =>
    obtain ⟨j, m, x, C, hjm, hx, rfl, rfl, rfl, hL⟩ := hrel
    have HL := Lib.hid hL
    have HXe := Lib.hid hx
    clear hL HL1 HL0
    by_cases hgo : x.ok = true ∧ 0 < m
    · obtain ⟨hok, hm0⟩ := hgo
      obtain ⟨m, rfl⟩ : ∃ m', m = m' + 1 := ⟨m - 1, by omega⟩
      have hm9 : m ≤ 8 := by omega
      have HJ := Lib.hid hjm
      obtain ⟨f, la, ok, ⟨b, ll⟩⟩ := x
      simp only at hok HL
      subst hok
      obtain ⟨i, b2, l2, q1⟩ := rd3_pair 7 (b, ll)
      have hi8 : i < 8 := by have := rd3_le 7 (b, ll); rw [q1] at this; simp only at this; omega
      obtain ⟨q, hq⟩ : ∃ q, q = rdRes b2 l2 := ⟨_, rfl⟩
      have hrow : kCal.row (b, ll) = ⟨i, q.c, q.ok, (q.bad, q.left)⟩ := by rw [rowA kCal b ll q1, hq]; rfl
      have HSt := Lib.hid (show kCal.steps (fun _ => true) (j + 1) X = (if (q.ok && decide (la < (i : Int))) = true then ⟨setG f i q.c, i, true, (q.bad, q.left)⟩ else ⟨f, la, false, (q.bad, q.left)⟩) by
        rw [Knd.steps, ← HXe.out, Knd.step, if_pos rfl, hrow]
        simp only [okG, Bool.and_true])
      have HC1 := Lib.hid (fun w1 (h1 : RfAt w1 g F ll b) => fnum_at q1 g F w1 h1)
      have HC2 := Lib.hid (fun w1 (h1 : RfAt w1 g F l2 b2) (hF : ∀ k, F k → k < w1.heap.size) (hg : g < w1.heap.size) => hq ▸ fread10_any g F b2 l2 w1 h1 hF hg)
      unfold CaPost at HC2
      have hwi : IntKind.i64.wrap (i : Int) = i := IntWalk.i64_in _ (by omega)
      have hwm : IntKind.u64.wrap (m : Int) = m := IntWalk.u64_in _ (by omega)
      have hm1' : (0 : Int) < (m : Int) + 1 := by omega
      obtain ⟨c, qok, ql, qb⟩ := q
      simp only at HSt HC2
      clear hx q1 hq hrow hjm hm0
      have HZ1 := Lib.hid (show (#[.int .i64 0, .slice none 0 0, .slice none 0 0] : Array Value).size = 3 from rfl)
      cases qok
      · have HSt2 := Lib.hid (HSt.out.trans (by simp) : kCal.steps (fun _ => true) (j + 1) X = ⟨f, la, false, (qb, ql)⟩)
        clear HSt
        go_wp2_with (first
          | (go_at_call 47; go_must (refine (HC1.out _ (by exact HL.out.rd)).mono ?_); rintro e w2 ⟨rfl, h2, t2⟩
             have HL2 := Lib.hid (HL.out.read h2 t2)
             clear h2 t2)
          | (go_at_call 70; go_must (refine (HC2.out _ (by exact HL2.out.rd) (by exact HL2.out.fg.2) (by exact HL2.out.fg.1)).mono ?_); rintro e w3 ⟨A1, B1, k1, m1, rfl, hr3, h3, t3⟩
             have HL3 := Lib.hid (HL2.out.read h3 t3)
             have HR3 := Lib.hid (show CaR w3 (fun p => w.heap.size + 2 ≤ p) c A1 B1 from ⟨hr3.wk.mono (fun q hq => by have := HL2.out.sz; omega), hr3.cl.mono (fun q hq => by have := HL2.out.sz; omega)⟩)
             have HNb := Lib.hid (Blk.new w3 51 #[.int .i64 0, .slice none 0 0, .slice none 0 0])
             have HK3 := Lib.hid (show (#[.int .i64 c.off, .slice A1 c.wk.length k1, .slice B1 c.cl.length m1] : Array Value).size = 3 from rfl)
             have HK1 := Lib.hid (show (#[.int .i64 c.off, .slice A1 c.wk.length k1, .slice B1 c.cl.length m1] : Array Value).all (·.oneCell') = true from caA_one c A1 B1 k1 m1)
             clear h3 t3 hr3)
          | ((with_reducible apply HNb.out.st rowCa HZ1.out HK3.out HK1.out); exact rfl; exact rfl; exact rfl; exact rfl; intro w4 hb4 t4
             have hs3 := HL3.out.sz
             have tA := ((Touch.refl (fun _ => False) w3).alloc (.cells #[.int .i64 0, .slice none 0 0, .slice none 0 0] 51)).trans t4 (S := fun _ => False) (fun q hq e => by omega)
             have HL4 := Lib.hid (HL3.out.far tA)
             have HB4 := Lib.hid hb4
             have HR4 := Lib.hid (CaR.touch HR3.out tA (fun _ _ e => e))
             clear hb4 t4 tA))
        go_roundw
        case rel => exact ⟨j + 1, m, _, C, by have := HJ.out; omega, HSt2.out.symm, rfl, rfl, by go_num, HL4.out⟩
        case measure => simp [intOf]
      · by_cases hl : la < (i : Int)
        · have HSt2 := Lib.hid (HSt.out.trans (by simp [hl]) : kCal.steps (fun _ => true) (j + 1) X = ⟨setG f i c, i, true, (qb, ql)⟩)
          have hle : decide (la < (i : Int)) = true := by simp [hl]
          clear HSt
          go_wp2_with (first
            | (go_at_call 47; go_must (refine (HC1.out _ (by exact HL.out.rd)).mono ?_); rintro e w2 ⟨rfl, h2, t2⟩
               have HL2 := Lib.hid (HL.out.read h2 t2)
               clear h2 t2)
            | (go_at_call 70; go_must (refine (HC2.out _ (by exact HL2.out.rd) (by exact HL2.out.fg.2) (by exact HL2.out.fg.1)).mono ?_); rintro e w3 ⟨A1, B1, k1, m1, rfl, hr3, h3, t3⟩
               have HL3 := Lib.hid (HL2.out.read h3 t3)
               have HR3 := Lib.hid (show CaR w3 (fun p => w.heap.size + 2 ≤ p) c A1 B1 from ⟨hr3.wk.mono (fun q hq => by have := HL2.out.sz; omega), hr3.cl.mono (fun q hq => by have := HL2.out.sz; omega)⟩)
               have HNb := Lib.hid (Blk.new w3 51 #[.int .i64 0, .slice none 0 0, .slice none 0 0])
               have HK3 := Lib.hid (show (#[.int .i64 c.off, .slice A1 c.wk.length k1, .slice B1 c.cl.length m1] : Array Value).size = 3 from rfl)
               have HK1 := Lib.hid (show (#[.int .i64 c.off, .slice A1 c.wk.length k1, .slice B1 c.cl.length m1] : Array Value).all (·.oneCell') = true from caA_one c A1 B1 k1 m1)
               clear h3 t3 hr3)
            | ((with_reducible apply HNb.out.st rowCa HZ1.out HK3.out HK1.out); exact rfl; exact rfl; exact rfl; exact rfl; intro w4 hb4 t4
               have hs3 := HL3.out.sz
               have tA := ((Touch.refl (fun _ => False) w3).alloc (.cells #[.int .i64 0, .slice none 0 0, .slice none 0 0] 51)).trans t4 (S := fun _ => False) (fun q hq e => by omega)
               have HL4 := Lib.hid (HL3.out.far tA)
               have HB4 := Lib.hid hb4
               have HR4 := Lib.hid (CaR.touch HR3.out tA (fun _ _ e => e))
               have c1 := HL4.out.tab.cell i
               rw [HL4.out.rs.lb i hi8] at c1
               have f1 := HL4.out.tab.frozen i
               have HT45 := Lib.hid ((Touch.refl (fun k => k = w.heap.size + 1) w4).set (o := i) (fun _ => rfl) (.bool true))
               have HT5 := Lib.hid (HL4.out.tab.set_ i (.bool true))
               have HB5 := Lib.hid (HT45.out.blk HB4.out (by omega))
               have HS5 := Lib.hid (show 8 + i * 3 + 3 ≤ (C.setIfInBounds i (.bool true)).size by rw [Array.size_setIfInBounds, HL4.out.rs.n]; omega)
               clear hb4 t4 tA)
            | ((with_reducible apply HB5.out.ld rowCa HK3.out); exact rfl; exact rfl; exact rfl)
            | ((with_reducible apply storeP rowCa); exact rfl; exact rfl; exact rfl; exact rfl; exact HT5.out; exact HS5.out; exact HK3.out; exact HK1.out; intro w6 hb6 t6 _
               have HL6 := Lib.hid (HL4.out.put (HT45.out.trans t6 (fun _ _ e => e)) hb6 (((HL4.out.rs.touch (HT45.out.trans t6 (fun _ _ e => e)) (fun q hq e => by omega)).lay hi8 k1 m1 (CaR.touch HR4.out (HT45.out.trans t6 (fun _ _ e => e)) (fun q hq e => by omega)))))
               clear hb6 t6))
          go_roundw
          case rel => exact ⟨j + 1, m, _, _, by have := HJ.out; omega, HSt2.out.symm, rfl, rfl, by go_num, HL6.out⟩
          case measure => simp [intOf]
        · have HSt2 := Lib.hid (HSt.out.trans (by simp; omega) : kCal.steps (fun _ => true) (j + 1) X = ⟨f, la, false, (qb, ql)⟩)
          have hle : decide (la < (i : Int)) = false := by simp; omega
          clear HSt
          go_wp2_with (first
            | (go_at_call 47; go_must (refine (HC1.out _ (by exact HL.out.rd)).mono ?_); rintro e w2 ⟨rfl, h2, t2⟩
               have HL2 := Lib.hid (HL.out.read h2 t2)
               clear h2 t2)
            | (go_at_call 70; go_must (refine (HC2.out _ (by exact HL2.out.rd) (by exact HL2.out.fg.2) (by exact HL2.out.fg.1)).mono ?_); rintro e w3 ⟨A1, B1, k1, m1, rfl, hr3, h3, t3⟩
               have HL3 := Lib.hid (HL2.out.read h3 t3)
               have HR3 := Lib.hid (show CaR w3 (fun p => w.heap.size + 2 ≤ p) c A1 B1 from ⟨hr3.wk.mono (fun q hq => by have := HL2.out.sz; omega), hr3.cl.mono (fun q hq => by have := HL2.out.sz; omega)⟩)
               have HNb := Lib.hid (Blk.new w3 51 #[.int .i64 0, .slice none 0 0, .slice none 0 0])
               have HK3 := Lib.hid (show (#[.int .i64 c.off, .slice A1 c.wk.length k1, .slice B1 c.cl.length m1] : Array Value).size = 3 from rfl)
               have HK1 := Lib.hid (show (#[.int .i64 c.off, .slice A1 c.wk.length k1, .slice B1 c.cl.length m1] : Array Value).all (·.oneCell') = true from caA_one c A1 B1 k1 m1)
               clear h3 t3 hr3)
            | ((with_reducible apply HNb.out.st rowCa HZ1.out HK3.out HK1.out); exact rfl; exact rfl; exact rfl; exact rfl; intro w4 hb4 t4
               have hs3 := HL3.out.sz
               have tA := ((Touch.refl (fun _ => False) w3).alloc (.cells #[.int .i64 0, .slice none 0 0, .slice none 0 0] 51)).trans t4 (S := fun _ => False) (fun q hq e => by omega)
               have HL4 := Lib.hid (HL3.out.far tA)
               have HB4 := Lib.hid hb4
               have HR4 := Lib.hid (CaR.touch HR3.out tA (fun _ _ e => e))
               clear hb4 t4 tA))
          go_roundw
          case rel => exact ⟨j + 1, m, _, C, by have := HJ.out; omega, HSt2.out.symm, rfl, rfl, by go_num, HL4.out⟩
          case measure => simp [intOf]
    · have hxa : rdA (bad, l) = x := by
        rw [HXA.out]
        cases hb : x.ok
        · rw [HXe.out] at hb ⊢; exact steps_off hb v1 (by omega)
        · have : j = v1 := by
            rcases Nat.eq_zero_or_pos m with h0 | h0
            · omega
            · exact absurd ⟨hb, h0⟩ hgo
          rw [HXe.out, this]
      obtain ⟨fa, laa, oka, ⟨bx, lx⟩⟩ := x
      simp only at HL hgo
      obtain ⟨v2, b3, l3, hv2⟩ := rd3_pair 16 (bx, lx)
      have HXA2 := Lib.hid hxa
      have HN2 := Lib.hid (fun w1 (h1 : RfAt w1 g F lx bx) => fnum_at hv2 g F w1 h1)
      clear HX0 HXA HN1 HXe hx hjm
      cases oka
      · have HG := Lib.hid (show rdShG (bad, l) = false by rw [rdShG, hxa]; rfl)
        clear hgo hxa hv2
        rcases Nat.eq_zero_or_pos m with h0 | h0
        · subst h0
          go_wp2_with (go_at_call 47; go_must (refine (HN2.out _ (by exact HL.out.rd)).mono ?_); rintro e w7 ⟨rfl, h7, t7⟩; have HL7 := Lib.hid (HL.out.read h7 t7); clear h7 t7)
          go_loopw [5, 6, 11] (fun ok la n wr => ok = .bool false ∧ la = .int .i64 (-1) ∧ n = .int .u64 v2 ∧ w7 = wr) (fun _ _ n _ => (intOf n).toNat)
          case atStart => exact ⟨rfl, rfl, rfl, rfl⟩
          case round =>
            obtain ⟨rfl, rfl, rfl, rfl⟩ := hrel
            rcases Nat.eq_zero_or_pos v2 with h2 | h2
            · subst h2
              cases b3
              · 
                obtain ⟨Ar, cr, hbr⟩ := HL7.out.rd.blk
                have x1 := hbr.cell 1
                simp at x1
                clear hbr
                go_wp2_with (first
                  | (go_at_call 48; go_must (refine (rf_fail g F _ _ _ (by exact HL7.out.rd)).mono ?_); rintro e w8 ⟨rfl, h8, t8⟩
                     have HL8 := Lib.hid (HL7.out.read h8 t8)
                     obtain ⟨Z, hZ, hz8⟩ := HL8.out.zz
                     have HZn := Lib.hid hZ
                     have HZb := Lib.hid hz8
                     clear h8 t8 hZ hz8)
                  | (refine buildZ builtSf rfl rfl ?_)
                  | ((with_reducible apply HZb.out.st rowSf HZn.out zSf zSf1); exact rfl; exact rfl; exact rfl; exact rfl; intro w9 hb9 t9; have HB9 := Lib.hid hb9; have HT9 := Lib.hid t9; clear hb9 t9))
                exact bodyPost_ret (results_cell2 2 3 rowSf zSf (HB9.out.whole) rfl rfl) rfl (by rw [HP.out]; exact FldP.no HG.out rfl HL8.out HT9.out)
              · 
                obtain ⟨Ar, cr, hbr⟩ := HL7.out.rd.blk
                have x1 := hbr.cell 1
                simp at x1
                clear hbr
                go_wp2_with (first
                  | (go_at_call 48; go_must (refine (rf_fail g F _ _ _ (by exact HL7.out.rd)).mono ?_); rintro e w8 ⟨rfl, h8, t8⟩
                     have HL8 := Lib.hid (HL7.out.read h8 t8)
                     obtain ⟨Z, hZ, hz8⟩ := HL8.out.zz
                     have HZn := Lib.hid hZ
                     have HZb := Lib.hid hz8
                     clear h8 t8 hZ hz8)
                  | (refine buildZ builtSf rfl rfl ?_)
                  | ((with_reducible apply HZb.out.st rowSf HZn.out zSf zSf1); exact rfl; exact rfl; exact rfl; exact rfl; intro w9 hb9 t9; have HB9 := Lib.hid hb9; have HT9 := Lib.hid t9; clear hb9 t9))
                exact bodyPost_ret (results_cell2 2 3 rowSf zSf (HB9.out.whole) rfl rfl) rfl (by rw [HP.out]; exact FldP.no HG.out rfl HL8.out HT9.out)
            · have hn2 : (0 : Int) < (v2 : Int) := by omega
              cases b3
              · 
                obtain ⟨Ar, cr, hbr⟩ := HL7.out.rd.blk
                have x1 := hbr.cell 1
                simp at x1
                clear hbr
                go_wp2_with (first
                  | (go_at_call 48; go_must (refine (rf_fail g F _ _ _ (by exact HL7.out.rd)).mono ?_); rintro e w8 ⟨rfl, h8, t8⟩
                     have HL8 := Lib.hid (HL7.out.read h8 t8)
                     obtain ⟨Z, hZ, hz8⟩ := HL8.out.zz
                     have HZn := Lib.hid hZ
                     have HZb := Lib.hid hz8
                     clear h8 t8 hZ hz8)
                  | (refine buildZ builtSf rfl rfl ?_)
                  | ((with_reducible apply HZb.out.st rowSf HZn.out zSf zSf1); exact rfl; exact rfl; exact rfl; exact rfl; intro w9 hb9 t9; have HB9 := Lib.hid hb9; have HT9 := Lib.hid t9; clear hb9 t9))
                exact bodyPost_ret (results_cell2 2 3 rowSf zSf (HB9.out.whole) rfl rfl) rfl (by rw [HP.out]; exact FldP.no HG.out rfl HL8.out HT9.out)
              · 
                obtain ⟨Ar, cr, hbr⟩ := HL7.out.rd.blk
                have x1 := hbr.cell 1
                simp at x1
                clear hbr
                go_wp2_with (first
                  | (go_at_call 48; go_must (refine (rf_fail g F _ _ _ (by exact HL7.out.rd)).mono ?_); rintro e w8 ⟨rfl, h8, t8⟩
                     have HL8 := Lib.hid (HL7.out.read h8 t8)
                     obtain ⟨Z, hZ, hz8⟩ := HL8.out.zz
                     have HZn := Lib.hid hZ
                     have HZb := Lib.hid hz8
                     clear h8 t8 hZ hz8)
                  | (refine buildZ builtSf rfl rfl ?_)
                  | ((with_reducible apply HZb.out.st rowSf HZn.out zSf zSf1); exact rfl; exact rfl; exact rfl; exact rfl; intro w9 hb9 t9; have HB9 := Lib.hid hb9; have HT9 := Lib.hid t9; clear hb9 t9))
                exact bodyPost_ret (results_cell2 2 3 rowSf zSf (HB9.out.whole) rfl rfl) rfl (by rw [HP.out]; exact FldP.no HG.out rfl HL8.out HT9.out)
        · have hn0 : (0 : Int) < (m : Int) := by omega
          go_wp2_with (go_at_call 47; go_must (refine (HN2.out _ (by exact HL.out.rd)).mono ?_); rintro e w7 ⟨rfl, h7, t7⟩; have HL7 := Lib.hid (HL.out.read h7 t7); clear h7 t7)
          go_loopw [5, 6, 11] (fun ok la n wr => ok = .bool false ∧ la = .int .i64 (-1) ∧ n = .int .u64 v2 ∧ w7 = wr) (fun _ _ n _ => (intOf n).toNat)
          case atStart => exact ⟨rfl, rfl, rfl, rfl⟩
          case round =>
            obtain ⟨rfl, rfl, rfl, rfl⟩ := hrel
            rcases Nat.eq_zero_or_pos v2 with h2 | h2
            · subst h2
              cases b3
              · 
                obtain ⟨Ar, cr, hbr⟩ := HL7.out.rd.blk
                have x1 := hbr.cell 1
                simp at x1
                clear hbr
                go_wp2_with (first
                  | (go_at_call 48; go_must (refine (rf_fail g F _ _ _ (by exact HL7.out.rd)).mono ?_); rintro e w8 ⟨rfl, h8, t8⟩
                     have HL8 := Lib.hid (HL7.out.read h8 t8)
                     obtain ⟨Z, hZ, hz8⟩ := HL8.out.zz
                     have HZn := Lib.hid hZ
                     have HZb := Lib.hid hz8
                     clear h8 t8 hZ hz8)
                  | (refine buildZ builtSf rfl rfl ?_)
                  | ((with_reducible apply HZb.out.st rowSf HZn.out zSf zSf1); exact rfl; exact rfl; exact rfl; exact rfl; intro w9 hb9 t9; have HB9 := Lib.hid hb9; have HT9 := Lib.hid t9; clear hb9 t9))
                exact bodyPost_ret (results_cell2 2 3 rowSf zSf (HB9.out.whole) rfl rfl) rfl (by rw [HP.out]; exact FldP.no HG.out rfl HL8.out HT9.out)
              · 
                obtain ⟨Ar, cr, hbr⟩ := HL7.out.rd.blk
                have x1 := hbr.cell 1
                simp at x1
                clear hbr
                go_wp2_with (first
                  | (go_at_call 48; go_must (refine (rf_fail g F _ _ _ (by exact HL7.out.rd)).mono ?_); rintro e w8 ⟨rfl, h8, t8⟩
                     have HL8 := Lib.hid (HL7.out.read h8 t8)
                     obtain ⟨Z, hZ, hz8⟩ := HL8.out.zz
                     have HZn := Lib.hid hZ
                     have HZb := Lib.hid hz8
                     clear h8 t8 hZ hz8)
                  | (refine buildZ builtSf rfl rfl ?_)
                  | ((with_reducible apply HZb.out.st rowSf HZn.out zSf zSf1); exact rfl; exact rfl; exact rfl; exact rfl; intro w9 hb9 t9; have HB9 := Lib.hid hb9; have HT9 := Lib.hid t9; clear hb9 t9))
                exact bodyPost_ret (results_cell2 2 3 rowSf zSf (HB9.out.whole) rfl rfl) rfl (by rw [HP.out]; exact FldP.no HG.out rfl HL8.out HT9.out)
            · have hn2 : (0 : Int) < (v2 : Int) := by omega
              cases b3
              · 
                obtain ⟨Ar, cr, hbr⟩ := HL7.out.rd.blk
                have x1 := hbr.cell 1
                simp at x1
                clear hbr
                go_wp2_with (first
                  | (go_at_call 48; go_must (refine (rf_fail g F _ _ _ (by exact HL7.out.rd)).mono ?_); rintro e w8 ⟨rfl, h8, t8⟩
                     have HL8 := Lib.hid (HL7.out.read h8 t8)
                     obtain ⟨Z, hZ, hz8⟩ := HL8.out.zz
                     have HZn := Lib.hid hZ
                     have HZb := Lib.hid hz8
                     clear h8 t8 hZ hz8)
                  | (refine buildZ builtSf rfl rfl ?_)
                  | ((with_reducible apply HZb.out.st rowSf HZn.out zSf zSf1); exact rfl; exact rfl; exact rfl; exact rfl; intro w9 hb9 t9; have HB9 := Lib.hid hb9; have HT9 := Lib.hid t9; clear hb9 t9))
                exact bodyPost_ret (results_cell2 2 3 rowSf zSf (HB9.out.whole) rfl rfl) rfl (by rw [HP.out]; exact FldP.no HG.out rfl HL8.out HT9.out)
              · 
                obtain ⟨Ar, cr, hbr⟩ := HL7.out.rd.blk
                have x1 := hbr.cell 1
                simp at x1
                clear hbr
                go_wp2_with (first
                  | (go_at_call 48; go_must (refine (rf_fail g F _ _ _ (by exact HL7.out.rd)).mono ?_); rintro e w8 ⟨rfl, h8, t8⟩
                     have HL8 := Lib.hid (HL7.out.read h8 t8)
                     obtain ⟨Z, hZ, hz8⟩ := HL8.out.zz
                     have HZn := Lib.hid hZ
                     have HZb := Lib.hid hz8
                     clear h8 t8 hZ hz8)
                  | (refine buildZ builtSf rfl rfl ?_)
                  | ((with_reducible apply HZb.out.st rowSf HZn.out zSf zSf1); exact rfl; exact rfl; exact rfl; exact rfl; intro w9 hb9 t9; have HB9 := Lib.hid hb9; have HT9 := Lib.hid t9; clear hb9 t9))
                exact bodyPost_ret (results_cell2 2 3 rowSf zSf (HB9.out.whole) rfl rfl) rfl (by rw [HP.out]; exact FldP.no HG.out rfl HL8.out HT9.out)
      · have h0 : m = 0 := by
          rcases Nat.eq_zero_or_pos m with h0 | h0
          · exact h0
          · exact absurd ⟨rfl, h0⟩ hgo
        subst h0
        have hm2 : v2 ≤ 16 := by have := rd3_le 16 (bx, lx); rw [hv2] at this; exact this
        have HXB := Lib.hid (show rdB (bad, l) = kCon.steps (hasC fa) v2 (x0G (b3, l3)) by unfold rdB; rw [hxa]; simp only; rw [hv2])
        obtain ⟨X2, hX2⟩ : ∃ X : RdG Co, X = x0G (b3, l3) := ⟨_, rfl⟩
        rw [← hX2] at HXB
        have HX20 := Lib.hid (show X2.f = (fun _ => none) ∧ X2.last = -1 ∧ X2.ok = true ∧ X2.st = (b3, l3) by rw [hX2]; exact ⟨rfl, rfl, rfl, rfl⟩)
        clear hxa hX2 hv2 hgo
        go_wp2_with (go_at_call 47; go_must (refine (HN2.out _ (by exact HL.out.rd)).mono ?_); rintro e w7 ⟨rfl, h7, t7⟩; have HL7 := Lib.hid (HL.out.read h7 t7); clear h7 t7)
        go_loopw [5, 6, 11] (fun ok la n wr => ∃ (j m : Nat) (y : RdG Co) (C : Array Value), j + m = v2 ∧ y = kCon.steps (hasC fa) j X2 ∧ ok = .bool y.ok ∧ la = .int .i64 y.last ∧ n = .int .u64 m ∧ FlL w wr g F ⟨fa, y.f⟩ C y.st) (fun _ _ n _ => (intOf n).toNat)
        case atStart =>
          obtain ⟨e1, e2, e3, e4⟩ := HX20.out
          exact ⟨0, v2, X2, _, by omega, rfl, by rw [e3], by rw [e2], rfl, by rw [e1, e4]; exact HL7.out⟩
        case round =>
          obtain ⟨j, m, y, C, hjm, hy, rfl, rfl, rfl, hL⟩ := hrel
          have HL := Lib.hid hL
          have HYe := Lib.hid hy
          clear hL HL7
          by_cases hgo : y.ok = true ∧ 0 < m
          · obtain ⟨hok, hm0⟩ := hgo
            obtain ⟨m, rfl⟩ : ∃ m', m = m' + 1 := ⟨m - 1, by omega⟩
            have hm9 : m ≤ 16 := by omega
            have HJ := Lib.hid hjm
            obtain ⟨f, la, ok, ⟨b, ll⟩⟩ := y
            simp only at hok HL
            subst hok
            obtain ⟨i, b2, l2, q1⟩ := rd3_pair 15 (b, ll)
            have hi8 : i < 16 := by have := rd3_le 15 (b, ll); rw [q1] at this; simp only at this; omega
            obtain ⟨rr, hrr⟩ : ∃ rr, rr = rdCon (b2, l2) := ⟨_, rfl⟩
            have hrow : kCon.row (b, ll) = ⟨i, (conRes rr).1, conGood rr, (conRes rr).2⟩ := by rw [rowA kCon b ll q1, hrr]; rfl
            have hgd : conGood rr = true → goodB (conRes rr).1 = true := fun h => by
              rw [conRes, if_pos h]; simp only [conGood, Bool.and_eq_true] at h; exact h.2
            have HC1 := Lib.hid (fun w1 (h1 : RfAt w1 g F ll b) => fnum_at q1 g F w1 h1)
            have HC2 := Lib.hid (fun w1 (h1 : RfAt w1 g F l2 b2) (hF : ∀ k, F k → k < w1.heap.size) (hg : g < w1.heap.size) => hrr ▸ fkread_any g F b2 l2 w1 h1 hF hg)
            unfold FKpPost at HC2
            generalize conGood rr = gd at *
            obtain ⟨⟨⟨cal, lv, rt, bk⟩, qb, ql⟩, hRR⟩ : ∃ z, conRes rr = z := ⟨_, rfl⟩
            rw [hRR] at HC2 hgd hrow
            simp only at HC2 hgd hrow
            have HSt := Lib.hid (show kCon.steps (hasC fa) (j + 1) X2 = (if (gd && decide (la < (i : Int)) && (fa cal).isSome) = true then ⟨setG f i ⟨cal, lv, rt, bk⟩, i, true, (qb, ql)⟩ else ⟨f, la, false, (qb, ql)⟩) by
              rw [Knd.steps, ← HYe.out, Knd.step, if_pos rfl, hrow]
              rfl)
            have hwi : IntKind.i64.wrap (i : Int) = i := IntWalk.i64_in _ (by omega)
            have hwm : IntKind.u64.wrap (m : Int) = m := IntWalk.u64_in _ (by omega)
            have hm1' : (0 : Int) < (m : Int) + 1 := by omega
            clear hy q1 hrr hrow hjm hm0 hRR
            have HZ1 := Lib.hid (show (#[.int .i64 0, .slice none 0 0, .int .i64 0, .int .i64 0] : Array Value).size = 4 from rfl)
            cases gd
            · have HSt2 := Lib.hid (HSt.out.trans (by simp) : kCon.steps (hasC fa) (j + 1) X2 = ⟨f, la, false, (qb, ql)⟩)
              clear HSt hgd
              go_wp2_with (first
                | (go_at_call 47; go_must (refine (HC1.out _ (by exact HL.out.rd)).mono ?_); rintro e w2 ⟨rfl, h2, t2⟩
                   have HL2 := Lib.hid (HL.out.read h2 t2)
                   clear h2 t2)
                | (go_at_call 19; go_must (refine (HC2.out _ (by exact HL2.out.rd) (by exact HL2.out.fg.2) (by exact HL2.out.fg.1)).mono ?_); rintro e w3 ⟨A1, k1, rfl, hr3, h3, t3⟩
                   have HL3 := Lib.hid (HL2.out.read h3 t3)
                   have HR3 := Lib.hid (show SpR w3 (fun p => w.heap.size + 2 ≤ p) A1 lv.length lv from hr3.mono (fun q hq => by have := HL2.out.sz; omega))
                   have HNb := Lib.hid (Blk.new w3 24 #[.int .i64 0, .slice none 0 0, .int .i64 0, .int .i64 0])
                   have HK3 := Lib.hid (show (#[.int .i64 cal, .slice A1 lv.length k1, .int .i64 rt, .int .i64 bk] : Array Value).size = 4 from rfl)
                   have HK1 := Lib.hid (show (#[.int .i64 cal, .slice A1 lv.length k1, .int .i64 rt, .int .i64 bk] : Array Value).all (·.oneCell') = true from conA_one ⟨cal, lv, rt, bk⟩ A1 k1)
                   clear h3 t3 hr3)
                | ((with_reducible apply HNb.out.st rowCo HZ1.out HK3.out HK1.out); exact rfl; exact rfl; exact rfl; exact rfl; intro w4 hb4 t4
                   have hs3 := HL3.out.sz
                   have tA := ((Touch.refl (fun _ => False) w3).alloc (.cells #[.int .i64 0, .slice none 0 0, .int .i64 0, .int .i64 0] 24)).trans t4 (S := fun _ => False) (fun q hq e => by omega)
                   have HL4 := Lib.hid (HL3.out.far tA)
                   have HB4 := Lib.hid hb4
                   have HR4 := Lib.hid (HR3.out.touch tA (fun _ _ e => e))
                   clear hb4 t4 tA))
              go_roundw
              case rel => exact ⟨j + 1, m, _, C, by have := HJ.out; omega, HSt2.out.symm, rfl, rfl, by go_num, HL4.out⟩
              case measure => simp [intOf]
            · have hb := good_hd (hgd rfl)
              simp only at hb
              obtain ⟨z, rfl⟩ : ∃ z : Nat, cal = (z : Int) := ⟨cal.toNat, by omega⟩
              have hz8 : z < 8 := by omega
              clear hb hgd
              by_cases hl : la < (i : Int)
              · have hle : decide (la < (i : Int)) = true := by simp [hl]
                cases hld : (fa z).isSome
                · have HLd := Lib.hid hld
                  have HSt2 := Lib.hid (HSt.out.trans (by simp [hl, hld]) : kCon.steps (hasC fa) (j + 1) X2 = ⟨f, la, false, (qb, ql)⟩)
                  clear HSt hld
                  go_wp2_with (first
                    | (go_at_call 47; go_must (refine (HC1.out _ (by exact HL.out.rd)).mono ?_); rintro e w2 ⟨rfl, h2, t2⟩
                       have HL2 := Lib.hid (HL.out.read h2 t2)
                       clear h2 t2)
                    | (go_at_call 19; go_must (refine (HC2.out _ (by exact HL2.out.rd) (by exact HL2.out.fg.2) (by exact HL2.out.fg.1)).mono ?_); rintro e w3 ⟨A1, k1, rfl, hr3, h3, t3⟩
                       have HL3 := Lib.hid (HL2.out.read h3 t3)
                       have HR3 := Lib.hid (show SpR w3 (fun p => w.heap.size + 2 ≤ p) A1 lv.length lv from hr3.mono (fun q hq => by have := HL2.out.sz; omega))
                       have HNb := Lib.hid (Blk.new w3 24 #[.int .i64 0, .slice none 0 0, .int .i64 0, .int .i64 0])
                       have HK3 := Lib.hid (show (#[.int .i64 (z : Int), .slice A1 lv.length k1, .int .i64 rt, .int .i64 bk] : Array Value).size = 4 from rfl)
                       have HK1 := Lib.hid (show (#[.int .i64 (z : Int), .slice A1 lv.length k1, .int .i64 rt, .int .i64 bk] : Array Value).all (·.oneCell') = true from conA_one ⟨(z : Int), lv, rt, bk⟩ A1 k1)
                       clear h3 t3 hr3)
                    | ((with_reducible apply HNb.out.st rowCo HZ1.out HK3.out HK1.out); exact rfl; exact rfl; exact rfl; exact rfl; intro w4 hb4 t4
                       have hs3 := HL3.out.sz
                       have tA := ((Touch.refl (fun _ => False) w3).alloc (.cells #[.int .i64 0, .slice none 0 0, .int .i64 0, .int .i64 0] 24)).trans t4 (S := fun _ => False) (fun q hq e => by omega)
                       have HL4 := Lib.hid (HL3.out.far tA)
                       have HB4 := Lib.hid hb4
                       have HR4 := Lib.hid (HR3.out.touch tA (fun _ _ e => e))
                       have k0 := hb4.cell 0
                       simp at k0
                       have c0 := HL4.out.tab.cell z
                       rw [HL4.out.rs.lb z hz8] at c0
                       simp only at c0
                       rw [HLd.out] at c0
                       clear hb4 t4 tA))
                  go_roundw
                  case rel => exact ⟨j + 1, m, _, C, by have := HJ.out; omega, HSt2.out.symm, rfl, rfl, by go_num, HL4.out⟩
                  case measure => simp [intOf]
                · have HLd := Lib.hid hld
                  have HSt2 := Lib.hid (HSt.out.trans (by simp [hl, hld]) : kCon.steps (hasC fa) (j + 1) X2 = ⟨setG f i ⟨z, lv, rt, bk⟩, i, true, (qb, ql)⟩)
                  clear HSt hld
                  go_wp2_with (first
                    | (go_at_call 47; go_must (refine (HC1.out _ (by exact HL.out.rd)).mono ?_); rintro e w2 ⟨rfl, h2, t2⟩
                       have HL2 := Lib.hid (HL.out.read h2 t2)
                       clear h2 t2)
                    | (go_at_call 19; go_must (refine (HC2.out _ (by exact HL2.out.rd) (by exact HL2.out.fg.2) (by exact HL2.out.fg.1)).mono ?_); rintro e w3 ⟨A1, k1, rfl, hr3, h3, t3⟩
                       have HL3 := Lib.hid (HL2.out.read h3 t3)
                       have HR3 := Lib.hid (show SpR w3 (fun p => w.heap.size + 2 ≤ p) A1 lv.length lv from hr3.mono (fun q hq => by have := HL2.out.sz; omega))
                       have HNb := Lib.hid (Blk.new w3 24 #[.int .i64 0, .slice none 0 0, .int .i64 0, .int .i64 0])
                       have HK3 := Lib.hid (show (#[.int .i64 (z : Int), .slice A1 lv.length k1, .int .i64 rt, .int .i64 bk] : Array Value).size = 4 from rfl)
                       have HK1 := Lib.hid (show (#[.int .i64 (z : Int), .slice A1 lv.length k1, .int .i64 rt, .int .i64 bk] : Array Value).all (·.oneCell') = true from conA_one ⟨(z : Int), lv, rt, bk⟩ A1 k1)
                       clear h3 t3 hr3)
                    | ((with_reducible apply HNb.out.st rowCo HZ1.out HK3.out HK1.out); exact rfl; exact rfl; exact rfl; exact rfl; intro w4 hb4 t4
                       have hs3 := HL3.out.sz
                       have tA := ((Touch.refl (fun _ => False) w3).alloc (.cells #[.int .i64 0, .slice none 0 0, .int .i64 0, .int .i64 0] 24)).trans t4 (S := fun _ => False) (fun q hq e => by omega)
                       have HL4 := Lib.hid (HL3.out.far tA)
                       have HB4 := Lib.hid hb4
                       have HR4 := Lib.hid (HR3.out.touch tA (fun _ _ e => e))
                       have k0 := hb4.cell 0
                       simp at k0
                       have c0 := HL4.out.tab.cell z
                       rw [HL4.out.rs.lb z hz8] at c0
                       simp only at c0
                       rw [HLd.out] at c0
                       have c1 := HL4.out.tab.cell (32 + i)
                       rw [HL4.out.rs.sb i hi8] at c1
                       have f1 := HL4.out.tab.frozen (32 + i)
                       have HT45 := Lib.hid ((Touch.refl (fun k => k = w.heap.size + 1) w4).set (o := 32 + i) (fun _ => rfl) (.bool true))
                       have HT5 := Lib.hid (HL4.out.tab.set_ (32 + i) (.bool true))
                       have HB5 := Lib.hid (HT45.out.blk HB4.out (by omega))
                       have HS5 := Lib.hid (show 48 + i * 4 + 4 ≤ (C.setIfInBounds (32 + i) (.bool true)).size by rw [Array.size_setIfInBounds, HL4.out.rs.n]; omega)
                       clear hb4 t4 tA)
                    | ((with_reducible apply HB5.out.ld rowCo HK3.out); exact rfl; exact rfl; exact rfl)
                    | ((with_reducible apply storeP rowCo); exact rfl; exact rfl; exact rfl; exact rfl; exact HT5.out; exact HS5.out; exact HK3.out; exact HK1.out; intro w6 hb6 t6 _
                       have HL6 := Lib.hid (HL4.out.put (HT45.out.trans t6 (fun _ _ e => e)) hb6 ((HL4.out.rs.touch (HT45.out.trans t6 (fun _ _ e => e)) (fun q hq e => by omega)).sig (c := ⟨z, lv, rt, bk⟩) hi8 k1 (HR4.out.touch (HT45.out.trans t6 (fun _ _ e => e)) (fun q hq e => by omega))))
                       clear hb6 t6))
                  go_roundw
                  case rel => exact ⟨j + 1, m, _, _, by have := HJ.out; omega, HSt2.out.symm, rfl, rfl, by go_num, HL6.out⟩
                  case measure => simp [intOf]
              · have HSt2 := Lib.hid (HSt.out.trans (by simp; omega) : kCon.steps (hasC fa) (j + 1) X2 = ⟨f, la, false, (qb, ql)⟩)
                have hle : decide (la < (i : Int)) = false := by simp; omega
                clear HSt
                go_wp2_with (first
                  | (go_at_call 47; go_must (refine (HC1.out _ (by exact HL.out.rd)).mono ?_); rintro e w2 ⟨rfl, h2, t2⟩
                     have HL2 := Lib.hid (HL.out.read h2 t2)
                     clear h2 t2)
                  | (go_at_call 19; go_must (refine (HC2.out _ (by exact HL2.out.rd) (by exact HL2.out.fg.2) (by exact HL2.out.fg.1)).mono ?_); rintro e w3 ⟨A1, k1, rfl, hr3, h3, t3⟩
                     have HL3 := Lib.hid (HL2.out.read h3 t3)
                     have HR3 := Lib.hid (show SpR w3 (fun p => w.heap.size + 2 ≤ p) A1 lv.length lv from hr3.mono (fun q hq => by have := HL2.out.sz; omega))
                     have HNb := Lib.hid (Blk.new w3 24 #[.int .i64 0, .slice none 0 0, .int .i64 0, .int .i64 0])
                     have HK3 := Lib.hid (show (#[.int .i64 (z : Int), .slice A1 lv.length k1, .int .i64 rt, .int .i64 bk] : Array Value).size = 4 from rfl)
                     have HK1 := Lib.hid (show (#[.int .i64 (z : Int), .slice A1 lv.length k1, .int .i64 rt, .int .i64 bk] : Array Value).all (·.oneCell') = true from conA_one ⟨(z : Int), lv, rt, bk⟩ A1 k1)
                     clear h3 t3 hr3)
                  | ((with_reducible apply HNb.out.st rowCo HZ1.out HK3.out HK1.out); exact rfl; exact rfl; exact rfl; exact rfl; intro w4 hb4 t4
                     have hs3 := HL3.out.sz
                     have tA := ((Touch.refl (fun _ => False) w3).alloc (.cells #[.int .i64 0, .slice none 0 0, .int .i64 0, .int .i64 0] 24)).trans t4 (S := fun _ => False) (fun q hq e => by omega)
                     have HL4 := Lib.hid (HL3.out.far tA)
                     have HB4 := Lib.hid hb4
                     have HR4 := Lib.hid (HR3.out.touch tA (fun _ _ e => e))
                     clear hb4 t4 tA))
                go_roundw
                case rel => exact ⟨j + 1, m, _, C, by have := HJ.out; omega, HSt2.out.symm, rfl, rfl, by go_num, HL4.out⟩
                case measure => simp [intOf]
          · have hyb : rdB (bad, l) = y := by
              rw [HXB.out]
              cases hb : y.ok
              · rw [HYe.out] at hb ⊢; exact steps_off hb v2 (by omega)
              · have : j = v2 := by
                  rcases Nat.eq_zero_or_pos m with h0 | h0
                  · omega
                  · exact absurd ⟨hb, h0⟩ hgo
                rw [HYe.out, this]
            obtain ⟨fb, lab, okb, ⟨by_, ly⟩⟩ := y
            simp only at HL hgo
            clear HYe hy hjm HXB HX20 HN2
            cases okb
            · have HG := Lib.hid (show rdShG (bad, l) = false by rw [rdShG, HXA2.out, hyb]; rfl)
              clear hyb hgo
              rcases Nat.eq_zero_or_pos m with h0 | h0
              · subst h0
                cases by_
                · skip
                  obtain ⟨Ar, cr, hbr⟩ := HL.out.rd.blk
                  have x1 := hbr.cell 1
                  simp at x1
                  clear hbr
                  go_wp2_with (first
                    | (go_at_call 48; go_must (refine (rf_fail g F _ _ _ (by exact HL.out.rd)).mono ?_); rintro e w8 ⟨rfl, h8, t8⟩
                       have HL8 := Lib.hid (HL.out.read h8 t8)
                       obtain ⟨Z, hZ, hz8⟩ := HL8.out.zz
                       have HZn := Lib.hid hZ
                       have HZb := Lib.hid hz8
                       clear h8 t8 hZ hz8)
                    | (refine buildZ builtSf rfl rfl ?_)
                    | ((with_reducible apply HZb.out.st rowSf HZn.out zSf zSf1); exact rfl; exact rfl; exact rfl; exact rfl; intro w9 hb9 t9; have HB9 := Lib.hid hb9; have HT9 := Lib.hid t9; clear hb9 t9))
                  exact bodyPost_ret (results_cell2 2 3 rowSf zSf (HB9.out.whole) rfl rfl) rfl (by rw [HP.out]; exact FldP.no HG.out rfl HL8.out HT9.out)
                · skip
                  obtain ⟨Ar, cr, hbr⟩ := HL.out.rd.blk
                  have x1 := hbr.cell 1
                  simp at x1
                  clear hbr
                  go_wp2_with (first
                    | (go_at_call 48; go_must (refine (rf_fail g F _ _ _ (by exact HL.out.rd)).mono ?_); rintro e w8 ⟨rfl, h8, t8⟩
                       have HL8 := Lib.hid (HL.out.read h8 t8)
                       obtain ⟨Z, hZ, hz8⟩ := HL8.out.zz
                       have HZn := Lib.hid hZ
                       have HZb := Lib.hid hz8
                       clear h8 t8 hZ hz8)
                    | (refine buildZ builtSf rfl rfl ?_)
                    | ((with_reducible apply HZb.out.st rowSf HZn.out zSf zSf1); exact rfl; exact rfl; exact rfl; exact rfl; intro w9 hb9 t9; have HB9 := Lib.hid hb9; have HT9 := Lib.hid t9; clear hb9 t9))
                  exact bodyPost_ret (results_cell2 2 3 rowSf zSf (HB9.out.whole) rfl rfl) rfl (by rw [HP.out]; exact FldP.no HG.out rfl HL8.out HT9.out)
              · have hn0 : (0 : Int) < (m : Int) := by omega
                cases by_
                · skip
                  obtain ⟨Ar, cr, hbr⟩ := HL.out.rd.blk
                  have x1 := hbr.cell 1
                  simp at x1
                  clear hbr
                  go_wp2_with (first
                    | (go_at_call 48; go_must (refine (rf_fail g F _ _ _ (by exact HL.out.rd)).mono ?_); rintro e w8 ⟨rfl, h8, t8⟩
                       have HL8 := Lib.hid (HL.out.read h8 t8)
                       obtain ⟨Z, hZ, hz8⟩ := HL8.out.zz
                       have HZn := Lib.hid hZ
                       have HZb := Lib.hid hz8
                       clear h8 t8 hZ hz8)
                    | (refine buildZ builtSf rfl rfl ?_)
                    | ((with_reducible apply HZb.out.st rowSf HZn.out zSf zSf1); exact rfl; exact rfl; exact rfl; exact rfl; intro w9 hb9 t9; have HB9 := Lib.hid hb9; have HT9 := Lib.hid t9; clear hb9 t9))
                  exact bodyPost_ret (results_cell2 2 3 rowSf zSf (HB9.out.whole) rfl rfl) rfl (by rw [HP.out]; exact FldP.no HG.out rfl HL8.out HT9.out)
                · skip
                  obtain ⟨Ar, cr, hbr⟩ := HL.out.rd.blk
                  have x1 := hbr.cell 1
                  simp at x1
                  clear hbr
                  go_wp2_with (first
                    | (go_at_call 48; go_must (refine (rf_fail g F _ _ _ (by exact HL.out.rd)).mono ?_); rintro e w8 ⟨rfl, h8, t8⟩
                       have HL8 := Lib.hid (HL.out.read h8 t8)
                       obtain ⟨Z, hZ, hz8⟩ := HL8.out.zz
                       have HZn := Lib.hid hZ
                       have HZb := Lib.hid hz8
                       clear h8 t8 hZ hz8)
                    | (refine buildZ builtSf rfl rfl ?_)
                    | ((with_reducible apply HZb.out.st rowSf HZn.out zSf zSf1); exact rfl; exact rfl; exact rfl; exact rfl; intro w9 hb9 t9; have HB9 := Lib.hid hb9; have HT9 := Lib.hid t9; clear hb9 t9))
                  exact bodyPost_ret (results_cell2 2 3 rowSf zSf (HB9.out.whole) rfl rfl) rfl (by rw [HP.out]; exact FldP.no HG.out rfl HL8.out HT9.out)
            · have h0 : m = 0 := by
                rcases Nat.eq_zero_or_pos m with h0 | h0
                · exact h0
                · exact absurd ⟨rfl, h0⟩ hgo
              subst h0
              cases by_
              · have HG := Lib.hid (show rdShG (bad, l) = true by rw [rdShG, HXA2.out, hyb]; rfl)
                have HV := Lib.hid (show rdShV (bad, l) = ⟨fa, fb⟩ by rw [rdShV, HXA2.out, hyb])
                have HSs := Lib.hid (show rdShS (bad, l) = (false, ly) by rw [rdShS, if_pos HG.out, hyb])
                clear hyb hgo
                obtain ⟨Ar, cr, hbr⟩ := HL.out.rd.blk
                have x1 := hbr.cell 1
                simp at x1
                obtain ⟨Z, hZ, hz8⟩ := HL.out.zz
                have HZn := Lib.hid hZ
                have HZb := Lib.hid hz8
                have HCn := Lib.hid HL.out.rs.n
                have HC1 := Lib.hid HL.out.rs.one
                have HT := Lib.hid HL.out.tab
                clear hbr hZ hz8
                go_wp2_with (first
                  | ((with_reducible apply HT.out.ld rowSf HCn.out); exact rfl; exact rfl; exact rfl)
                  | ((with_reducible apply HZb.out.st rowSf HZn.out HCn.out HC1.out); exact rfl; exact rfl; exact rfl; exact rfl; intro w9 hb9 t9; have HB9 := Lib.hid hb9; have HT9 := Lib.hid t9; clear hb9 t9))
                exact bodyPost_ret (results_cell2 2 3 rowSf HCn.out (HB9.out.whole) rfl rfl) rfl (by rw [HP.out]; exact FldP.yes HG.out rfl HV.out HL.out HSs.out HT9.out)
              · have HG := Lib.hid (show rdShG (bad, l) = false by rw [rdShG, HXA2.out, hyb]; rfl)
                clear hyb hgo
                obtain ⟨Ar, cr, hbr⟩ := HL.out.rd.blk
                have x1 := hbr.cell 1
                simp at x1
                clear hbr
                go_wp2_with (first
                  | (go_at_call 48; go_must (refine (rf_fail g F _ _ _ (by exact HL.out.rd)).mono ?_); rintro e w8 ⟨rfl, h8, t8⟩
                     have HL8 := Lib.hid (HL.out.read h8 t8)
                     obtain ⟨Z, hZ, hz8⟩ := HL8.out.zz
                     have HZn := Lib.hid hZ
                     have HZb := Lib.hid hz8
                     clear h8 t8 hZ hz8)
                  | (refine buildZ builtSf rfl rfl ?_)
                  | ((with_reducible apply HZb.out.st rowSf HZn.out zSf zSf1); exact rfl; exact rfl; exact rfl; exact rfl; intro w9 hb9 t9; have HB9 := Lib.hid hb9; have HT9 := Lib.hid t9; clear hb9 t9))
                exact bodyPost_ret (results_cell2 2 3 rowSf zSf (HB9.out.whole) rfl rfl) rfl (by rw [HP.out]; exact FldP.no HG.out rfl HL8.out HT9.out)
end Go.Proofs.YtlcefchbfjfifaaGreat
