/- The reference's shelf (112 cells by value): its cells, Lay, Sign. (written by gensr.py) -/
import Derived.Test.YtlcefchbfjfifaaGreatVShP
namespace Go.Proofs.YtlcefchbfjfifaaGreat
open Go.RowKit Cal Go.Maps
set_option maxHeartbeats 4000000
set_option maxRecDepth 100000
set_option linter.unusedVariables false
attribute [local irreducible] wpPlan

theorem rowSf : RowT 62 112 := ⟨⟨_, Tryz.underlying62, rfl⟩, by kernel_rfl⟩
theorem setAll_getS : ∀ (vs : List Value) (o : Nat) (cs : Array Value), o + vs.length ≤ cs.size → ∀ k, (setAll cs o vs)[k]? = if o ≤ k ∧ k < o + vs.length then vs[k - o]? else cs[k]? := by
  intro vs
  induction vs with
  | nil => intro o cs h k; rw [setAll, if_neg (by simp <;> omega)]
  | cons v vs ih =>
    intro o cs h k
    simp only [List.length_cons] at h
    rw [setAll, ih (o + 1) (cs.setIfInBounds o v) (by simp; omega) k]
    by_cases h1 : k = o
    · subst h1
      rw [if_neg (by omega), if_pos (by simp), Nat.sub_self]
      simp [Array.getElem?_setIfInBounds]; omega
    · by_cases h2 : o + 1 ≤ k ∧ k < o + 1 + vs.length
      · rw [if_pos h2, if_pos (by simp; omega)]
        rw [show k - o = (k - (o + 1)) + 1 by omega]; rfl
      · rw [if_neg h2, if_neg (by simp; omega), Array.getElem?_setIfInBounds, if_neg (by omega)]
theorem all_getS {C : Array Value} : C.all (·.oneCell') = true ↔ ∀ (i : Nat) (v : Value), C[i]? = some v → v.oneCell' = true := by
  rw [Array.all_eq_true]
  constructor
  · intro h i v hv
    have hi : i < C.size := by
      rcases Nat.lt_or_ge i C.size with h1 | h1
      · exact h1
      · rw [Array.getElem?_eq_none h1] at hv; cases hv
    rw [Array.getElem?_eq_getElem hi] at hv
    injection hv with hv
    subst hv
    exact h i hi
  · intro h i hi
    exact h i _ (Array.getElem?_eq_getElem hi)
theorem extract_ofS {C L : Array Value} {k n : Nat} (h : ∀ j, j < n → C[k + j]? = L[j]?) (hL : L.size = n) (hC : k + n ≤ C.size) : C.extract k (k + n) = L := by
  refine Array.ext_getElem? fun i => ?_
  rw [Array.getElem?_extract]
  split
  · rename_i h1
    exact h i (by omega)
  · rename_i h1
    rw [Array.getElem?_eq_none (by omega)]
/-- The cells C say that S is there; rows in F. -/
structure RfS (w : World) (F : Nat → Prop) (S : Shl) (C : Array Value) : Prop where
  n : C.size = 112
  one : C.all (·.oneCell') = true
  lb : ∀ i : Nat, i < 8 → C[i]? = some (.bool (S.cal i).isSome)
  la : ∀ i : Nat, i < 8 → ∃ A B k m, (∀ j, j < 3 → C[8 + i * 3 + j]? = (caA (plainV S i) A B k m)[j]?) ∧ CaR w F (plainV S i) A B
  sb : ∀ i : Nat, i < 16 → C[32 + i]? = some (.bool (S.con i).isSome)
  sa : ∀ i : Nat, i < 16 → ∃ A k, (∀ j, j < 4 → C[48 + i * 4 + j]? = (conA (termsV S i) A k)[j]?) ∧ SpR w F A (termsV S i).lv.length (termsV S i).lv
section
variable {w w' : World} {F : Nat → Prop} {S : Shl} {C : Array Value}
theorem RfS.touch {T : Nat → Prop} (h : RfS w F S C) (t : Touch T w w') (hF : ∀ q, F q → ¬ T q) : RfS w' F S C := by
  refine ⟨h.n, h.one, h.lb, fun i hi => ?_, h.sb, fun i hi => ?_⟩
  · obtain ⟨A, B, k, m, h1, h2⟩ := h.la i hi; exact ⟨A, B, k, m, h1, h2.touch t hF⟩
  · obtain ⟨A, k, h1, h2⟩ := h.sa i hi; exact ⟨A, k, h1, h2.touch t hF⟩
theorem RfS.far (h : RfS w F S C) (t : Touch (fun _ => False) w w') : RfS w' F S C := h.touch t (fun _ _ e => e)
theorem RfS.mono {F' : Nat → Prop} (h : RfS w F S C) (hF : ∀ q, F q → F' q) : RfS w F' S C := by
  refine ⟨h.n, h.one, h.lb, fun i hi => ?_, h.sb, fun i hi => ?_⟩
  · obtain ⟨A, B, k, m, h1, h2⟩ := h.la i hi; exact ⟨A, B, k, m, h1, ⟨h2.wk.mono hF, h2.cl.mono hF⟩⟩
  · obtain ⟨A, k, h1, h2⟩ := h.sa i hi; exact ⟨A, k, h1, h2.mono hF⟩
theorem RfS.cal (h : RfS w F S C) {i : Nat} (hi : i < 8) : ∃ A B k m, C.extract (8 + i * 3) (8 + i * 3 + 3) = caA (plainV S i) A B k m ∧ CaR w F (plainV S i) A B := by
  obtain ⟨A, B, k, m, h1, h2⟩ := h.la i hi
  exact ⟨A, B, k, m, extract_ofS h1 rfl (by rw [h.n]; omega), h2⟩
theorem RfS.con (h : RfS w F S C) {i : Nat} (hi : i < 16) : ∃ A k, C.extract (48 + i * 4) (48 + i * 4 + 4) = conA (termsV S i) A k ∧ SpR w F A (termsV S i).lv.length (termsV S i).lv := by
  obtain ⟨A, k, h1, h2⟩ := h.sa i hi
  exact ⟨A, k, extract_ofS h1 rfl (by rw [h.n]; omega), h2⟩
theorem RfS.lay (h : RfS w F S C) {n : Nat} (hn : n < 8) {c : Ca} {A B : Option Addr} (k m : Nat) (hr : CaR w F c A B) : RfS w F (S.lay n c) (setAll (C.setIfInBounds n (.bool true)) (8 + n * 3) (caA c A B k m).toList) := by
  have hs : (C.setIfInBounds n (.bool true)).size = 112 := by rw [Array.size_setIfInBounds]; exact h.n
  have hg : ∀ q, (setAll (C.setIfInBounds n (.bool true)) (8 + n * 3) (caA c A B k m).toList)[q]? = if 8 + n * 3 ≤ q ∧ q < 8 + n * 3 + 3 then (caA c A B k m)[q - (8 + n * 3)]? else if n = q then some (.bool true) else C[q]? := fun q => by
    rw [setAll_getS _ _ _ (by rw [hs]; show 8 + n * 3 + 3 ≤ 112; omega), show (caA c A B k m).toList.length = 3 from rfl, Array.getElem?_toList, Array.getElem?_setIfInBounds]
    by_cases e : n = q
    · subst e; rw [if_pos rfl, if_pos rfl, if_pos (show n < C.size by rw [h.n]; omega)]
    · rw [if_neg e, if_neg e]
  refine ⟨by rw [setAll_size]; exact hs, all_getS.2 fun q v hv => ?_, fun i hi => ?_, fun i hi => ?_, fun i hi => ?_, fun i hi => ?_⟩
  · rw [hg] at hv
    split at hv
    · exact all_getS.1 (caA_one c A B k m) _ _ hv
    · split at hv
      · injection hv with hv; subst hv; rfl
      · exact all_getS.1 h.one _ _ hv
  · rw [hg, if_neg (by omega)]
    simp only [Shl.lay]
    by_cases e : n = i
    · subst e; rw [if_pos rfl, if_pos rfl]; rfl
    · rw [if_neg e, if_neg (by omega), h.lb i hi]
  · by_cases e : i = n
    · subst e
      have hp : plainV (S.lay i c) i = c := by simp only [plainV, Shl.lay, if_true, Option.getD_some]
      rw [hp]
      refine ⟨A, B, k, m, fun j hj => ?_, hr⟩
      rw [hg, if_pos (by omega), show 8 + i * 3 + j - (8 + i * 3) = j by omega]
    · have hp : plainV (S.lay n c) i = plainV S i := by simp only [plainV, Shl.lay]; rw [if_neg (by omega)]
      rw [hp]
      obtain ⟨A', B', k', m', h1, h2⟩ := h.la i hi
      refine ⟨A', B', k', m', fun j hj => ?_, h2⟩
      rw [hg, if_neg (by omega), if_neg (by omega), h1 j hj]
  · rw [hg, if_neg (by omega), if_neg (by omega), h.sb i hi]; rfl
  · obtain ⟨A', k', h1, h2⟩ := h.sa i hi
    refine ⟨A', k', fun j hj => ?_, h2⟩
    rw [hg, if_neg (by omega), if_neg (by omega), h1 j hj]; rfl
theorem RfS.sig (h : RfS w F S C) {n : Nat} (hn : n < 16) {c : Co} {A : Option Addr} (k : Nat) (hr : SpR w F A c.lv.length c.lv) : RfS w F (S.sig n c) (setAll (C.setIfInBounds (32 + n) (.bool true)) (48 + n * 4) (conA c A k).toList) := by
  have hs : (C.setIfInBounds (32 + n) (.bool true)).size = 112 := by rw [Array.size_setIfInBounds]; exact h.n
  have hg : ∀ q, (setAll (C.setIfInBounds (32 + n) (.bool true)) (48 + n * 4) (conA c A k).toList)[q]? = if 48 + n * 4 ≤ q ∧ q < 48 + n * 4 + 4 then (conA c A k)[q - (48 + n * 4)]? else if 32 + n = q then some (.bool true) else C[q]? := fun q => by
    rw [setAll_getS _ _ _ (by rw [hs]; show 48 + n * 4 + 4 ≤ 112; omega), show (conA c A k).toList.length = 4 from rfl, Array.getElem?_toList, Array.getElem?_setIfInBounds]
    by_cases e : 32 + n = q
    · subst e; rw [if_pos rfl, if_pos rfl, if_pos (show 32 + n < C.size by rw [h.n]; omega)]
    · rw [if_neg e, if_neg e]
  refine ⟨by rw [setAll_size]; exact hs, all_getS.2 fun q v hv => ?_, fun i hi => ?_, fun i hi => ?_, fun i hi => ?_, fun i hi => ?_⟩
  · rw [hg] at hv
    split at hv
    · exact all_getS.1 (conA_one c A k) _ _ hv
    · split at hv
      · injection hv with hv; subst hv; rfl
      · exact all_getS.1 h.one _ _ hv
  · rw [hg, if_neg (by omega), if_neg (by omega), h.lb i hi]; rfl
  · obtain ⟨A', B', k', m', h1, h2⟩ := h.la i hi
    refine ⟨A', B', k', m', fun j hj => ?_, h2⟩
    rw [hg, if_neg (by omega), if_neg (by omega), h1 j hj]; rfl
  · rw [hg, if_neg (by omega)]
    simp only [Shl.sig]
    by_cases e : i = n
    · subst e; rw [if_pos rfl, if_pos rfl]; rfl
    · rw [if_neg (by omega), if_neg (by omega), h.sb i hi]
  · by_cases e : i = n
    · subst e
      have hp : termsV (S.sig i c) i = c := by simp only [termsV, Shl.sig, if_true, Option.getD_some]
      rw [hp]
      refine ⟨A, k, fun j hj => ?_, hr⟩
      rw [hg, if_pos (by omega), show 48 + i * 4 + j - (48 + i * 4) = j by omega]
    · have hp : termsV (S.sig n c) i = termsV S i := by simp only [termsV, Shl.sig]; rw [if_neg (by omega)]
      rw [hp]
      obtain ⟨A', k', h1, h2⟩ := h.sa i hi
      refine ⟨A', k', fun j hj => ?_, h2⟩
      rw [hg, if_neg (by omega), if_neg (by omega), h1 j hj]
end
/-- A call of the reference's: the shelf's own block, the argument's, the result's. -/
structure SfW (w w1 : World) (T : TypeId) (C K : Array Value) : Prop where
  b : Blk w1 w.heap.size 62 C
  k : Blk w1 (w.heap.size + 1) T K
  zz : ∃ Z, Z.size = 112 ∧ Blk w1 (w.heap.size + 2) 62 Z
  t : Touch (fun _ => False) w w1
theorem zSf : Tryz.zeroCells62.size = 112 := by kernel_rfl
theorem SfW.new (w : World) (T : TypeId) (C K : Array Value) : SfW w (((w.alloc (.cells C 62)).alloc (.cells K T)).alloc (.cells Tryz.zeroCells62 62)) T C K :=
  ⟨((Blk.new w _ C).alloc _).alloc _, by simpa using (Blk.new (w.alloc (.cells C 62)) T K).alloc (.cells Tryz.zeroCells62 62), ⟨_, zSf, by simpa using Blk.new ((w.alloc (.cells C 62)).alloc (.cells K T)) 62 Tryz.zeroCells62⟩, (((Touch.refl _ w).alloc _).alloc _).alloc _⟩
theorem SfW.none_ {w w1 w2 : World} {T : TypeId} {C K : Array Value} (h : SfW w w1 T C K) (t : Touch (fun _ => False) w1 w2) : SfW w w2 T C K := by
  obtain ⟨hb, hk, ⟨Z, hz, hr⟩, ht⟩ := h
  exact ⟨t.blk hb (fun e => e), t.blk hk (fun e => e), ⟨Z, hz, t.blk hr (fun e => e)⟩, ht.trans t (fun _ _ e => e)⟩
theorem SfW.own {w w1 w2 : World} {T : TypeId} {C C' K : Array Value} (h : SfW w w1 T C K) (t : Touch (fun q => q = w.heap.size) w1 w2) (hb : Blk w2 w.heap.size 62 C') : SfW w w2 T C' K := by
  obtain ⟨_, hk, ⟨Z, hz, hr⟩, ht⟩ := h
  exact ⟨hb, t.blk hk (by omega), ⟨Z, hz, t.blk hr (by omega)⟩, ht.trans t (fun q hq e => by omega)⟩
section
variable {ops : Array Oper} {rest : List Oper} {o : Oper} {a : Act} {w w1 : World} {T : TypeId} {Q : Exit → Act → World → Prop} {C D K : Array Value}
theorem SfW.load (h : SfW w w1 T C K) (hn : C.size = 112) (x : Operand) (ho : o.op = .load 62 x) (hw : Region.wanted o (yielded ops a.tmps) = true) (hx : a.eval x = .pointer (some ⟨w.heap.size, 0, none⟩))
    (hK : wpList Tryz.prog ops Q rest (a.put o.dst (.agg C)) w1) : wpList Tryz.prog ops Q (o :: rest) a w1 := h.b.ld rowSf hn x ho hw hx hK
theorem SfW.arg {n : Nat} (R : RowT T n) (hn : K.size = n) (h : SfW w w1 T C K) (x : Operand) (ho : o.op = .load T x) (hw : Region.wanted o (yielded ops a.tmps) = true) (hx : a.eval x = .pointer (some ⟨w.heap.size + 1, 0, none⟩))
    (hK : wpList Tryz.prog ops Q rest (a.put o.dst (.agg K)) w1) : wpList Tryz.prog ops Q (o :: rest) a w1 := h.k.ld R hn x ho hw hx hK
theorem SfW.store (h : SfW w w1 T C K) (hn : D.size = 112) (h1 : D.all (·.oneCell') = true) (x y : Operand) (ho : o.op = .store 62 x y) (hw : Region.wanted o (yielded ops a.tmps) = true) (hx : a.eval x = .pointer (some ⟨w.heap.size + 2, 0, none⟩)) (hy : a.eval y = .agg D)
    (hK : ∀ w2, Blk w2 (w.heap.size + 2) 62 D → Touch (fun _ => False) w w2 → wpList Tryz.prog ops Q rest (a.put o.dst undef) w2) : wpList Tryz.prog ops Q (o :: rest) a w1 := by
  obtain ⟨hb, hk, ⟨Z, hz, hr⟩, ht⟩ := h
  refine storeM rowSf x y ho hw _ hx D hy _ Z hr hz hn h1 ?_
  intro w2 h2 t2
  exact hK w2 h2 (ht.trans t2 (fun q hq e => by omega))
theorem SfW.put {t : TypeId} {n : Nat} {L : Array Value} (R : RowT t n) (h : SfW w w1 T C K) (hn : C.size = 112) (k : Nat) (hk : k + n ≤ 112) (hL : L.size = n) (h1 : L.all (·.oneCell') = true) (hE : setAll C k L.toList = D) (x y : Operand) (ho : o.op = .store t x y) (hw : Region.wanted o (yielded ops a.tmps) = true) (hx : a.eval x = .pointer (some ⟨w.heap.size, k, none⟩)) (hy : a.eval y = .agg L)
    (hK : ∀ w2, SfW w w2 T D K → Touch (fun q => q = w.heap.size) w1 w2 → wpList Tryz.prog ops Q rest (a.put o.dst undef) w2) : wpList Tryz.prog ops Q (o :: rest) a w1 := by
  refine storeP R x y ho hw _ _ hx L hy _ C h.b (by omega) hL h1 ?_
  intro w2 h2 t2 _
  exact hK w2 (h.own t2 (hE ▸ h2)) t2
end
/-- What a call on the reference's shelf answers. -/
def RfP (F : Nat → Prop) (S' : Shl) (v : Int) (e : Ending) (w : World) (w' : World) : Prop := ∃ C', e = .returned (.tuple #[.agg C', .int .i64 v]) ∧ RfS w' F S' C' ∧ Touch (fun _ => False) w w'
theorem flay_any (F : Nat → Prop) (S : Shl) (C : Array Value) (w : World) (h : RfS w F S C) (n : Int) (hn : inN n) (c : Ca) (A B : Option Addr) (k m : Nat) (hr : CaR w F c A B) (h1 : c.wk.length ≤ 1000000) (h2 : c.cl.length ≤ 1000000) :
    Calls Tryz.prog 51 #[.agg C, .int .i64 n, .agg (caA c A B k m)] w fun e w' => RfP F (S.layS n c) (layE S n c) e w w' := by
  have HR := Lib.hid h
  have HCr := Lib.hid hr
  have HN := Lib.hid h.n
  have H1 := Lib.hid h.one
  have HW := Lib.hid (SfW.new w 51 C (caA c A B k m))
  have HKn := Lib.hid (show (caA c A B k m).size = 3 from rfl)
  have HK1 := Lib.hid (caA_one c A B k m)
  have HCk := Lib.hid (show ∀ w1, Touch (fun _ => False) w w1 → Calls Tryz.prog 82 #[.agg (caA c A B k m)] w1 fun e w' => e = .returned (.int .i64 (checkE c)) ∧ Touch (fun _ => False) w1 w' from fun w1 t => fcheck_any F A B k m c w1 (hr.touch t (fun _ _ e => e)) h1 h2)
  have HSet := Lib.hid (fun (n : Nat) (hn : n < 8) (w1 : World) (t : Touch (fun _ => False) w w1) => (h.far t).lay hn k m (hr.touch t (fun _ _ e => e)))
  have HLb := Lib.hid h.lb
  obtain ⟨CK, hCK⟩ : ∃ CK, CK = caA c A B k m := ⟨_, rfl⟩
  rw [← hCK] at HW HKn HK1 HCk HSet ⊢
  unfold RfP
  by_cases hr1 : 0 ≤ n ∧ n < 8
  · obtain ⟨i, rfl⟩ := Int.eq_ofNat_of_zero_le hr1.1
    have hi : i < 8 := by omega
    have hn7 : ¬ (7 : Int) < (i : Int) := by omega
    by_cases hc : checkE c = 0
    · cases hs : (S.cal i).isSome
      · have HV := Lib.hid (show layE S i c = 0 by rw [layE, if_pos hr1, if_pos hc, hs]; rfl)
        rw [show S.layS i c = S.lay i c by rw [Shl.layS, HV.out]; rfl]
        have HL := Lib.hid (HLb.out i hi)
        rw [hs] at HL
        have HS2 := Lib.hid (HSet.out i hi)
        obtain ⟨D, hD⟩ : ∃ D, D = setAll (C.setIfInBounds i (.bool true)) (8 + i * 3) CK.toList := ⟨_, rfl⟩
        rw [← hD] at HS2
        have HD := Lib.hid hD.symm
        have HN2 := Lib.hid (HS2.out w (Touch.refl _ _)).n
        have H12 := Lib.hid (HS2.out w (Touch.refl _ _)).one
        have HNm := Lib.hid (show (C.setIfInBounds i (.bool true)).size = 112 by rw [Array.size_setIfInBounds]; exact HN.out)
        rw [hc] at HCk
        clear h hr h1 h2 hCK hr1 hc hs hD HSet HLb HCr
        go_enter Tryz.func51, Tryz.ntmps51
        go_wp2_with (first
          | ((with_reducible apply SfW.arg rowCa HKn.out HW.out); exact rfl; exact rfl; exact rfl)
          | (go_at_call 82; go_must (refine (HCk.out _ (by exact HW.out.t)).mono ?_); rintro e w1 ⟨rfl, t1⟩
             have HW1 := Lib.hid (HW.out.none_ t1)
             have c1 := HW1.out.b.cell i
             rw [HL.out] at c1
             have f1 := HW1.out.b.frozen i
             have HW2 := Lib.hid (HW1.out.own ((Touch.refl (fun q => q = w.heap.size) w1).set (o := i) (fun _ => rfl) (.bool true)) (HW1.out.b.set_ i (.bool true)))
             clear t1)
          | ((with_reducible apply SfW.arg rowCa HKn.out HW2.out); exact rfl; exact rfl; exact rfl)
          | ((with_reducible apply SfW.put rowCa HW2.out HNm.out (8 + i * 3) (by omega) HKn.out HK1.out HD.out); exact rfl; exact rfl; exact rfl; exact rfl; intro w3 hw3 t3; have HW3 := Lib.hid hw3; clear hw3 t3)
          | ((with_reducible apply HW3.out.load HN2.out); exact rfl; exact rfl; exact rfl)
          | ((with_reducible apply HW3.out.store HN2.out H12.out); exact rfl; exact rfl; exact rfl; exact rfl; intro w9 hb9 t9; have HB9 := Lib.hid hb9; have HT9 := Lib.hid t9; clear hb9 t9))
        exact bodyPost_ret (results_cell2 6 7 rowSf HN2.out (HB9.out.whole) rfl rfl) rfl ⟨_, by rw [HV.out]; rfl, HS2.out _ HT9.out, HT9.out⟩
      · have HV := Lib.hid (show layE S i c = 32 by rw [layE, if_pos hr1, if_pos hc, hs]; rfl)
        rw [show S.layS i c = S by rw [Shl.layS, HV.out]; rfl]
        have HL := Lib.hid (HLb.out i hi)
        rw [hs] at HL
        rw [hc] at HCk
        clear h hr h1 h2 hCK hr1 hc hs HSet HLb HCr
        go_enter Tryz.func51, Tryz.ntmps51
        go_wp2_with (first
          | ((with_reducible apply SfW.arg rowCa HKn.out HW.out); exact rfl; exact rfl; exact rfl)
          | (go_at_call 82; go_must (refine (HCk.out _ (by exact HW.out.t)).mono ?_); rintro e w1 ⟨rfl, t1⟩
             have HW1 := Lib.hid (HW.out.none_ t1)
             have c1 := HW1.out.b.cell i
             rw [HL.out] at c1
             clear t1)
          | ((with_reducible apply HW1.out.load HN.out); exact rfl; exact rfl; exact rfl)
          | ((with_reducible apply HW1.out.store HN.out H1.out); exact rfl; exact rfl; exact rfl; exact rfl; intro w9 hb9 t9; have HB9 := Lib.hid hb9; have HT9 := Lib.hid t9; clear hb9 t9))
        exact bodyPost_ret (results_cell2 6 7 rowSf HN.out (HB9.out.whole) rfl rfl) rfl ⟨_, by rw [HV.out]; rfl, HR.out.far HT9.out, HT9.out⟩
    · have HV := Lib.hid (show layE S i c = checkE c by rw [layE, if_pos hr1, if_neg hc])
      rw [show S.layS i c = S by rw [Shl.layS, HV.out, if_neg hc]]
      generalize checkE c = ce at *
      have hc2 : (ce == 0) = false := by simpa using hc
      clear h hr h1 h2 hCK hr1 HSet HLb HCr
      go_enter Tryz.func51, Tryz.ntmps51
      go_wp2_with (first
        | ((with_reducible apply SfW.arg rowCa HKn.out HW.out); exact rfl; exact rfl; exact rfl)
        | (go_at_call 82; go_must (refine (HCk.out _ (by exact HW.out.t)).mono ?_); rintro e w1 ⟨rfl, t1⟩
           have HW1 := Lib.hid (HW.out.none_ t1)
           clear t1)
        | ((with_reducible apply HW1.out.load HN.out); exact rfl; exact rfl; exact rfl)
        | ((with_reducible apply HW1.out.store HN.out H1.out); exact rfl; exact rfl; exact rfl; exact rfl; intro w9 hb9 t9; have HB9 := Lib.hid hb9; have HT9 := Lib.hid t9; clear hb9 t9))
      exact bodyPost_ret (results_cell2 6 7 rowSf HN.out (HB9.out.whole) rfl rfl) rfl ⟨_, by rw [HV.out]; rfl, HR.out.far HT9.out, HT9.out⟩
  · have HV := Lib.hid (show layE S n c = 2 by rw [layE, if_neg hr1])
    rw [show S.layS n c = S by rw [Shl.layS, HV.out]; rfl]
    clear h hr h1 h2 hCK HSet HLb HCr
    by_cases h0 : n < 0
    · clear hr1
      go_enter Tryz.func51, Tryz.ntmps51
      go_wp2_with (first
        | ((with_reducible apply HW.out.load HN.out); exact rfl; exact rfl; exact rfl)
        | ((with_reducible apply HW.out.store HN.out H1.out); exact rfl; exact rfl; exact rfl; exact rfl; intro w9 hb9 t9; have HB9 := Lib.hid hb9; have HT9 := Lib.hid t9; clear hb9 t9))
      exact bodyPost_ret (results_cell2 6 7 rowSf HN.out (HB9.out.whole) rfl rfl) rfl ⟨_, by rw [HV.out]; rfl, HR.out.far HT9.out, HT9.out⟩
    · have h7 : (7 : Int) < n := by omega
      clear hr1
      go_enter Tryz.func51, Tryz.ntmps51
      go_wp2_with (first
        | ((with_reducible apply HW.out.load HN.out); exact rfl; exact rfl; exact rfl)
        | ((with_reducible apply HW.out.store HN.out H1.out); exact rfl; exact rfl; exact rfl; exact rfl; intro w9 hb9 t9; have HB9 := Lib.hid hb9; have HT9 := Lib.hid t9; clear hb9 t9))
      exact bodyPost_ret (results_cell2 6 7 rowSf HN.out (HB9.out.whole) rfl rfl) rfl ⟨_, by rw [HV.out]; rfl, HR.out.far HT9.out, HT9.out⟩
theorem fsign_any (F : Nat → Prop) (S : Shl) (C : Array Value) (w : World) (h : RfS w F S C) (n : Int) (hn : inN n) (c : Co) (A : Option Addr) (k : Nat) (hr : SpR w F A c.lv.length c.lv) :
    Calls Tryz.prog 50 #[.agg C, .int .i64 n, .agg (conA c A k)] w fun e w' => RfP F (S.sigS n c) (sigE S n c) e w w' := by
  have HR := Lib.hid h
  have HCr := Lib.hid hr
  have HN := Lib.hid h.n
  have H1 := Lib.hid h.one
  have HW := Lib.hid (SfW.new w 24 C (conA c A k))
  have HKn := Lib.hid (show (conA c A k).size = 4 from rfl)
  have HK1 := Lib.hid (conA_one c A k)
  have HK0 := Lib.hid (show (conA c A k)[0]? = some (.int .i64 c.cal) from rfl)
  have HCk := Lib.hid (show ∀ w1, Touch (fun _ => False) w w1 → Calls Tryz.prog 10 #[.agg (conA c A k)] w1 fun e w' => e = .returned (.bool (goodB c)) ∧ Touch (fun _ => False) w1 w' from fun w1 t => fgood_any F A k c w1 (hr.touch t (fun _ _ e => e)))
  have HSet := Lib.hid (fun (n : Nat) (hn : n < 16) (w1 : World) (t : Touch (fun _ => False) w w1) => (h.far t).sig hn k (hr.touch t (fun _ _ e => e)))
  have HLb := Lib.hid h.lb
  have HSb := Lib.hid h.sb
  obtain ⟨CK, hCK⟩ : ∃ CK, CK = conA c A k := ⟨_, rfl⟩
  rw [← hCK] at HW HKn HK1 HK0 HCk HSet ⊢
  unfold RfP
  by_cases hr1 : 0 ≤ n ∧ n < 16
  · obtain ⟨i, rfl⟩ := Int.eq_ofNat_of_zero_le hr1.1
    have hi : i < 16 := by omega
    have hn7 : ¬ (15 : Int) < (i : Int) := by omega
    cases hc : goodB c
    · have HV := Lib.hid (show sigE S i c = 2 by rw [sigE, hc]; simp)
      rw [show S.sigS i c = S by rw [Shl.sigS, HV.out]; rfl]
      rw [hc] at HCk
      clear h hr hCK hr1 hc HSet HLb HSb HCr
      go_enter Tryz.func50, Tryz.ntmps50
      go_wp2_with (first
        | ((with_reducible apply SfW.arg rowCo HKn.out HW.out); exact rfl; exact rfl; exact rfl)
        | (go_at_call 10; go_must (refine (HCk.out _ (by exact HW.out.t)).mono ?_); rintro e w1 ⟨rfl, t1⟩
           have HW1 := Lib.hid (HW.out.none_ t1)
           clear t1)
        | ((with_reducible apply HW1.out.load HN.out); exact rfl; exact rfl; exact rfl)
        | ((with_reducible apply HW1.out.store HN.out H1.out); exact rfl; exact rfl; exact rfl; exact rfl; intro w9 hb9 t9; have HB9 := Lib.hid hb9; have HT9 := Lib.hid t9; clear hb9 t9))
      exact bodyPost_ret (results_cell2 6 7 rowSf HN.out (HB9.out.whole) rfl rfl) rfl ⟨_, by rw [HV.out]; rfl, HR.out.far HT9.out, HT9.out⟩
    · obtain ⟨z, hz⟩ : ∃ z : Nat, c.cal = (z : Int) := ⟨c.cal.toNat, by have := good_hd hc; omega⟩
      have hz8 : z < 8 := by have := good_hd hc; omega
      have hz7 : ¬ (7 : Int) < (z : Int) := by omega
      rw [hz] at HK0
      cases hl : (S.cal c.cal).isSome
      · have HV := Lib.hid (show sigE S i c = 31 by rw [sigE, if_pos ⟨hr1, hc⟩, hl]; rfl)
        rw [show S.sigS i c = S by rw [Shl.sigS, HV.out]; rfl]
        have HL := Lib.hid (HLb.out z hz8)
        rw [← hz, hl] at HL
        rw [hc] at HCk
        clear h hr hCK hr1 hc HSet HLb HSb HCr hl hz
        go_enter Tryz.func50, Tryz.ntmps50
        go_wp2_with (first
          | ((with_reducible apply SfW.arg rowCo HKn.out HW.out); exact rfl; exact rfl; exact rfl)
          | (go_at_call 10; go_must (refine (HCk.out _ (by exact HW.out.t)).mono ?_); rintro e w1 ⟨rfl, t1⟩
             have HW1 := Lib.hid (HW.out.none_ t1)
             have k1 := HW1.out.k.cell 0
             rw [HK0.out] at k1
             have c1 := HW1.out.b.cell z
             rw [HL.out] at c1
             clear t1)
          | ((with_reducible apply HW1.out.load HN.out); exact rfl; exact rfl; exact rfl)
          | ((with_reducible apply HW1.out.store HN.out H1.out); exact rfl; exact rfl; exact rfl; exact rfl; intro w9 hb9 t9; have HB9 := Lib.hid hb9; have HT9 := Lib.hid t9; clear hb9 t9))
        exact bodyPost_ret (results_cell2 6 7 rowSf HN.out (HB9.out.whole) rfl rfl) rfl ⟨_, by rw [HV.out]; rfl, HR.out.far HT9.out, HT9.out⟩
      · cases hs : (S.con i).isSome
        · have HV := Lib.hid (show sigE S i c = 0 by rw [sigE, if_pos ⟨hr1, hc⟩, hl, hs]; rfl)
          rw [show S.sigS i c = S.sig i c by rw [Shl.sigS, HV.out]; rfl]
          have HL := Lib.hid (HLb.out z hz8)
          rw [← hz, hl] at HL
          have HQ := Lib.hid (HSb.out i hi)
          rw [hs] at HQ
          have HS2 := Lib.hid (HSet.out i hi)
          obtain ⟨D, hD⟩ : ∃ D, D = setAll (C.setIfInBounds (32 + i) (.bool true)) (48 + i * 4) CK.toList := ⟨_, rfl⟩
          rw [← hD] at HS2
          have HD := Lib.hid hD.symm
          have HN2 := Lib.hid (HS2.out w (Touch.refl _ _)).n
          have H12 := Lib.hid (HS2.out w (Touch.refl _ _)).one
          have HNm := Lib.hid (show (C.setIfInBounds (32 + i) (.bool true)).size = 112 by rw [Array.size_setIfInBounds]; exact HN.out)
          rw [hc] at HCk
          clear h hr hCK hr1 hc hs hD HSet HLb HSb HCr hl hz
          go_enter Tryz.func50, Tryz.ntmps50
          go_wp2_with (first
            | ((with_reducible apply SfW.arg rowCo HKn.out HW.out); exact rfl; exact rfl; exact rfl)
            | (go_at_call 10; go_must (refine (HCk.out _ (by exact HW.out.t)).mono ?_); rintro e w1 ⟨rfl, t1⟩
               have HW1 := Lib.hid (HW.out.none_ t1)
               have k1 := HW1.out.k.cell 0
               rw [HK0.out] at k1
               have c1 := HW1.out.b.cell z
               rw [HL.out] at c1
               have c2 := HW1.out.b.cell (32 + i)
               rw [HQ.out] at c2
               have f1 := HW1.out.b.frozen (32 + i)
               have HW2 := Lib.hid (HW1.out.own ((Touch.refl (fun q => q = w.heap.size) w1).set (o := 32 + i) (fun _ => rfl) (.bool true)) (HW1.out.b.set_ (32 + i) (.bool true)))
               clear t1)
            | ((with_reducible apply SfW.arg rowCo HKn.out HW2.out); exact rfl; exact rfl; exact rfl)
            | ((with_reducible apply SfW.put rowCo HW2.out HNm.out (48 + i * 4) (by omega) HKn.out HK1.out HD.out); exact rfl; exact rfl; exact rfl; exact rfl; intro w3 hw3 t3; have HW3 := Lib.hid hw3; clear hw3 t3)
            | ((with_reducible apply HW3.out.load HN2.out); exact rfl; exact rfl; exact rfl)
            | ((with_reducible apply HW3.out.store HN2.out H12.out); exact rfl; exact rfl; exact rfl; exact rfl; intro w9 hb9 t9; have HB9 := Lib.hid hb9; have HT9 := Lib.hid t9; clear hb9 t9))
          exact bodyPost_ret (results_cell2 6 7 rowSf HN2.out (HB9.out.whole) rfl rfl) rfl ⟨_, by rw [HV.out]; rfl, HS2.out _ HT9.out, HT9.out⟩
        · have HV := Lib.hid (show sigE S i c = 32 by rw [sigE, if_pos ⟨hr1, hc⟩, hl, hs]; rfl)
          rw [show S.sigS i c = S by rw [Shl.sigS, HV.out]; rfl]
          have HL := Lib.hid (HLb.out z hz8)
          rw [← hz, hl] at HL
          have HQ := Lib.hid (HSb.out i hi)
          rw [hs] at HQ
          rw [hc] at HCk
          clear h hr hCK hr1 hc hs HSet HLb HSb HCr hl hz
          go_enter Tryz.func50, Tryz.ntmps50
          go_wp2_with (first
            | ((with_reducible apply SfW.arg rowCo HKn.out HW.out); exact rfl; exact rfl; exact rfl)
            | (go_at_call 10; go_must (refine (HCk.out _ (by exact HW.out.t)).mono ?_); rintro e w1 ⟨rfl, t1⟩
               have HW1 := Lib.hid (HW.out.none_ t1)
               have k1 := HW1.out.k.cell 0
               rw [HK0.out] at k1
               have c1 := HW1.out.b.cell z
               rw [HL.out] at c1
               have c2 := HW1.out.b.cell (32 + i)
               rw [HQ.out] at c2
               clear t1)
            | ((with_reducible apply HW1.out.load HN.out); exact rfl; exact rfl; exact rfl)
            | ((with_reducible apply HW1.out.store HN.out H1.out); exact rfl; exact rfl; exact rfl; exact rfl; intro w9 hb9 t9; have HB9 := Lib.hid hb9; have HT9 := Lib.hid t9; clear hb9 t9))
          exact bodyPost_ret (results_cell2 6 7 rowSf HN.out (HB9.out.whole) rfl rfl) rfl ⟨_, by rw [HV.out]; rfl, HR.out.far HT9.out, HT9.out⟩
  · have HV := Lib.hid (show sigE S n c = 2 by rw [sigE, if_neg (fun e => hr1 e.1)])
    rw [show S.sigS n c = S by rw [Shl.sigS, HV.out]; rfl]
    clear h hr hCK HSet HLb HSb HCr
    by_cases h0 : n < 0
    · clear hr1
      go_enter Tryz.func50, Tryz.ntmps50
      go_wp2_with (first
        | ((with_reducible apply HW.out.load HN.out); exact rfl; exact rfl; exact rfl)
        | ((with_reducible apply HW.out.store HN.out H1.out); exact rfl; exact rfl; exact rfl; exact rfl; intro w9 hb9 t9; have HB9 := Lib.hid hb9; have HT9 := Lib.hid t9; clear hb9 t9))
      exact bodyPost_ret (results_cell2 6 7 rowSf HN.out (HB9.out.whole) rfl rfl) rfl ⟨_, by rw [HV.out]; rfl, HR.out.far HT9.out, HT9.out⟩
    · have h7 : (15 : Int) < n := by omega
      clear hr1
      go_enter Tryz.func50, Tryz.ntmps50
      go_wp2_with (first
        | ((with_reducible apply HW.out.load HN.out); exact rfl; exact rfl; exact rfl)
        | ((with_reducible apply HW.out.store HN.out H1.out); exact rfl; exact rfl; exact rfl; exact rfl; intro w9 hb9 t9; have HB9 := Lib.hid hb9; have HT9 := Lib.hid t9; clear hb9 t9))
      exact bodyPost_ret (results_cell2 6 7 rowSf HN.out (HB9.out.whole) rfl rfl) rfl ⟨_, by rw [HV.out]; rfl, HR.out.far HT9.out, HT9.out⟩
end Go.Proofs.YtlcefchbfjfifaaGreat
