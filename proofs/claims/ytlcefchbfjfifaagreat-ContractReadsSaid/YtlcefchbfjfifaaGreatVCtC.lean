/- law14.do. (written by gensz.py) contract.Put. (written by genctb.py) ref14.Put: the same bytes. (written by genctc.py) -/
import Derived.Test.YtlcefchbfjfifaaGreatVShS
import Derived.Test.YtlcefchbfjfifaaGreatVShP
import Derived.Test.YtlcefchbfjfifaaGreatVChA
import Derived.Test.YtlcefchbfjfifaaGreatVCcB
import Derived.Test.YtlcefchbfjfifaaGreatVQuillF
section
namespace Go.Proofs.YtlcefchbfjfifaaGreat
open Go.RowKit Cal Go.Maps
set_option maxHeartbeats 4000000
set_option maxRecDepth 100000
set_option linter.unusedVariables false
attribute [local irreducible] wpPlan

/-- What a call, both ways, leaves: both shelves with the same on them. -/
def DoP14 (S' : Shl) (g b1 b2 : Nat) (F R X Y : Nat → Prop) (w : World) (e : Ending) (w' : World) : Prop :=
  ∃ C' x' R' X', e = .returned (.tuple #[.agg C', .bool true]) ∧ RfS w' F S' C' ∧ ShAt w' g b1 b2 S' x' R' X' Y ∧ (∀ q, R' q → R q ∨ (w.heap.size ≤ q ∧ q < w'.heap.size)) ∧ (∀ q, X' q → X q ∨ (w.heap.size ≤ q ∧ q < w'.heap.size)) ∧ Touch (fun q => q = b1 ∨ q = b2) w w'
theorem setAll_wholeS {C L : Array Value} (h : C.size = L.size) : setAll C 0 L.toList = L := by
  apply Array.ext_getElem?
  intro i
  rw [setAll_getS _ _ _ (by simp; omega)]
  by_cases h1 : 0 ≤ i ∧ i < 0 + L.toList.length
  · rw [if_pos h1]; simp
  · rw [if_neg h1]
    have h2 : C.size ≤ i := by simp at h1; omega
    have h3 : L.size ≤ i := by omega
    simp [h2, h3]
def SOpV.step (o : SOpV) (S : Shl) : Shl := if o.sg = true then S.sigS o.n o.d else S.layS o.n o.c
theorem do14_sign {w : World} {g b1 b2 : Nat} {S : Shl} {x : Int → Nat} {R X Y : Nat → Prop} (h : ShAt w g b1 b2 S x R X Y) (F : Nat → Prop) (C : Array Value) (hr : RfS w F S C) (o : SOpV) (hs : o.sg = true) (hn : inN o.n) (ho : SpR w F o.D o.d.lv.length o.d.lv) (hF : ∀ q, F q → q ≠ b1 ∧ q ≠ b2) (hFl : ∀ q, F q → q < w.heap.size) :
    Calls Tryz.prog 24 #[.pointer (some ⟨g, 0, none⟩), .agg C, .agg o.arr] w (DoP14 (o.step S) g b1 b2 F R X Y w) := by
  rw [show o.step S = S.sigS o.n o.d by rw [SOpV.step, hs]; rfl]
  have HW := Lib.hid (SfW.new w 53 C o.arr)
  have k0 := HW.out.k.cell 0
  have k1 := HW.out.k.cell 1
  rw [show o.arr[0]? = some (.bool true) by rw [← hs]; rfl] at k0
  rw [show o.arr[1]? = some (.int .i64 o.n) from rfl] at k1
  have HEd := Lib.hid o.ex_d
  have HXn := Lib.hid (show (conA o.d o.D o.q).size = 4 from rfl)
  have HN := Lib.hid hr.n
  have HFs := Lib.hid (fun w1 (t : Touch (fun _ => False) w w1) => fsign_any F S C w1 (hr.far t) o.n hn o.d o.D o.q (ho.touch t (fun _ _ e => e)))
  unfold RfP at HFs
  have HPs := Lib.hid (fun w1 (t : Touch (fun _ => False) w w1) => hsign_any (h.far t) o.n hn F o.D o.q o.d (ho.touch t (fun _ _ e => e)))
  have HFb := Lib.hid hF
  have HK1 := Lib.hid (show o.arr[1]? = some (.int .i64 o.n) from rfl)
  have HLt := Lib.hid h.lt
  have HFl := Lib.hid hFl
  have hgl := h.gl
  have hl1 := h.m1.lt
  have hl2 := h.m2.lt
  have hne := h.ne
  obtain ⟨P, hP⟩ : ∃ P, P = DoP14 (S.sigS o.n o.d) g b1 b2 F R X Y w := ⟨_, rfl⟩
  rw [← hP]
  have HP := Lib.hid hP
  generalize hE : sigE S o.n o.d = E at *
  generalize hS2 : S.sigS o.n o.d = S2 at *
  generalize conA o.d o.D o.q = X4 at *
  have hon : o.n = o.n := rfl
  generalize o.n = n at *
  generalize o.arr = OC at *
  clear h hr hs ho hF hP hE hS2 hon hFl
  go_enter Tryz.func24, Tryz.ntmps24
  go_wp2_with (first
    | ((with_reducible apply HW.out.load HN.out); exact rfl; exact rfl; exact rfl)
    | ((with_reducible apply HW.out.k.lpS (k := 5) rowCo HXn.out HEd.out); exact rfl; exact rfl; exact rfl)
    | (go_at_call 50; go_must (refine (HFs.out _ (by exact HW.out.t)).mono ?_); rintro e w1 ⟨C1, rfl, hr1, t1⟩
       have HW1 := Lib.hid (HW.out.none_ t1)
       have HTB1 := Lib.hid t1
       have HR1 := Lib.hid hr1
       have HN1 := Lib.hid hr1.n
       have H11 := Lib.hid hr1.one
       have HNb := Lib.hid (Blk.new w1 62 Tryz.zeroCells62)
       clear t1 hr1)
    | ((with_reducible apply HNb.out.st rowSf zSf HN1.out H11.out); exact rfl; exact rfl; exact rfl; exact rfl
       intro w2 hb2 t2
       have HB2 := Lib.hid hb2
       have HT2 := Lib.hid (((Touch.refl (fun _ => False) w1).alloc (.cells Tryz.zeroCells62 62)).trans t2 (S := fun _ => False) (fun q hq e => by omega))
       clear hb2 t2))
  have hzB : w.heap.size + 3 ≤ (((w.alloc (.cells C 62)).alloc (.cells OC 53)).alloc (.cells Tryz.zeroCells62 62)).heap.size := by simp
  obtain ⟨W3, hW3⟩ : ∃ W3, W3 = w2.drew := ⟨_, rfl⟩
  have HT3 := Lib.hid (show Touch (fun _ => False) w1 W3 from hW3 ▸ HT2.out.drew)
  have HW3 := Lib.hid (HW1.out.none_ HT3.out)
  have HB3 := Lib.hid (show Blk W3 w1.heap.size 62 C1 from hW3 ▸ (Touch.refl (fun _ => False) w2).drew.blk HB2.out (fun e => e))
  have HR3 := Lib.hid (HR1.out.far HT3.out)
  have hzz : w.heap.size + 3 ≤ w1.heap.size := by have := HTB1.out.size; omega
  clear k0 k1
  have k1 := HW3.out.k.cell 1
  rw [show OC[1]? = some (.int .i64 n) from HK1.out] at k1
  refine wp_region_plan [(0, 1), (0, 2), (0, 3), (0, 4), (1, 5), (1, 0), (1, 7), (2, 6), (1, 8), (2, 9), (0, 10)] (fun q => (q = b1 ∨ q = b2) ∨ q = w.heap.size + 2) (by kernel_rfl) (by kernel_rfl) (fun c a d v w h => by cases d <;> exact h) ?_
  rw [← hW3]
  clear hW3
  iterate 4
    refine plan_s1 rfl (by rfl) (fun Kc hKc => ?_)
    go_simp
    first
      | (refine hKc _ ?_)
    clear hKc Kc
  refine plan_hC rowCo rfl _ rfl rfl (w.heap.size + 1) 5 rfl X4 HXn.out (fun wh hT => by
    have := (hT.blk HW3.out.k (fun e => by omega)).range 5 4
    rw [HEd.out] at this; exact this) ?_
  go_simp
  refine plan_hC rowSf rfl _ rfl rfl w1.heap.size 0 rfl C1 HN1.out (fun wh hT => (hT.blk HB3.out (fun e => by omega)).whole) ?_
  go_simp
  iterate 1
    apply plan_h
    · rfl
    · rfl
    · intro wh hT
      go_simp
      try rfl
    go_frame
  clear k1
  refine plan_a1 rfl (by rfl) (fun Kc hKc => ?_)
  go_simp
  refine (HPs.out _ (by exact HW3.out.t)).mono ?_
  rintro e w5 ⟨x5, R5, X5, rfl, hs5, hR5, hX5, t5⟩
  refine hKc _ _ ⟨t5.mono (fun q _ e => .inl (Or.inr e)), ?_⟩
  clear hKc Kc
  have HS5 := Lib.hid hs5
  have HG5 := Lib.hid (And.intro hR5 hX5)
  have HT5 := Lib.hid (t5.mono (S' := fun q => q = b1 ∨ q = b2) (fun q _ e => Or.inr e))
  have hz5 := t5.size
  have HR5 := Lib.hid (HR3.out.touch t5 (fun q hq e => (HFb.out q hq).2 e))
  obtain ⟨Z, hZ, hZb⟩ := HW3.out.zz
  have HZ5 := Lib.hid (t5.blk hZb (by omega))
  have HZn := Lib.hid hZ
  clear hs5 hR5 hX5 t5 hZ hZb
  have hbe : (E == E) = true := by simp
  iterate 1
    apply plan_h
    · rfl
    · rfl
    · intro wh hT
      go_simp
      try rfl
    go_frame
  refine plan_aM rowSf rfl rfl _ _ rfl (w.heap.size + 2) 0 rfl C1 rfl _ Z HZ5.out (by rw [HZn.out]; omega) HN1.out H11.out (.inr rfl) ?_
  intro w6 hb6 t6 _
  rw [setAll_wholeS (by rw [HZn.out, HN1.out])] at hb6
  have HB6 := Lib.hid hb6
  have HT6 := Lib.hid t6
  clear hb6 t6
  go_frame
  iterate 1
    refine plan_s1 rfl (by rfl) (fun Kc hKc => ?_)
    go_simp
    first
      | (refine hKc _ ?_)
    clear hKc Kc
  refine plan_done ?_
  go_wp2_with fail
  refine bodyPost_ret (results_cell2 6 7 rowSf HN1.out (HB6.out.whole) rfl rfl) rfl ?_
  rw [HP.out]
  have hz3 := HW3.out.t.size
  have hz6 := HT6.out.size
  have hz13 := HT3.out.size
  refine ⟨C1, x5, R5, X5, by simp, HR5.out.touch HT6.out (fun q hq e => by have := HFl.out q hq; omega), HS5.out.touch HT6.out (by omega) (by omega) (by omega) (fun q hq e => ?_), fun q hq => ?_, fun q hq => ?_, ((HW3.out.t.mono (S' := fun q => q = b1 ∨ q = b2) (fun _ _ e => e.elim)).trans HT5.out (fun _ _ e => e)).trans HT6.out (fun q hq e => by omega)⟩
  · rcases hq with hq | hq | hq
    · rcases HG5.out.1 q hq with h1 | h1
      · have := HLt.out q (.inl h1); omega
      · omega
    · rcases HG5.out.2 q hq with h1 | h1
      · have := HLt.out q (.inr (.inl h1)); omega
      · omega
    · have := HLt.out q (.inr (.inr hq)); omega
  · rcases HG5.out.1 q hq with h1 | h1
    · exact .inl h1
    · exact .inr (by omega)
  · rcases HG5.out.2 q hq with h1 | h1
    · exact .inl h1
    · exact .inr (by omega)
theorem do14_lay {w : World} {g b1 b2 : Nat} {S : Shl} {x : Int → Nat} {R X Y : Nat → Prop} (h : ShAt w g b1 b2 S x R X Y) (F : Nat → Prop) (C : Array Value) (hr : RfS w F S C) (o : SOpV) (hs : o.sg = false) (hn : inN o.n) (ho : CaR w F o.c o.A o.B) (h1 : o.c.wk.length ≤ 1000000) (h2 : o.c.cl.length ≤ 1000000) (hF : ∀ q, F q → q ≠ b1 ∧ q ≠ b2) (hFl : ∀ q, F q → q < w.heap.size) :
    Calls Tryz.prog 24 #[.pointer (some ⟨g, 0, none⟩), .agg C, .agg o.arr] w (DoP14 (o.step S) g b1 b2 F R X Y w) := by
  rw [show o.step S = S.layS o.n o.c by rw [SOpV.step, hs]; rfl]
  have HW := Lib.hid (SfW.new w 53 C o.arr)
  have k0 := HW.out.k.cell 0
  have k1 := HW.out.k.cell 1
  rw [show o.arr[0]? = some (.bool false) by rw [← hs]; rfl] at k0
  rw [show o.arr[1]? = some (.int .i64 o.n) from rfl] at k1
  have HEd := Lib.hid o.ex_c
  have HXn := Lib.hid (show (caA o.c o.A o.B o.k o.m).size = 3 from rfl)
  have HN := Lib.hid hr.n
  have HFs := Lib.hid (fun w1 (t : Touch (fun _ => False) w w1) => flay_any F S C w1 (hr.far t) o.n hn o.c o.A o.B o.k o.m (ho.touch t (fun _ _ e => e)) h1 h2)
  unfold RfP at HFs
  have HPs := Lib.hid (fun w1 (t : Touch (fun _ => False) w w1) => hlay_any (h.far t) o.n hn F o.A o.B o.k o.m o.c (ho.touch t (fun _ _ e => e)) h1 h2)
  have HFb := Lib.hid hF
  have HK1 := Lib.hid (show o.arr[1]? = some (.int .i64 o.n) from rfl)
  have HLt := Lib.hid h.lt
  have HFl := Lib.hid hFl
  have hgl := h.gl
  have hl1 := h.m1.lt
  have hl2 := h.m2.lt
  have hne := h.ne
  obtain ⟨P, hP⟩ : ∃ P, P = DoP14 (S.layS o.n o.c) g b1 b2 F R X Y w := ⟨_, rfl⟩
  rw [← hP]
  have HP := Lib.hid hP
  generalize hE : layE S o.n o.c = E at *
  generalize hS2 : S.layS o.n o.c = S2 at *
  generalize caA o.c o.A o.B o.k o.m = X4 at *
  have hon : o.n = o.n := rfl
  generalize o.n = n at *
  generalize o.arr = OC at *
  clear h hr hs ho hF hP hE hS2 hon hFl
  go_enter Tryz.func24, Tryz.ntmps24
  go_wp2_with (first
    | ((with_reducible apply HW.out.load HN.out); exact rfl; exact rfl; exact rfl)
    | ((with_reducible apply HW.out.k.lpS (k := 2) rowCa HXn.out HEd.out); exact rfl; exact rfl; exact rfl)
    | (go_at_call 51; go_must (refine (HFs.out _ (by exact HW.out.t)).mono ?_); rintro e w1 ⟨C1, rfl, hr1, t1⟩
       have HW1 := Lib.hid (HW.out.none_ t1)
       have HTB1 := Lib.hid t1
       have HR1 := Lib.hid hr1
       have HN1 := Lib.hid hr1.n
       have H11 := Lib.hid hr1.one
       have HNb := Lib.hid (Blk.new w1 62 Tryz.zeroCells62)
       clear t1 hr1)
    | ((with_reducible apply HNb.out.st rowSf zSf HN1.out H11.out); exact rfl; exact rfl; exact rfl; exact rfl
       intro w2 hb2 t2
       have HB2 := Lib.hid hb2
       have HT2 := Lib.hid (((Touch.refl (fun _ => False) w1).alloc (.cells Tryz.zeroCells62 62)).trans t2 (S := fun _ => False) (fun q hq e => by omega))
       clear hb2 t2))
  have hzB : w.heap.size + 3 ≤ (((w.alloc (.cells C 62)).alloc (.cells OC 53)).alloc (.cells Tryz.zeroCells62 62)).heap.size := by simp
  obtain ⟨W3, hW3⟩ : ∃ W3, W3 = w2.drew := ⟨_, rfl⟩
  have HT3 := Lib.hid (show Touch (fun _ => False) w1 W3 from hW3 ▸ HT2.out.drew)
  have HW3 := Lib.hid (HW1.out.none_ HT3.out)
  have HB3 := Lib.hid (show Blk W3 w1.heap.size 62 C1 from hW3 ▸ (Touch.refl (fun _ => False) w2).drew.blk HB2.out (fun e => e))
  have HR3 := Lib.hid (HR1.out.far HT3.out)
  have hzz : w.heap.size + 3 ≤ w1.heap.size := by have := HTB1.out.size; omega
  clear k0 k1
  have k1 := HW3.out.k.cell 1
  rw [show OC[1]? = some (.int .i64 n) from HK1.out] at k1
  refine wp_region_plan [(0, 1), (0, 2), (0, 3), (0, 4), (1, 5), (1, 0), (1, 7), (2, 6), (1, 8), (2, 9), (0, 10)] (fun q => (q = b1 ∨ q = b2) ∨ q = w.heap.size + 2) (by kernel_rfl) (by kernel_rfl) (fun c a d v w h => by cases d <;> exact h) ?_
  rw [← hW3]
  clear hW3
  iterate 4
    refine plan_s1 rfl (by rfl) (fun Kc hKc => ?_)
    go_simp
    first
      | (refine hKc _ ?_)
    clear hKc Kc
  refine plan_hC rowCa rfl _ rfl rfl (w.heap.size + 1) 2 rfl X4 HXn.out (fun wh hT => by
    have := (hT.blk HW3.out.k (fun e => by omega)).range 2 3
    rw [HEd.out] at this; exact this) ?_
  go_simp
  refine plan_hC rowSf rfl _ rfl rfl w1.heap.size 0 rfl C1 HN1.out (fun wh hT => (hT.blk HB3.out (fun e => by omega)).whole) ?_
  go_simp
  iterate 1
    apply plan_h
    · rfl
    · rfl
    · intro wh hT
      go_simp
      try rfl
    go_frame
  clear k1
  refine plan_a1 rfl (by rfl) (fun Kc hKc => ?_)
  go_simp
  refine (HPs.out _ (by exact HW3.out.t)).mono ?_
  rintro e w5 ⟨x5, R5, X5, rfl, hs5, hR5, hX5, t5⟩
  refine hKc _ _ ⟨t5.mono (fun q _ e => .inl (Or.inl e)), ?_⟩
  clear hKc Kc
  have HS5 := Lib.hid hs5
  have HG5 := Lib.hid (And.intro hR5 hX5)
  have HT5 := Lib.hid (t5.mono (S' := fun q => q = b1 ∨ q = b2) (fun q _ e => Or.inl e))
  have hz5 := t5.size
  have HR5 := Lib.hid (HR3.out.touch t5 (fun q hq e => (HFb.out q hq).1 e))
  obtain ⟨Z, hZ, hZb⟩ := HW3.out.zz
  have HZ5 := Lib.hid (t5.blk hZb (by omega))
  have HZn := Lib.hid hZ
  clear hs5 hR5 hX5 t5 hZ hZb
  have hbe : (E == E) = true := by simp
  iterate 1
    apply plan_h
    · rfl
    · rfl
    · intro wh hT
      go_simp
      try rfl
    go_frame
  refine plan_aM rowSf rfl rfl _ _ rfl (w.heap.size + 2) 0 rfl C1 rfl _ Z HZ5.out (by rw [HZn.out]; omega) HN1.out H11.out (.inr rfl) ?_
  intro w6 hb6 t6 _
  rw [setAll_wholeS (by rw [HZn.out, HN1.out])] at hb6
  have HB6 := Lib.hid hb6
  have HT6 := Lib.hid t6
  clear hb6 t6
  go_frame
  iterate 1
    refine plan_s1 rfl (by rfl) (fun Kc hKc => ?_)
    go_simp
    first
      | (refine hKc _ ?_)
    clear hKc Kc
  refine plan_done ?_
  go_wp2_with fail
  refine bodyPost_ret (results_cell2 6 7 rowSf HN1.out (HB6.out.whole) rfl rfl) rfl ?_
  rw [HP.out]
  have hz3 := HW3.out.t.size
  have hz6 := HT6.out.size
  have hz13 := HT3.out.size
  refine ⟨C1, x5, R5, X5, by simp, HR5.out.touch HT6.out (fun q hq e => by have := HFl.out q hq; omega), HS5.out.touch HT6.out (by omega) (by omega) (by omega) (fun q hq e => ?_), fun q hq => ?_, fun q hq => ?_, ((HW3.out.t.mono (S' := fun q => q = b1 ∨ q = b2) (fun _ _ e => e.elim)).trans HT5.out (fun _ _ e => e)).trans HT6.out (fun q hq e => by omega)⟩
  · rcases hq with hq | hq | hq
    · rcases HG5.out.1 q hq with h1 | h1
      · have := HLt.out q (.inl h1); omega
      · omega
    · rcases HG5.out.2 q hq with h1 | h1
      · have := HLt.out q (.inr (.inl h1)); omega
      · omega
    · have := HLt.out q (.inr (.inr hq)); omega
  · rcases HG5.out.1 q hq with h1 | h1
    · exact .inl h1
    · exact .inr (by omega)
  · rcases HG5.out.2 q hq with h1 | h1
    · exact .inl h1
    · exact .inr (by omega)
theorem do14_any {w : World} {g b1 b2 : Nat} {S : Shl} {x : Int → Nat} {R X Y : Nat → Prop} (h : ShAt w g b1 b2 S x R X Y) (F : Nat → Prop) (C : Array Value) (hr : RfS w F S C) (o : SOpV) (hn : inN o.n) (hc : CaR w F o.c o.A o.B) (hd : SpR w F o.D o.d.lv.length o.d.lv) (h1 : o.c.wk.length ≤ 1000000) (h2 : o.c.cl.length ≤ 1000000) (hF : ∀ q, F q → q ≠ b1 ∧ q ≠ b2) (hFl : ∀ q, F q → q < w.heap.size) :
    Calls Tryz.prog 24 #[.pointer (some ⟨g, 0, none⟩), .agg C, .agg o.arr] w (DoP14 (o.step S) g b1 b2 F R X Y w) := by
  cases hs : o.sg
  · exact do14_lay h F C hr o hs hn hc h1 h2 hF hFl
  · exact do14_sign h F C hr o hs hn hd hF hFl
end Go.Proofs.YtlcefchbfjfifaaGreat
end

section
namespace Go.Proofs.YtlcefchbfjfifaaGreat
open Go.RowKit Cal
set_option maxHeartbeats 4000000
set_option maxRecDepth 100000
set_option linter.unusedVariables false
attribute [local irreducible] wpPlan

/-- A contract's bytes. -/
def encK (c : Co) : List UInt8 := encs [c.cal.toNat, c.lv.length] ++ encSps c.lv ++ encs [c.rt.toNat, c.bk.toNat]
theorem encK_len (c : Co) (h : c.lv.length ≤ 60) : (encK c).length ≤ 36 + 18 * c.lv.length := by
  have e1 := encs_len [c.cal.toNat, c.lv.length]; have e2 := encSps_len c.lv; have e3 := encs_len [c.rt.toNat, c.bk.toNat]
  simp [encK] at *; omega
theorem kput_any (g : Nat) (r : Option Nat) (l : List UInt8) (c : Co) (F : Nat → Prop) (A : Option Addr) (n : Nat) (w : World) (h : WAt w g r l) (hr : SpR w F A c.lv.length c.lv) (hF : ∀ q, F q → q ≠ g ∧ r ≠ some q) (hgd : goodB c = true) (hsm : l.length ≤ 50000) :
    Calls Tryz.prog 14 #[.pointer (some ⟨g, 0, none⟩), .agg #[.int .i64 c.cal, .slice A c.lv.length n, .int .i64 c.rt, .int .i64 c.bk]] w (WPost w g r (l ++ encK c)) := by
  have hgl := h.lt
  have hrl := h.ltr
  obtain ⟨b1, b2, b3, b4, b5, b6, b7, b8⟩ := good_hd hgd
  have HBd := Lib.hid (good_lv hgd)
  have HEk := Lib.hid (show encK c = encs [c.cal.toNat, c.lv.length] ++ encSps c.lv ++ encs [c.rt.toNat, c.bk.toNat] from rfl)
  have t0 := (Touch.refl (fun _ => False) w).alloc (.cells #[.int .i64 c.cal, .slice A c.lv.length n, .int .i64 c.rt, .int .i64 c.bk] 24)
  have HT0 := Lib.hid t0
  have HBx := Lib.hid (Blk.new w 24 #[.int .i64 c.cal, .slice A c.lv.length n, .int .i64 c.rt, .int .i64 c.bk])
  have HG := Lib.hid (show WGo (w.alloc (.cells #[.int .i64 c.cal, .slice A c.lv.length n, .int .i64 c.rt, .int .i64 c.bk] 24)) g r l _ from WGo.start (h.touch t0 (fun e => e) (fun _ _ e => e)))
  have HR := Lib.hid (hr.touch t0 (fun _ _ e => e))
  have hg1 : w.heap.size ≠ g := by omega
  have hr1 : r ≠ some w.heap.size := fun e => by have := hrl _ e; omega
  have HF := Lib.hid hF
  generalize encK c = E at *
  obtain ⟨cal, lv, rt, bk⟩ := c
  simp only at *
  obtain ⟨cal, rfl⟩ : ∃ k : Nat, cal = (k : Int) := ⟨cal.toNat, by omega⟩
  obtain ⟨rt, rfl⟩ : ∃ k : Nat, rt = (k : Int) := ⟨rt.toNat, by omega⟩
  obtain ⟨bk, rfl⟩ : ∃ k : Nat, bk = (k : Int) := ⟨bk.toNat, by omega⟩
  simp only [Int.toNat_natCast] at HEk
  clear h hr hF t0 hrl hgd
  have hcv : IntKind.u64.wrap ((lv.length : Nat) : Int) = ((lv.length : Nat) : Int) := IntWalk.u64_in _ (by omega)
  have hcc : IntKind.u64.wrap ((cal : Nat) : Int) = ((cal : Nat) : Int) := IntWalk.u64_in _ (by omega)
  go_enter Tryz.func14, Tryz.ntmps14
  go_wp2_with (go_at_call 41; go_must (refine (wnum_lit HG.out [cal, lv.length] _ (by simp) _ rfl 2 2 rfl (fun n hn => by simp at hn; omega) (by simp; omega)).mono ?_); rintro e w1 ⟨rfl, g1⟩; have HG1 := Lib.hid g1; have hbx := g1.blk HBx.out hg1 hr1; have q1 := hbx.cell 1; simp at q1; clear g1 hbx)
  clear q1 hcv hcc
  go_loopw [19] (fun i wr => ∃ q : Nat, q ≤ lv.length ∧ i = .int .i64 q ∧ WGo (w.alloc (.cells #[.int .i64 (cal : Int), .slice A lv.length n, .int .i64 (rt : Int), .int .i64 (bk : Int)] 24)) g r (l ++ encs [cal, lv.length] ++ encSps (lv.take q)) wr) (fun i _ => lv.length - (intOf i).toNat)
  case atStart => exact ⟨0, by omega, rfl, by simpa [encSps] using HG1.out⟩
  case round =>
    obtain ⟨q, hq, rfl, hG3⟩ := hrel
    have HG3 := Lib.hid hG3
    by_cases hqk : q < lv.length
    · have ha : lv[q]? = some (lv[q]'hqk) := List.getElem?_eq_getElem _
      obtain ⟨gb, off, e0, hgb, -, hc0, hc1⟩ := (HR.out.go hG3 HF.out).at_ ha
      have hbs := HBd.out _ (List.getElem_mem hqk)
      have HTk := Lib.hid (encSps_take lv q _ ha)
      have hl2 := encSps_len (lv.take q)
      have hl3 : (lv.take q).length ≤ 6 := by simp; omega
      generalize lv[q]'hqk = s at *
      obtain ⟨f, t⟩ := s
      simp only at hc0 hc1 hbs HTk
      obtain ⟨c1, c2, c3, c4⟩ := hbs
      obtain ⟨f, rfl⟩ : ∃ f' : Nat, f = (f' : Int) := ⟨f.toNat, by omega⟩
      obtain ⟨t, rfl⟩ : ∃ t' : Nat, t = (t' : Int) := ⟨t.toNat, by omega⟩
      have hcf : IntKind.u64.wrap ((f : Nat) : Int) = (f : Int) := IntWalk.u64_in _ (by omega)
      have hct : IntKind.u64.wrap ((t : Nat) : Int) = (t : Int) := IntWalk.u64_in _ (by omega)
      obtain ⟨Y, hY⟩ : ∃ Y, Y = l ++ encs [cal, lv.length] ++ encSps (lv.take q) := ⟨_, rfl⟩
      have hYl : Y.length ≤ 60000 := by
        have e1 := encs_len [cal, lv.length]
        rw [hY]; simp at e1 ⊢; simp at hl2; omega
      have HYe := Lib.hid hY
      rw [← hY] at HG3 hG3
      have HG3 := Lib.hid (hG3.far ((Touch.refl (fun _ => False) wr).alloc (.cells #[.int .i64 (f : Int), .int .i64 (t : Int)] 68)))
      clear hY ha hl2 hl3 hG3 HBx HG1 HG
      subst_eqs
      go_wp2_with (go_at_call 41; go_must (refine (wnum_lit HG3.out [f, t] _ (by simp) _ rfl 2 2 rfl (fun n hn => by simp at hn; omega) (by simp; omega)).mono ?_); rintro e w4 ⟨rfl, g4⟩; have HG4 := Lib.hid g4; clear g4)
      go_roundw
      case rel => exact ⟨q + 1, by omega, by go_num, by rw [HTk.out]; have := HG4.out; rw [HYe.out] at this; simpa [encS2] using this⟩
      case measure => simp [intOf]; omega
    · obtain rfl : q = lv.length := by omega
      have hG4 := hG3
      rw [List.take_length] at hG4
      obtain ⟨Y, hY⟩ : ∃ Y, Y = l ++ encs [cal, lv.length] ++ encSps lv := ⟨_, rfl⟩
      have hYl : Y.length ≤ 60000 := by
        have e1 := encs_len [cal, lv.length]
        have e2 := encSps_len lv
        rw [hY]; simp at e1 ⊢; omega
      have HYe := Lib.hid hY
      rw [← hY] at hG4
      have HG4 := Lib.hid hG4
      have hbx := hG4.blk HBx.out hg1 hr1
      have q2 := hbx.cell 2; have q3 := hbx.cell 3
      simp at q2 q3
      have hcr : IntKind.u64.wrap ((rt : Nat) : Int) = ((rt : Nat) : Int) := IntWalk.u64_in _ (by omega)
      have hcb : IntKind.u64.wrap ((bk : Nat) : Int) = ((bk : Nat) : Int) := IntWalk.u64_in _ (by omega)
      clear hG3 hG4 hbx HG3 hY HG1 HG
      go_wp2_with (go_at_call 41; go_must (refine (wnum_lit HG4.out [rt, bk] _ (by simp) _ rfl 2 2 rfl (fun n hn => by simp at hn; omega) (by simp; omega)).mono ?_); rintro e w5 ⟨rfl, g5⟩; have HG5 := Lib.hid g5; clear g5)
      go_end0
      have hG := HG5.out
      rw [HYe.out] at hG
      exact ⟨rfl, WGo.next (HT0.out.mono (fun _ _ e => e.elim)) (.inl rfl) (by rw [HEk.out]; simpa using hG)⟩
end Go.Proofs.YtlcefchbfjfifaaGreat
end

section
namespace Go.Proofs.YtlcefchbfjfifaaGreat
open Go.RowKit Cal
set_option maxHeartbeats 4000000
set_option maxRecDepth 100000
set_option linter.unusedVariables false
attribute [local irreducible] wpPlan

theorem fputk_any (c : Co) (F : Nat → Prop) (A : Option Addr) (n : Nat) (w : World) (hr : SpR w F A c.lv.length c.lv) (hgd : goodB c = true) :
    Calls Tryz.prog 18 #[.agg #[.int .i64 c.cal, .slice A c.lv.length n, .int .i64 c.rt, .int .i64 c.bk]] w (NewOwn w (encK c)) := by
  obtain ⟨b1, b2, b3, b4, b5, b6, b7, b8⟩ := good_hd hgd
  have HBd := Lib.hid (good_lv hgd)
  have HEk := Lib.hid (show encK c = encs [c.cal.toNat, c.lv.length] ++ encSps c.lv ++ encs [c.rt.toNat, c.bk.toNat] from rfl)
  have HT0 := Lib.hid ((Touch.refl (fun _ => False) w).alloc (.cells #[.int .i64 c.cal, .slice A c.lv.length n, .int .i64 c.rt, .int .i64 c.bk] 24))
  have HB0 := Lib.hid (Blk.new w 24 #[.int .i64 c.cal, .slice A c.lv.length n, .int .i64 c.rt, .int .i64 c.bk])
  have HR := Lib.hid (hr.touch HT0.out (fun _ _ e => e))
  have hpos : 0 < (encK c).length := by simp [encK, encs, encN]
  generalize encK c = E at *
  obtain ⟨cal, lv, rt, bk⟩ := c
  simp only at *
  obtain ⟨cal, rfl⟩ : ∃ k : Nat, cal = (k : Int) := ⟨cal.toNat, by omega⟩
  obtain ⟨rt, rfl⟩ : ∃ k : Nat, rt = (k : Int) := ⟨rt.toNat, by omega⟩
  obtain ⟨bk, rfl⟩ : ∃ k : Nat, bk = (k : Int) := ⟨bk.toNat, by omega⟩
  simp only [Int.toNat_natCast] at HEk
  have hcv : IntKind.u64.wrap ((lv.length : Nat) : Int) = ((lv.length : Nat) : Int) := IntWalk.u64_in _ (by omega)
  have hcc : IntKind.u64.wrap ((cal : Nat) : Int) = ((cal : Nat) : Int) := IntWalk.u64_in _ (by omega)
  have hl1 := encN_len 0 cal
  have hl2 := encN_len 0 lv.length
  have hl3 := encN_len 0 rt
  have hl4 := encN_len 0 bk
  have hl5 := encSps_len lv
  obtain ⟨W1, hW1⟩ : ∃ W1, W1 = (w.alloc (.cells #[.int .i64 (cal : Int), .slice A lv.length n, .int .i64 (rt : Int), .int .i64 (bk : Int)] 24)) := ⟨_, rfl⟩
  have hs1 : W1.heap.size = w.heap.size + 1 := by rw [hW1]; simp
  rw [← hW1] at HT0 HB0 HR
  have q0 := HB0.out.cell 0; have q1 := HB0.out.cell 1
  simp at q0 q1
  have HWW := Lib.hid hW1
  clear hr hgd hW1
  go_enter Tryz.func18, Tryz.ntmps18
  go_wp2_with fail
  rw [← HWW.out]
  go_wp2_with (first
    | (at_builtin; have HM9 := HX3; go_must (refine own_append_list rfl _ _ rfl _ _ _ _ rfl rfl HM3.out HX3.out (by (try simp); omega) ?_); intro v4 w4 h3 t3; have HM4 := Lib.hid h3; clear h3 t3)
    | (go_at_call 46; have HM9 := HM2; go_must (refine (fnum_any lv.length _ (by omega)).mono ?_); rintro e w3 h2; have hm2 := HM2.out.far h2.touch; obtain ⟨x3, rfl, hx2⟩ := OwnX.of (Touch.refl _ _) h2; have HM3 := Lib.hid hm2; have HX3 := Lib.hid hx2; clear h2 hm2 hx2)
    | (go_at_call 46; go_must (refine (fnum_any cal _ (by omega)).mono ?_); rintro e w2 h2; obtain ⟨x2, rfl, hx2⟩ := OwnX.of (Touch.refl _ _) h2; have hb2 := hx2.blk HB0.out; have HM2 := Lib.hid hx2; clear q0 q1; have q1 := hb2.cell 1; simp at q1; clear h2 hx2 hb2))
  clear q1 hcv hcc
  go_loopw [3, 4] (fun b i wr => ∃ j : Nat, j ≤ lv.length ∧ i = .int .i64 j ∧ OwnX W1 wr (encN 0 cal ++ encN 0 lv.length ++ encSps (lv.take j)) b) (fun _ i _ => lv.length - (intOf i).toNat)
  case atStart => exact ⟨0, by omega, rfl, by simpa [encSps] using HM4.out⟩
  case round =>
    obtain ⟨j, hj, rfl, hM⟩ := hrel
    have HM := Lib.hid hM
    have hbw := hM.blk HB0.out
    have y1 := hbw.cell 1; have y2 := hbw.cell 2; have y3 := hbw.cell 3
    simp at y1 y2 y3
    clear HM2 HM3 HX3 HM4
    by_cases hjk : j < lv.length
    · have ha : lv[j]? = some (lv[j]'hjk) := List.getElem?_eq_getElem _
      obtain ⟨gb, off, rfl, hgb, -, hc0, hc1⟩ := HR.out.at_ ha
      have hbs := HBd.out _ (List.getElem_mem hjk)
      have HTk := Lib.hid (encSps_take lv j _ ha)
      have hl2' := encSps_len (lv.take j)
      have hl3' : (lv.take j).length ≤ 6 := by simp; omega
      generalize lv[j]'hjk = s at *
      obtain ⟨f, t⟩ := s
      simp only at hc0 hc1 hbs HTk
      obtain ⟨c1, c2, c3, c4⟩ := hbs
      obtain ⟨f, rfl⟩ : ∃ f' : Nat, f = (f' : Int) := ⟨f.toNat, by omega⟩
      obtain ⟨t, rfl⟩ : ∃ t' : Nat, t = (t' : Int) := ⟨t.toNat, by omega⟩
      have hcf : IntKind.u64.wrap ((f : Nat) : Int) = (f : Int) := IntWalk.u64_in _ (by omega)
      have hct : IntKind.u64.wrap ((t : Nat) : Int) = (t : Int) := IntWalk.u64_in _ (by omega)
      have hl4' := encN_len 0 f
      have hl5' := encN_len 0 t
      have z0 := (hM.touch.cell (p := ⟨gb, off + j * 2, none⟩) hgb (fun e => e)).trans hc0
      clear ha hbw hM
      go_wp2_with (first
          | (at_builtin; have HM9 := HX7; go_must (refine own_append_list rfl _ _ rfl _ _ _ _ rfl rfl HM7.out HX7.out (by (try simp); omega) ?_); intro v8 w8 h3 t3; have HM8 := Lib.hid h3; clear h3 t3)
          | (go_at_call 46; have HM9 := HM6; go_must (refine (fnum_any t _ (by omega)).mono ?_); rintro e w7 h2; have hm2 := HM6.out.far h2.touch; obtain ⟨x7, rfl, hx2⟩ := OwnX.of (Touch.refl _ _) h2; have HM7 := Lib.hid hm2; have HX7 := Lib.hid hx2; clear h2 hm2 hx2)
          | (at_builtin
             have HM9 := HX5
             go_must (refine own_append_list rfl _ _ rfl _ _ _ _ rfl rfl HM5.out HX5.out (by simp; omega) ?_)
             intro v6 w6 h3 t3
             have HM6 := Lib.hid h3
             have hb6 := h3.blk HB0.out
             clear z0 y1 y2 y3
             have y1 := hb6.cell 1
             simp at y1
             have z1 := (h3.touch.cell (p := ⟨gb, off + j * 2 + 1, none⟩) hgb (fun e => e)).trans hc1
             clear h3 t3 hb6)
          | (go_at_call 46; have HM9 := HM; go_must (refine (fnum_any f _ (by omega)).mono ?_); rintro e w5 h2; have hm2 := HM.out.far h2.touch; obtain ⟨x5, rfl, hx2⟩ := OwnX.of (Touch.refl _ _) h2; have HM5 := Lib.hid hm2; have HX5 := Lib.hid hx2; clear h2 hm2 hx2))
      go_roundw
      case rel => exact ⟨j + 1, by omega, by go_num, by rw [HTk.out]; have := HM8.out; simpa [encS2, encs] using this⟩
      case measure => simp [intOf]; omega
    · obtain rfl : j = lv.length := by omega
      have hm0 := HM.out
      rw [List.take_length] at hm0
      have HM10 := Lib.hid hm0
      have hcr : IntKind.u64.wrap ((rt : Nat) : Int) = ((rt : Nat) : Int) := IntWalk.u64_in _ (by omega)
      have hcb : IntKind.u64.wrap ((bk : Nat) : Int) = ((bk : Nat) : Int) := IntWalk.u64_in _ (by omega)
      clear hm0 hbw hM
      go_wp2_with (first
          | (at_builtin; have HM9 := HX13; go_must (refine own_append_list rfl _ _ rfl _ _ _ _ rfl rfl HM13.out HX13.out (by (try simp); omega) ?_); intro v14 w14 h3 t3; have HM14 := Lib.hid h3; clear h3 t3)
          | (go_at_call 46; have HM9 := HM12; go_must (refine (fnum_any bk _ (by omega)).mono ?_); rintro e w13 h2; have hm2 := HM12.out.far h2.touch; obtain ⟨x13, rfl, hx2⟩ := OwnX.of (Touch.refl _ _) h2; have HM13 := Lib.hid hm2; have HX13 := Lib.hid hx2; clear h2 hm2 hx2)
          | (at_builtin
             have HM9 := HX11
             go_must (refine own_append_list rfl _ _ rfl _ _ _ _ rfl rfl HM11.out HX11.out (by simp; omega) ?_)
             intro v12 w12 h3 t3
             have HM12 := Lib.hid h3
             have hb6 := h3.blk HB0.out
             clear y1 y2 y3
             have y3 := hb6.cell 3
             simp at y3
             clear h3 t3 hb6)
          | (go_at_call 46; have HM9 := HM10; go_must (refine (fnum_any rt _ (by omega)).mono ?_); rintro e w11 h2; have hm2 := HM10.out.far h2.touch; obtain ⟨x11, rfl, hx2⟩ := OwnX.of (Touch.refl _ _) h2; have HM11 := Lib.hid hm2; have HX11 := Lib.hid hx2; clear h2 hm2 hx2))
      go_ret
      exact NewOwn.before HT0.out (OwnX.new (by rw [HEk.out]; have := HM14.out; simpa [encs] using this) hpos)
end Go.Proofs.YtlcefchbfjfifaaGreat
end
