/- The reference's disk: torn. (written by genDkU.py) -/
import Derived.Test.YtpgakkpmpnebnaaVDkQ
import Derived.Test.YtpgakkpmpnebnaaVDkK
namespace Go.Proofs.Ytpgakkpmpnebnaa
open Go.RowKit Go.Maps
set_option maxHeartbeats 4000000
set_option maxRecDepth 100000
set_option linter.unusedVariables false
attribute [local irreducible] wpPlan

/-- Block g is just the cells cs; none of them is frozen (what lies behind may be). -/
def BlkU (w : World) (g : Nat) (t : TypeId) (cs : Array Value) : Prop := ∃ hi, w.heap[g]? = some (.cells cs t (cs.size, hi))
section
variable {w w' : World} {S : Nat → Prop} {g : Nat} {t : TypeId} {cs : Array Value}
theorem BlkU.cell (h : BlkU w g t cs) (i : Nat) : w.cell? ⟨g, i, none⟩ = cs[i]? := by
  obtain ⟨hi, h⟩ := h
  exact cell_of_row w g i cs t _ h
theorem BlkU.frozen (h : BlkU w g t cs) (i : Nat) (hi : i < cs.size) : w.frozen? ⟨g, i, none⟩ = false := by
  obtain ⟨hi, h⟩ := h
  simp [World.frozen?, h]
  omega
theorem BlkU.lt (h : BlkU w g t cs) : g < w.heap.size := by
  obtain ⟨hi, h⟩ := h
  exact (Array.getElem?_eq_some_iff.1 h).1
theorem BlkU.touch (h : BlkU w g t cs) (ht : Touch S w w') (hn : ¬ S g) : BlkU w' g t cs := by
  have hl := h.lt
  obtain ⟨hi, h⟩ := h
  exact ⟨hi, (ht.block g hl hn).trans h⟩
theorem BlkU.set_ (h : BlkU w g t cs) (i : Nat) (u : Value) : BlkU (w.setCell ⟨g, i, none⟩ u) g t (cs.setIfInBounds i u) := by
  obtain ⟨hi, h⟩ := h
  refine ⟨hi, ?_⟩
  simp [World.setCell, Array.getElem?_modify, h]
end
theorem conv_u (l : List UInt8) (w : World) (g : Nat) (hg : w.heap.size = g) (hl : l.length ≤ 1048576) :
    ∃ c cs w', (convert 9 88 (St l)).run Try.prog w = .ok (.slice (some ⟨g, 0, none⟩) l.length c) w' ∧ Touch (fun _ => False) w w' ∧ BlkU w' g 5 cs ∧ cs.toList.take l.length = l.map B8 ∧ l.length ≤ c ∧ c ≤ maxLen ∧ l.length ≤ cs.size ∧ w'.heap.size = g + 1 := by
  subst hg
  have hs := stSize l
  have h1 := run_bytes_of_string w 9 88 5 ⟨l.toArray⟩ Try.underlying9 Try.underlying88 Try.underlying5
  have h2 := grownCap_ge w l.length 0 5
  have h3 := grownCap_le_maxLen w l.length 0 5 (by unfold maxLen; omega)
  rw [hs] at h1
  refine ⟨_, bytesRow ⟨l.toArray⟩ (grownCap w l.length 0 5), _, h1, ((Touch.refl (fun _ => False) w).drew).alloc _, ⟨_, heap_alloc_new w.drew _⟩, ?_, h2, h3, ?_, ?_⟩
  · unfold bytesRow
    rw [Array.toList_append, List.take_append_of_le_length (by simp)]
    rw [List.take_of_length_le (by simp)]
    simp
    exact fun _ _ => rfl
  · unfold bytesRow; simp
  · simp
def FtnP (l : List UInt8) (t : Tr) (w : World) (e : Ending) (w' : World) : Prop := e = .returned (St (tornF l t)) ∧ Touch (fun _ => False) w w'
theorem ftorn_any (l : List UInt8) (t : Tr) (hk : t.keep < 65536) (ht : t.turn < 4294967296) (w : World) (hl : l.length ≤ 1048576) :
    Calls Try.prog 112 #[St l, .agg #[.int .u16 t.keep, .int .u32 t.turn]] w (FtnP l t w) := by
  obtain ⟨k, hkd⟩ : ∃ k, k = t.keep % (l.length + 1) := ⟨_, rfl⟩
  have hkl : k ≤ l.length := by have := Nat.mod_lt t.keep (show 0 < l.length + 1 by omega); omega
  have hrem : ((t.keep : Int) % ((l.length : Int) + 1)) = (k : Int) := by rw [hkd]; simp
  have hsl := st_h l k hkl
  have hs := stSize l
  have hbl : (l.take k).length = k := by rw [List.length_take]; omega
  obtain ⟨w1, hw1⟩ : ∃ w1, w1 = w.alloc (.cells #[.int .u16 t.keep, .int .u32 t.turn] 172) := ⟨_, rfl⟩
  have HT1 := Lib.hid (show Touch (fun _ => False) w w1 from hw1 ▸ (Touch.refl (fun _ => False) w).alloc _)
  have HB1 := Lib.hid (show Blk w1 w.heap.size 172 #[.int .u16 t.keep, .int .u32 t.turn] from hw1 ▸ Blk.new w _ _)
  have hs1 : w1.heap.size = w.heap.size + 1 := by rw [hw1]; simp
  obtain ⟨c, cs, w2, hcv, t2, hb2, hc2, hlc, hcm, hcs, hs2⟩ := conv_u (l.take k) w1 _ hs1 (by omega)
  rw [hbl] at hcv hc2 hlc hcs
  rw [hw1] at hcv
  have HT2 := Lib.hid (HT1.out.trans t2 (fun _ _ e => e))
  have HY := Lib.hid (t2.blk HB1.out (fun e => e))
  have HB2 := Lib.hid (And.intro hb2 hc2)
  have k0 := HB1.out.cell 0
  rw [hw1] at k0
  simp at k0
  clear t2 hb2 hc2 hw1 HB1
  by_cases h3 : k < 3
  · have HV := Lib.hid (torn_none l t (by omega))
    rw [← hkd] at HV
    have hi3 : (k : Int) < 3 := by omega
    have hi4 : ¬ (3 : Int) ≤ (k : Int) := by omega
    have hrd : Rd w2 (fun _ => True) (some ⟨w.heap.size + 1, 0, none⟩) k ((l.take k).map B8) := by
      refine ⟨by rw [List.length_map, hbl], fun _ => ⟨_, 0, rfl, HB2.out.1.lt, trivial, fun j u hj => ?_⟩⟩
      rw [Nat.zero_add, HB2.out.1.cell]
      exact take_get HB2.out.2 hj
    have hst := hrd.str c
    clear hkd hrd
    go_enter Try.func112, Try.ntmps112
    go_wp2
    go_ret
    unfold FtnP
    rw [HV.out]
    exact ⟨rfl, HT2.out⟩
  · obtain ⟨pre, x0, x1, x2, hb⟩ := split3 (l.take k) (by omega)
    have HV := Lib.hid (torn_some l t pre x0 x1 x2 (by rw [← hkd, hb]))
    have hpl : k = pre.length + 3 := by rw [← hbl, hb]; simp
    have HPl := Lib.hid hpl
    have hi3 : ¬ (k : Int) < 3 := by omega
    have hi4 : (3 : Int) ≤ (k : Int) := by omega
    have hq0 : IntKind.i64.wrap ((k : Int) - 3) = (pre.length : Int) := by rw [IntWalk.i64_in _ (by omega)]; omega
    have hq1 : IntKind.i64.wrap ((k : Int) - 2) = (pre.length : Int) + 1 := by rw [IntWalk.i64_in _ (by omega)]; omega
    have hq2 : IntKind.i64.wrap ((k : Int) - 1) = (pre.length : Int) + 2 := by rw [IntWalk.i64_in _ (by omega)]; omega
    have HC0 := Lib.hid (show BlkU w2 (w.heap.size + 1) 5 cs ∧ k ≤ cs.size ∧ cs.toList.take k = (tkF pre x0 x1 x2 t.turn 0).map B8 ∧ Touch (fun q => q = w.heap.size + 1) w2 w2 from ⟨HB2.out.1, hcs, by rw [HB2.out.2, hb]; simp [tkF], Touch.refl _ _⟩)
    have hk3 : 3 ≤ k := by omega
    clear hkd hpl hcs hb
    go_enter Try.func112, Try.ntmps112
    go_wp2_with fail
    clear hcv hsl hrem hs k0
    obtain ⟨W, hW⟩ : ∃ W, W = w2.drew := ⟨_, rfl⟩
    have HTW := Lib.hid (show Touch (fun _ => False) w2 W from hW ▸ (Touch.refl _ _).drew)
    have hbW := HC0.out.1.touch HTW.out (fun e => e)
    have hyW := HTW.out.blk (HC0.out.2.2.2.blk HY.out (by omega)) (fun e => e)
    have y1 := hyW.cell 1
    simp at y1
    have z0 : W.cell? ⟨w.heap.size + 1, pre.length, none⟩ = some (.int .u8 (x0.toNat : Int)) := by
      rw [hbW.cell]
      exact take_get HC0.out.2.2.1 (by rw [List.getElem?_map]; unfold tkF; rw [List.getElem?_append_right (by omega), show pre.length - pre.length = 0 by omega]; simp [B8])
    have z1 := hbW.frozen (pre.length) (by have := HC0.out.2.1; have := HPl.out; omega)
    have hin : pre.length < k := by have := HPl.out; omega
    obtain ⟨dv, hdv, hsh⟩ : ∃ dv : Nat, dv = t.turn / 2 ^ 16 ∧ Op.shift BinOp.shr IntKind.u32 (t.turn : Int) IntKind.u64 16 = pure (.int .u32 (dv : Int)) := ⟨_, rfl, by rw [shift_shr .u32 .u64 (t.turn : Int) 16 (by omega) (by simp [IntKind.bits])]; rfl⟩
    have HDv := Lib.hid hdv
    have hxb := xor_bits x0 dv
    clear hdv
    have hin0 : (0 : Int) ≤ (pre.length : Int) := by omega
    have hin1 : (pre.length : Int) < (k : Int) := by omega
    have hin2 : Int.toNat (pre.length : Int) = pre.length := by omega
    go_wp2_with fail
    refine wp_region_plan [(0, 0), (0, 1), (0, 2), (0, 3), (0, 4), (0, 5), (0, 6), (0, 7), (0, 8), (0, 9), (0, 10), (0, 11), (0, 12), (0, 13), (2, 14)] (fun q => q = w.heap.size + 1) (by kernel_rfl) (by kernel_rfl) (fun c a d v w h => by cases d <;> exact h) ?_
    rw [← hW]
    clear hW
    iterate 14
      refine plan_s1 rfl (by rfl) (fun Kc hKc => ?_)
      go_simp
      first
        | (refine hKc _ ?_)
      clear hKc Kc
    refine plan_a1 rfl (by rfl) (fun Kc hKc => ?_)
    go_simp
    refine hKc _ _ ⟨(Touch.refl (fun q => q = w.heap.size + 1) W).set (b := w.heap.size + 1) (o := pre.length) (fun _ => rfl) _, ?_⟩
    clear hKc Kc
    refine plan_done ?_
    clear z0 z1 y1 hxb hsh hin hin0 hin1 hin2
    obtain ⟨v1, hv1⟩ : ∃ v, v = W.setCell ⟨w.heap.size + 1, pre.length, none⟩ (.int .u8 ((xor8 x0 dv).toNat : Int)) := ⟨_, rfl⟩
    have tv : Touch (fun q => q = w.heap.size + 1) W v1 := hv1 ▸ (Touch.refl (fun q => q = w.heap.size + 1) W).set (b := w.heap.size + 1) (o := pre.length) (fun _ => rfl) _
    have hb4 := hbW.set_ (pre.length) (.int .u8 ((xor8 x0 dv).toNat : Int))
    obtain ⟨cs1, hcs1⟩ : ∃ x, x = cs.setIfInBounds (pre.length) (.int .u8 ((xor8 x0 dv).toNat : Int)) := ⟨_, rfl⟩
    rw [← hv1, ← hcs1] at hb4
    have HC1 := Lib.hid (show BlkU v1 (w.heap.size + 1) 5 cs1 ∧ k ≤ cs1.size ∧ cs1.toList.take k = (tkF pre x0 x1 x2 t.turn 1).map B8 ∧ Touch (fun q => q = w.heap.size + 1) w2 v1 from by
      refine ⟨hb4, by rw [hcs1, Array.size_setIfInBounds]; exact HC0.out.2.1, ?_, (HC0.out.2.2.2.trans HTW.out (fun _ _ e => e.elim)).trans tv (fun q _ e => e)⟩
      rw [hcs1, take_set _ HC0.out.2.2.1, show ((.int .u8 ((xor8 x0 dv).toNat : Int)) : Value) = B8 (xor8 x0 dv) from rfl, ← List.map_set, HDv.out]
      congr 1
      unfold tkF
      rw [List.set_append_right _ _ (by omega), show pre.length - pre.length = 0 by omega]
      simp)
    rw [← hv1]
    clear hv1 hcs1 hb4 tv hbW hyW HDv HTW
    obtain ⟨W, hW⟩ : ∃ W, W = v1.drew := ⟨_, rfl⟩
    have HTW := Lib.hid (show Touch (fun _ => False) v1 W from hW ▸ (Touch.refl _ _).drew)
    have hbW := HC1.out.1.touch HTW.out (fun e => e)
    have hyW := HTW.out.blk (HC1.out.2.2.2.blk HY.out (by omega)) (fun e => e)
    have y1 := hyW.cell 1
    simp at y1
    have z0 : W.cell? ⟨w.heap.size + 1, pre.length + 1, none⟩ = some (.int .u8 (x1.toNat : Int)) := by
      rw [hbW.cell]
      exact take_get HC1.out.2.2.1 (by rw [List.getElem?_map]; unfold tkF; rw [List.getElem?_append_right (by omega), show pre.length + 1 - pre.length = 1 by omega]; simp [B8])
    have z1 := hbW.frozen (pre.length + 1) (by have := HC1.out.2.1; have := HPl.out; omega)
    have hin : pre.length + 1 < k := by have := HPl.out; omega
    obtain ⟨dv, hdv, hsh⟩ : ∃ dv : Nat, dv = t.turn / 2 ^ 8 ∧ Op.shift BinOp.shr IntKind.u32 (t.turn : Int) IntKind.u64 8 = pure (.int .u32 (dv : Int)) := ⟨_, rfl, by rw [shift_shr .u32 .u64 (t.turn : Int) 8 (by omega) (by simp [IntKind.bits])]; rfl⟩
    have HDv := Lib.hid hdv
    have hxb := xor_bits x1 dv
    clear hdv
    have hin0 : (0 : Int) ≤ ((pre.length : Int) + 1) := by omega
    have hin1 : ((pre.length : Int) + 1) < (k : Int) := by omega
    have hin2 : Int.toNat ((pre.length : Int) + 1) = pre.length + 1 := by omega
    go_wp2_with fail
    refine wp_region_plan [(0, 0), (0, 1), (0, 2), (0, 3), (0, 4), (0, 5), (0, 6), (0, 7), (0, 8), (0, 9), (0, 10), (0, 11), (0, 12), (0, 13), (2, 14)] (fun q => q = w.heap.size + 1) (by kernel_rfl) (by kernel_rfl) (fun c a d v w h => by cases d <;> exact h) ?_
    rw [← hW]
    clear hW
    iterate 14
      refine plan_s1 rfl (by rfl) (fun Kc hKc => ?_)
      go_simp
      first
        | (refine hKc _ ?_)
      clear hKc Kc
    refine plan_a1 rfl (by rfl) (fun Kc hKc => ?_)
    go_simp
    refine hKc _ _ ⟨(Touch.refl (fun q => q = w.heap.size + 1) W).set (b := w.heap.size + 1) (o := pre.length + 1) (fun _ => rfl) _, ?_⟩
    clear hKc Kc
    refine plan_done ?_
    clear z0 z1 y1 hxb hsh hin hin0 hin1 hin2
    obtain ⟨v2, hv2⟩ : ∃ v, v = W.setCell ⟨w.heap.size + 1, pre.length + 1, none⟩ (.int .u8 ((xor8 x1 dv).toNat : Int)) := ⟨_, rfl⟩
    have tv : Touch (fun q => q = w.heap.size + 1) W v2 := hv2 ▸ (Touch.refl (fun q => q = w.heap.size + 1) W).set (b := w.heap.size + 1) (o := pre.length + 1) (fun _ => rfl) _
    have hb4 := hbW.set_ (pre.length + 1) (.int .u8 ((xor8 x1 dv).toNat : Int))
    obtain ⟨cs2, hcs2⟩ : ∃ x, x = cs1.setIfInBounds (pre.length + 1) (.int .u8 ((xor8 x1 dv).toNat : Int)) := ⟨_, rfl⟩
    rw [← hv2, ← hcs2] at hb4
    have HC2 := Lib.hid (show BlkU v2 (w.heap.size + 1) 5 cs2 ∧ k ≤ cs2.size ∧ cs2.toList.take k = (tkF pre x0 x1 x2 t.turn 2).map B8 ∧ Touch (fun q => q = w.heap.size + 1) w2 v2 from by
      refine ⟨hb4, by rw [hcs2, Array.size_setIfInBounds]; exact HC1.out.2.1, ?_, (HC1.out.2.2.2.trans HTW.out (fun _ _ e => e.elim)).trans tv (fun q _ e => e)⟩
      rw [hcs2, take_set _ HC1.out.2.2.1, show ((.int .u8 ((xor8 x1 dv).toNat : Int)) : Value) = B8 (xor8 x1 dv) from rfl, ← List.map_set, HDv.out]
      congr 1
      unfold tkF
      rw [List.set_append_right _ _ (by omega), show pre.length + 1 - pre.length = 1 by omega]
      simp)
    rw [← hv2]
    clear hv2 hcs2 hb4 tv hbW hyW HDv HTW
    obtain ⟨W, hW⟩ : ∃ W, W = v2.drew := ⟨_, rfl⟩
    have HTW := Lib.hid (show Touch (fun _ => False) v2 W from hW ▸ (Touch.refl _ _).drew)
    have hbW := HC2.out.1.touch HTW.out (fun e => e)
    have hyW := HTW.out.blk (HC2.out.2.2.2.blk HY.out (by omega)) (fun e => e)
    have y1 := hyW.cell 1
    simp at y1
    have z0 : W.cell? ⟨w.heap.size + 1, pre.length + 2, none⟩ = some (.int .u8 (x2.toNat : Int)) := by
      rw [hbW.cell]
      exact take_get HC2.out.2.2.1 (by rw [List.getElem?_map]; unfold tkF; rw [List.getElem?_append_right (by omega), show pre.length + 2 - pre.length = 2 by omega]; simp [B8])
    have z1 := hbW.frozen (pre.length + 2) (by have := HC2.out.2.1; have := HPl.out; omega)
    have hin : pre.length + 2 < k := by have := HPl.out; omega
    obtain ⟨dv, hdv, hsh⟩ : ∃ dv : Nat, dv = t.turn ∧ True := ⟨_, rfl, trivial⟩
    have hxb := xor_bits x2 t.turn
    have hdx : IntKind.u8.wrap (dv : Int) = IntKind.u8.wrap (t.turn : Int) := by rw [hdv]
    have HDv := Lib.hid hdv
    skip
    clear hdv
    have hin0 : (0 : Int) ≤ ((pre.length : Int) + 2) := by omega
    have hin1 : ((pre.length : Int) + 2) < (k : Int) := by omega
    have hin2 : Int.toNat ((pre.length : Int) + 2) = pre.length + 2 := by omega
    go_wp2_with fail
    refine wp_region_plan [(0, 0), (0, 1), (0, 2), (0, 3), (0, 4), (0, 5), (0, 6), (0, 7), (0, 8), (0, 9), (0, 10), (0, 11), (0, 12), (2, 13)] (fun q => q = w.heap.size + 1) (by kernel_rfl) (by kernel_rfl) (fun c a d v w h => by cases d <;> exact h) ?_
    rw [← hW]
    clear hW
    iterate 13
      refine plan_s1 rfl (by rfl) (fun Kc hKc => ?_)
      go_simp
      first
        | (refine hKc _ ?_)
      clear hKc Kc
    refine plan_a1 rfl (by rfl) (fun Kc hKc => ?_)
    go_simp
    refine hKc _ _ ⟨(Touch.refl (fun q => q = w.heap.size + 1) W).set (b := w.heap.size + 1) (o := pre.length + 2) (fun _ => rfl) _, ?_⟩
    clear hKc Kc
    refine plan_done ?_
    clear z0 z1 y1 hxb hdx hin hin0 hin1 hin2
    obtain ⟨v3, hv3⟩ : ∃ v, v = W.setCell ⟨w.heap.size + 1, pre.length + 2, none⟩ (.int .u8 ((xor8 x2 t.turn).toNat : Int)) := ⟨_, rfl⟩
    have tv : Touch (fun q => q = w.heap.size + 1) W v3 := hv3 ▸ (Touch.refl (fun q => q = w.heap.size + 1) W).set (b := w.heap.size + 1) (o := pre.length + 2) (fun _ => rfl) _
    have hb4 := hbW.set_ (pre.length + 2) (.int .u8 ((xor8 x2 t.turn).toNat : Int))
    obtain ⟨cs3, hcs3⟩ : ∃ x, x = cs2.setIfInBounds (pre.length + 2) (.int .u8 ((xor8 x2 t.turn).toNat : Int)) := ⟨_, rfl⟩
    rw [← hv3, ← hcs3] at hb4
    have HC3 := Lib.hid (show BlkU v3 (w.heap.size + 1) 5 cs3 ∧ k ≤ cs3.size ∧ cs3.toList.take k = (tkF pre x0 x1 x2 t.turn 3).map B8 ∧ Touch (fun q => q = w.heap.size + 1) w2 v3 from by
      refine ⟨hb4, by rw [hcs3, Array.size_setIfInBounds]; exact HC2.out.2.1, ?_, (HC2.out.2.2.2.trans HTW.out (fun _ _ e => e.elim)).trans tv (fun q _ e => e)⟩
      rw [hcs3, take_set _ HC2.out.2.2.1, show ((.int .u8 ((xor8 x2 t.turn).toNat : Int)) : Value) = B8 (xor8 x2 t.turn) from rfl, ← List.map_set]
      congr 1
      unfold tkF
      rw [List.set_append_right _ _ (by omega), show pre.length + 2 - pre.length = 2 by omega]
      simp)
    rw [← hv3]
    clear hv3 hcs3 hb4 tv hbW hyW HDv HTW
    have hrd : Rd v3 (fun _ => True) (some ⟨w.heap.size + 1, 0, none⟩) k ((tkF pre x0 x1 x2 t.turn 3).map B8) := by
      refine ⟨by rw [List.length_map, tkF_len]; exact HPl.out.symm, fun _ => ⟨_, 0, rfl, HC3.out.1.lt, trivial, fun j u hj => ?_⟩⟩
      rw [Nat.zero_add, HC3.out.1.cell]
      exact take_get HC3.out.2.2.1 hj
    have hst := hrd.str c
    clear hrd
    go_wp2
    go_ret
    unfold FtnP
    rw [HV.out]
    exact ⟨rfl, HT2.out.trans HC3.out.2.2.2 (fun q hq e => by omega)⟩
end Go.Proofs.Ytpgakkpmpnebnaa
