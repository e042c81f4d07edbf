/- disk.torn. -/
import Derived.Test.YtpgakkpmpnebnaaVDkH
import Derived.Laws.BitsAll
namespace Go.Proofs.Ytpgakkpmpnebnaa
open Go.RowKit Go.Maps
set_option maxHeartbeats 4000000
set_option maxRecDepth 100000
set_option linter.unusedVariables false
attribute [local irreducible] wpPlan

theorem slice_h (t : TypeId) {P : Program} (ht : P.underlying t = some (.slice (P.elem t))) (h1 : ∀ w : World, (sizeOf (P.elem t)).run P w = .ok 1 w) (A : Option Addr) (n c k : Nat) (hk : k ≤ c) (w : World) :
    (Instr.slice t (.slice A n c) none (some (.int .i64 (k : Int))) none).run P w = .ok (.slice (baseA A 0 c) k c) w := by
  rw [run_slice_h w t A n c ht .i64 k (by omega) (by omega), h1]
  simp [Result.andThen, sliced, baseA]
theorem slice_l (t : TypeId) {P : Program} (ht : P.underlying t = some (.slice (P.elem t))) (h1 : ∀ w : World, (sizeOf (P.elem t)).run P w = .ok 1 w) (A : Option Addr) (n c k : Nat) (hk : k ≤ n) (w : World) :
    (Instr.slice t (.slice A n c) (some (.int .i64 (k : Int))) none none).run P w = .ok (.slice (baseA A k c) (n - k) (c - k)) w := by
  rw [run_slice_l w t A n c ht .i64 k (by omega) (by omega), h1]
  simp [Result.andThen, sliced, baseA]
theorem Rd.lm {w : World} {F : Nat → Prop} {A : Option Addr} {n k c : Nat} {xs : List Value} (h : Rd w F A n xs) (hk : k ≤ n) (hc : n ≤ c) : Rd w F (baseA A k c) (n - k) (xs.drop k) := by
  refine ⟨by rw [List.length_drop, h.1], fun h0 => ?_⟩
  obtain ⟨g, off, rfl, hl, hF, hcell⟩ := h.2 (by omega)
  unfold baseA
  rw [if_neg (by omega)]
  refine ⟨g, off + k, by simp [Addr.add], hl, hF, fun j u hu => ?_⟩
  rw [Nat.add_assoc]
  exact hcell _ u (by rw [← hu, List.getElem?_drop])
/-- bytes.Clone of bytes that are there: a block of its own. -/
def NewB (w : World) (l : List UInt8) (e : Ending) (w' : World) : Prop :=
  ∃ g c cur, e = .returned (.slice (some ⟨g, 0, none⟩) l.length c) ∧ l.length ≤ c ∧ c ≤ maxLen ∧ Blk w' g 5 cur ∧ cur.size = c ∧ cur.toList.take l.length = l.map B8 ∧ w.heap.size ≤ g ∧ Touch (fun _ => False) w w'
theorem cloneB_any (F : Nat → Prop) (A : Option Addr) (n c : Nat) (l : List UInt8) (w : World) (h : Rd w F A n (l.map B8)) (hn : n ≤ 140737488355328) (hp : 0 < l.length) :
    Calls Try.prog 91 #[.slice A n c] w (NewB w l) := by
  have hl := h.1
  have hll : l.length = n := by rw [← hl, List.length_map]
  obtain ⟨g0, o0, rfl, -, -⟩ := h.2 (by omega)
  have hadd := Lib.hid h.add
  have Hn := Lib.hid (show ∀ j u, (l.map B8)[j]? = some u → (w.alloc (.cells #[] 5)).cell? ((⟨g0, o0, none⟩ : Addr).add j) = some u from fun j u hj => (World.cell?_alloc_lt _ _ _ (World.block_lt_of_cell? w _ (h.add j u hj))).trans (h.add j u hj))
  have h1 := Lib.hid (B8_one l)
  obtain ⟨i0, hi, hz0, hz1, hz2⟩ := info_parts info8
  have hown := World.ownsRow_lit w (base := w.heap.size) (e := 5) (size := 1) #[] 0 (Nat.le_refl _) (by simp) (by simp)
  clear h
  unfold NewB
  rw [hll]
  subst hl
  clear hll
  have hxp : 0 < (l.map B8).length := by simpa using hp
  generalize l.map B8 = xs at *
  go_enter Try.func91, Try.ntmps91
  go_wp2_with (at_builtin; go_must (refine wpList_append_own _ rfl _ _ 88 rfl w.heap.size 5 i0 (.int .u8 0) 1 1 Try.underlying88 hi hz0 hz1 hz2 rfl (by decide) _ _ _ rfl hown ⟨g0, o0, none⟩ xs.length c xs rfl (by simp) Hn.out h1.out (by simp only [maxLen]; omega) (by omega) (by simp) ?_); intro v' w1 hown1 hg1 _)
  go_ret
  have hz : w1.ownsRow w.heap.size 5 1 v' xs.length xs := by simpa using hown1
  rcases hz.2 with ⟨-, h0⟩ | ⟨g, cap, cur, hv, hb, hb', hg, hc, hs, ht⟩
  · omega
  · refine ⟨g, cap, by rw [← hv]; rfl, hg, hc, cur, hb', by omega, by simpa using ht, hb, ?_⟩
    refine ((Touch.refl _ w).alloc _).trans (Touch.of_grown hg1) (fun k hk e => ?_)
    injection e with e
    simp at e
    omega
theorem xor_bits (a : UInt8) (n : Nat) : bits .xor .u8 (a.toNat : Int) (IntKind.u8.wrap (n : Int)) = ((xor8 a n).toNat : Int) := by
  rw [IntKind.wrap_u8']
  have h2 : (n : Int) % 256 = ((n % 256 : Nat) : Int) := by omega
  rw [h2]
  have ha := a.toNat_lt
  rw [u8_xor _ _ (by omega) (by omega) (by omega) (by omega)]
  unfold xor8
  rw [UInt8.toNat_xor, UInt8.toNat_ofNat', Int.toNat_natCast, Int.toNat_natCast]
/-- The list at a round. -/
def tkF (pre : List UInt8) (x0 x1 x2 : UInt8) (t : Nat) (j : Nat) : List UInt8 :=
  pre ++ [if 0 < j then xor8 x0 (t / 65536) else x0, if 1 < j then xor8 x1 (t / 256) else x1, if 2 < j then xor8 x2 t else x2]
theorem split3 (b : List UInt8) (h : 3 ≤ b.length) : ∃ pre x0 x1 x2, b = pre ++ [x0, x1, x2] := by
  refine ⟨b.take (b.length - 3), b[b.length - 3], b[b.length - 2], b[b.length - 1], ?_⟩
  apply List.ext_getElem?
  intro i
  rw [List.getElem?_append]
  simp only [List.length_take]
  split
  · rw [List.getElem?_take]; simp; omega
  · rename_i hi
    rcases (by omega : i = b.length - 3 ∨ i = b.length - 2 ∨ i = b.length - 1 ∨ b.length ≤ i) with rfl | rfl | rfl | h2
    · rw [show b.length - 3 - min (b.length - 3) b.length = 0 by omega]; simp
    · rw [show b.length - 2 - min (b.length - 3) b.length = 1 by omega]; simp
    · rw [show b.length - 1 - min (b.length - 3) b.length = 2 by omega]; simp
    · rw [List.getElem?_eq_none h2, List.getElem?_eq_none (by simp; omega)]
theorem torn_some (l : List UInt8) (t : Tr) (pre : List UInt8) (x0 x1 x2 : UInt8) (h : l.take (t.keep % (l.length + 1)) = pre ++ [x0, x1, x2]) : tornF l t = tkF pre x0 x1 x2 t.turn 3 := by
  unfold tornF tkF
  simp only [h]
  rw [if_pos (by simp)]
  simp
theorem torn_none (l : List UInt8) (t : Tr) (h : t.keep % (l.length + 1) < 3) : tornF l t = l.take (t.keep % (l.length + 1)) := by
  unfold tornF
  simp only
  rw [if_neg (by rw [List.length_take]; omega)]
theorem tkF_len (pre : List UInt8) (x0 x1 x2 : UInt8) (t j : Nat) : (tkF pre x0 x1 x2 t j).length = pre.length + 3 := by simp [tkF]
theorem take_get {α : Type} {cs : Array α} {n i : Nat} {L : List α} {v : α} (h : cs.toList.take n = L) (hi : L[i]? = some v) : cs[i]? = some v := by
  rw [← h, List.getElem?_take] at hi
  split at hi
  · simpa using hi
  · cases hi
theorem take_set {α : Type} {cs : Array α} {n i : Nat} {L : List α} (v : α) (h : cs.toList.take n = L) : (cs.setIfInBounds i v).toList.take n = L.set i v := by
  rw [Array.toList_setIfInBounds, List.take_set, h]
def TornP (l : List UInt8) (t : Tr) (w : World) (e : Ending) (w' : World) : Prop :=
  ∃ A' c', e = .returned (.slice A' (tornF l t).length c') ∧ BtR w' (fun q => w.heap.size ≤ q) A' c' (tornF l t) ∧ Touch (fun _ => False) w w'
theorem dtorn_any (F : Nat → Prop) (A : Option Addr) (c : Nat) (l : List UInt8) (t : Tr) (hk : t.keep < 65536) (ht : t.turn < 4294967296) (w : World) (h : Rd w F A l.length (l.map B8)) (hc : l.length ≤ c) (hn : l.length ≤ 1048576) :
    Calls Try.prog 93 #[.slice A l.length c, .agg #[.int .u16 t.keep, .int .u32 t.turn]] w (TornP l t w) := by
  have ta := (Touch.refl (fun _ => False) w).alloc (.cells #[.int .u16 t.keep, .int .u32 t.turn] 132)
  have HT0 := Lib.hid ta
  have hb0 := Blk.new w 132 #[.int .u16 t.keep, .int .u32 t.turn]
  have HB0 := Lib.hid hb0
  obtain ⟨k, hkd⟩ : ∃ k, k = t.keep % (l.length + 1) := ⟨_, rfl⟩
  have hkl : k ≤ l.length := by have := Nat.mod_lt t.keep (show 0 < l.length + 1 by omega); omega
  have hrem : ((t.keep : Int) % ((l.length : Int) + 1)) = (k : Int) := by rw [hkd]; simp
  have hsl := slice_h 88 Try.underlying88 size8 A l.length c k (by omega)
  have HR0 := Lib.hid (show Rd (w.alloc (.cells #[.int .u16 t.keep, .int .u32 t.turn] 132)) F (baseA A 0 c) k ((l.take k).map B8) from by rw [List.map_take]; exact (h.touch ta (fun _ _ e => e)).hm hkl)
  have hbl : (l.take k).length = k := by rw [List.length_take]; omega
  have k0 := hb0.cell 0
  have k1 := hb0.cell 1
  simp at k0 k1
  clear h ta
  by_cases h3 : k < 3
  · have HV := Lib.hid (torn_none l t (by omega))
    rw [← hkd] at HV
    have hi3 : (k : Int) < 3 := by omega
    have hi4 : ¬ (3 : Int) ≤ (k : Int) := by omega
    clear hkd
    go_enter Try.func93, Try.ntmps93
    go_wp2_with (go_at_call 91; go_must (refine (clone_any F (baseA A 0 c) k c (l.take k) _ (by exact HR0.out) (by omega)).mono ?_); rintro e w2 ⟨A2, c2, rfl, k1, k2, hr2, t2⟩
                 rw [List.length_map, hbl] at k1 hr2 ⊢
                 have HR2 := Lib.hid (And.intro k1 (And.intro k2 hr2))
                 have HT2 := Lib.hid (HT0.out.trans t2 (fun _ _ e => e))
                 have hz2 := HT0.out.size
                 clear k1 k2 hr2 t2)
    go_ret
    unfold TornP
    rw [HV.out]
    refine ⟨A2, c2, by rw [hbl]; rfl, ⟨?_, by rw [hbl]; exact HR2.out.1, HR2.out.2.1⟩, HT2.out⟩
    rw [hbl]
    exact HR2.out.2.2.mono (fun q hq => Nat.le_trans hz2 hq)
  · obtain ⟨pre, x0, x1, x2, hb⟩ := split3 (l.take k) (by omega)
    have HV := Lib.hid (torn_some l t pre x0 x1 x2 (by rw [← hkd, hb]))
    have hpl : k = pre.length + 3 := by rw [← hbl, hb]; simp
    have HPl := Lib.hid hpl
    have hi3 : ¬ (k : Int) < 3 := by omega
    have hi4 : (3 : Int) ≤ (k : Int) := by omega
    have hw1 : IntKind.i64.wrap ((k : Int) - 3) = (pre.length : Int) := by rw [IntWalk.i64_in _ (by omega)]; omega
    clear hkd
    have hk3 : 3 ≤ k := by omega
    clear hpl
    go_enter Try.func93, Try.ntmps93
    go_wp2_with (go_at_call 91; go_must (refine (cloneB_any F (baseA A 0 c) k c (l.take k) _ (by exact HR0.out) (by omega) (by omega)).mono ?_); rintro e w2 ⟨g2, c2, cur, rfl, k1, k2, hb2, hs2, ht2, hg2, t2⟩
                 rw [hbl] at k1 ht2 ⊢
                 have HC2 := Lib.hid (And.intro k1 k2)
                 have HB2 := Lib.hid (And.intro hb2 (And.intro hs2 ht2))
                 have HT2 := Lib.hid (HT0.out.trans t2 (fun _ _ e => e))
                 have HBt := Lib.hid (t2.blk HB0.out (fun e => e))
                 have hz2 := HT0.out.size
                 simp at hg2
                 clear k1 k2 hb2 hs2 ht2 t2 k0)
    clear k1 hsl
    go_loopw [7, 22] (fun a i wr => ∃ j : Nat, j ≤ 3 ∧ i = .int .i64 j ∧ ∃ cs, Blk wr g2 5 cs ∧ cs.size = c2 ∧ cs.toList.take k = (tkF pre x0 x1 x2 t.turn j).map B8 ∧ Touch (fun q => q = g2) w2 wr) (fun _ i _ => 3 - (intOf i).toNat)
    case atStart => exact ⟨0, by omega, rfl, cur, HB2.out.1, HB2.out.2.1, by rw [HB2.out.2.2, hb]; simp [tkF], Touch.refl _ _⟩
    case round =>
      obtain ⟨j, hj, rfl, cs, hb3, hs3, ht3, hT3⟩ := hrel
      have HB3 := Lib.hid (And.intro hb3 (And.intro hs3 ht3))
      have HT3 := Lib.hid hT3
      clear hb3 hs3 ht3 hT3
      rcases (by omega : j = 0 ∨ j = 1 ∨ j = 2 ∨ j = 3) with rfl | rfl | rfl | rfl
      · obtain ⟨W, hW⟩ : ∃ W, W = wr.drew := ⟨_, rfl⟩
        have HTW := Lib.hid (show Touch (fun _ => False) wr W from hW ▸ (Touch.refl _ _).drew)
        have hbW := HTW.out.blk HB3.out.1 (fun e => e)
        have htW := HTW.out.blk (HT3.out.blk HBt.out (by omega)) (fun e => e)
        have y1 := htW.cell 1
        simp at y1
        have z0 : W.cell? ⟨g2, pre.length + 0, none⟩ = some (.int .u8 (x0.toNat : Int)) := by
          rw [hbW.cell]
          exact take_get HB3.out.2.2 (by rw [List.getElem?_map]; unfold tkF; rw [List.getElem?_append_right (by omega), show pre.length + 0 - pre.length = 0 by omega]; simp [B8])
        have z1 := hbW.frozen (pre.length + 0)
        simp only [Nat.add_zero] at z0 z1
        have hin : pre.length + 0 < k := by have := HPl.out; omega
        have hpk : pre.length < k := by omega
        have hv0 : IntKind.i64.wrap 0 = 0 := rfl
        have hv8 : IntKind.i64.wrap 8 = 8 := rfl
        have hv16 : IntKind.i64.wrap 16 = 16 := rfl
        obtain ⟨dv, hdv, hsh⟩ : ∃ dv : Nat, dv = t.turn / 2 ^ 16 ∧ Op.shift BinOp.shr IntKind.u32 (t.turn : Int) IntKind.i64 16 = pure (.int .u32 (dv : Int)) := ⟨_, rfl, by rw [shift_shr .u32 .i64 (t.turn : Int) 16 (by omega) (by simp [IntKind.bits])]; rfl⟩
        have HDv := Lib.hid hdv
        have hxb := xor_bits x0 dv
        clear hdv
        have hw2 : IntKind.i64.wrap (pre.length : Int) = (pre.length : Int) := IntWalk.i64_in _ (by omega)
        have hin0 : (0 : Int) ≤ (pre.length : Int) := by omega
        have hin1 : (pre.length : Int) < (k : Int) := by omega
        have hin2 : Int.toNat (pre.length : Int) = pre.length := by omega
        go_wp2_with fail
        refine wp_region_plan [(0, 0), (0, 1), (0, 2), (0, 3), (0, 4), (0, 5), (0, 6), (0, 7), (0, 8), (0, 9), (0, 10), (0, 11), (0, 12), (0, 13), (0, 14), (0, 15), (2, 16)] (fun q => q = g2) (by kernel_rfl) (by kernel_rfl) (fun c a d v w h => by cases d <;> exact h) ?_
        rw [← hW]
        clear hW
        iterate 16
          refine plan_s1 rfl (by rfl) (fun Kc hKc => ?_)
          go_simp
          first
            | (refine hKc _ ?_)
          clear hKc Kc
        refine plan_a1 rfl (by rfl) (fun Kc hKc => ?_)
        go_simp
        refine hKc _ _ ⟨(Touch.refl (fun q => q = g2) W).set (b := g2) (o := pre.length) (fun _ => rfl) _, ?_⟩
        clear hKc Kc
        refine plan_done ?_
        clear z0 z1 y1 hxb hsh
        go_wp2
        go_roundw
        case rel =>
          have hb4 := hbW.set_ (pre.length) (.int .u8 ((xor8 x0 dv).toNat : Int))
          refine ⟨1, by omega, rfl, _, hb4, by rw [Array.size_setIfInBounds]; exact HB3.out.2.1, ?_, (HT3.out.trans HTW.out (fun _ _ e => e.elim)).trans ((Touch.refl (fun q => q = g2) W).set (b := g2) (o := pre.length) (fun _ => rfl) _) (fun q _ e => e)⟩
          rw [take_set _ HB3.out.2.2, show (.int .u8 ((xor8 x0 dv).toNat : Int) : Value) = B8 (xor8 x0 dv) from rfl, ← List.map_set, HDv.out]
          congr 1
          unfold tkF
          rw [List.set_append_right _ _ (by omega), show pre.length - pre.length = 0 by omega]
          simp
        case measure => simp [intOf]
      · obtain ⟨W, hW⟩ : ∃ W, W = wr.drew := ⟨_, rfl⟩
        have HTW := Lib.hid (show Touch (fun _ => False) wr W from hW ▸ (Touch.refl _ _).drew)
        have hbW := HTW.out.blk HB3.out.1 (fun e => e)
        have htW := HTW.out.blk (HT3.out.blk HBt.out (by omega)) (fun e => e)
        have y1 := htW.cell 1
        simp at y1
        have z0 : W.cell? ⟨g2, pre.length + 1, none⟩ = some (.int .u8 (x1.toNat : Int)) := by
          rw [hbW.cell]
          exact take_get HB3.out.2.2 (by rw [List.getElem?_map]; unfold tkF; rw [List.getElem?_append_right (by omega), show pre.length + 1 - pre.length = 1 by omega]; simp [B8])
        have z1 := hbW.frozen (pre.length + 1)
        skip
        have hin : pre.length + 1 < k := by have := HPl.out; omega
        have hpk : pre.length < k := by omega
        have hv0 : IntKind.i64.wrap 0 = 0 := rfl
        have hv8 : IntKind.i64.wrap 8 = 8 := rfl
        have hv16 : IntKind.i64.wrap 16 = 16 := rfl
        obtain ⟨dv, hdv, hsh⟩ : ∃ dv : Nat, dv = t.turn / 2 ^ 8 ∧ Op.shift BinOp.shr IntKind.u32 (t.turn : Int) IntKind.i64 8 = pure (.int .u32 (dv : Int)) := ⟨_, rfl, by rw [shift_shr .u32 .i64 (t.turn : Int) 8 (by omega) (by simp [IntKind.bits])]; rfl⟩
        have HDv := Lib.hid hdv
        have hxb := xor_bits x1 dv
        clear hdv
        have hw2 : IntKind.i64.wrap ((pre.length : Int) + 1) = ((pre.length : Int) + 1) := IntWalk.i64_in _ (by omega)
        have hin0 : (0 : Int) ≤ ((pre.length : Int) + 1) := by omega
        have hin1 : ((pre.length : Int) + 1) < (k : Int) := by omega
        have hin2 : Int.toNat ((pre.length : Int) + 1) = pre.length + 1 := by omega
        go_wp2_with fail
        refine wp_region_plan [(0, 0), (0, 1), (0, 2), (0, 3), (0, 4), (0, 5), (0, 6), (0, 7), (0, 8), (0, 9), (0, 10), (0, 11), (0, 12), (0, 13), (0, 14), (0, 15), (2, 16)] (fun q => q = g2) (by kernel_rfl) (by kernel_rfl) (fun c a d v w h => by cases d <;> exact h) ?_
        rw [← hW]
        clear hW
        iterate 16
          refine plan_s1 rfl (by rfl) (fun Kc hKc => ?_)
          go_simp
          first
            | (refine hKc _ ?_)
          clear hKc Kc
        refine plan_a1 rfl (by rfl) (fun Kc hKc => ?_)
        go_simp
        refine hKc _ _ ⟨(Touch.refl (fun q => q = g2) W).set (b := g2) (o := pre.length + 1) (fun _ => rfl) _, ?_⟩
        clear hKc Kc
        refine plan_done ?_
        clear z0 z1 y1 hxb hsh
        go_wp2
        go_roundw
        case rel =>
          have hb4 := hbW.set_ (pre.length + 1) (.int .u8 ((xor8 x1 dv).toNat : Int))
          refine ⟨2, by omega, rfl, _, hb4, by rw [Array.size_setIfInBounds]; exact HB3.out.2.1, ?_, (HT3.out.trans HTW.out (fun _ _ e => e.elim)).trans ((Touch.refl (fun q => q = g2) W).set (b := g2) (o := pre.length + 1) (fun _ => rfl) _) (fun q _ e => e)⟩
          rw [take_set _ HB3.out.2.2, show (.int .u8 ((xor8 x1 dv).toNat : Int) : Value) = B8 (xor8 x1 dv) from rfl, ← List.map_set, HDv.out]
          congr 1
          unfold tkF
          rw [List.set_append_right _ _ (by omega), show pre.length + 1 - pre.length = 1 by omega]
          simp
        case measure => simp [intOf]
      · obtain ⟨W, hW⟩ : ∃ W, W = wr.drew := ⟨_, rfl⟩
        have HTW := Lib.hid (show Touch (fun _ => False) wr W from hW ▸ (Touch.refl _ _).drew)
        have hbW := HTW.out.blk HB3.out.1 (fun e => e)
        have htW := HTW.out.blk (HT3.out.blk HBt.out (by omega)) (fun e => e)
        have y1 := htW.cell 1
        simp at y1
        have z0 : W.cell? ⟨g2, pre.length + 2, none⟩ = some (.int .u8 (x2.toNat : Int)) := by
          rw [hbW.cell]
          exact take_get HB3.out.2.2 (by rw [List.getElem?_map]; unfold tkF; rw [List.getElem?_append_right (by omega), show pre.length + 2 - pre.length = 2 by omega]; simp [B8])
        have z1 := hbW.frozen (pre.length + 2)
        skip
        have hin : pre.length + 2 < k := by have := HPl.out; omega
        have hpk : pre.length < k := by omega
        have hv0 : IntKind.i64.wrap 0 = 0 := rfl
        have hv8 : IntKind.i64.wrap 8 = 8 := rfl
        have hv16 : IntKind.i64.wrap 16 = 16 := rfl
        obtain ⟨dv, hdv, hsh⟩ : ∃ dv : Nat, dv = t.turn / 2 ^ 0 ∧ Op.shift BinOp.shr IntKind.u32 (t.turn : Int) IntKind.i64 0 = pure (.int .u32 (dv : Int)) := ⟨_, rfl, by rw [shift_shr .u32 .i64 (t.turn : Int) 0 (by omega) (by simp [IntKind.bits])]; rfl⟩
        have HDv := Lib.hid hdv
        have hxb := xor_bits x2 dv
        clear hdv
        have hw2 : IntKind.i64.wrap ((pre.length : Int) + 2) = ((pre.length : Int) + 2) := IntWalk.i64_in _ (by omega)
        have hin0 : (0 : Int) ≤ ((pre.length : Int) + 2) := by omega
        have hin1 : ((pre.length : Int) + 2) < (k : Int) := by omega
        have hin2 : Int.toNat ((pre.length : Int) + 2) = pre.length + 2 := by omega
        go_wp2_with fail
        refine wp_region_plan [(0, 0), (0, 1), (0, 2), (0, 3), (0, 4), (0, 5), (0, 6), (0, 7), (0, 8), (0, 9), (0, 10), (0, 11), (0, 12), (0, 13), (0, 14), (0, 15), (2, 16)] (fun q => q = g2) (by kernel_rfl) (by kernel_rfl) (fun c a d v w h => by cases d <;> exact h) ?_
        rw [← hW]
        clear hW
        iterate 16
          refine plan_s1 rfl (by rfl) (fun Kc hKc => ?_)
          go_simp
          first
            | (refine hKc _ ?_)
          clear hKc Kc
        refine plan_a1 rfl (by rfl) (fun Kc hKc => ?_)
        go_simp
        refine hKc _ _ ⟨(Touch.refl (fun q => q = g2) W).set (b := g2) (o := pre.length + 2) (fun _ => rfl) _, ?_⟩
        clear hKc Kc
        refine plan_done ?_
        clear z0 z1 y1 hxb hsh
        go_wp2
        go_roundw
        case rel =>
          have hb4 := hbW.set_ (pre.length + 2) (.int .u8 ((xor8 x2 dv).toNat : Int))
          refine ⟨3, by omega, rfl, _, hb4, by rw [Array.size_setIfInBounds]; exact HB3.out.2.1, ?_, (HT3.out.trans HTW.out (fun _ _ e => e.elim)).trans ((Touch.refl (fun q => q = g2) W).set (b := g2) (o := pre.length + 2) (fun _ => rfl) _) (fun q _ e => e)⟩
          rw [take_set _ HB3.out.2.2, show (.int .u8 ((xor8 x2 dv).toNat : Int) : Value) = B8 (xor8 x2 dv) from rfl, ← List.map_set, HDv.out]
          congr 1
          unfold tkF
          rw [List.set_append_right _ _ (by omega), show pre.length + 2 - pre.length = 2 by omega]
          simp
        case measure => simp [intOf]
      · go_wp2
        go_ret
        unfold TornP
        rw [HV.out]
        have hlen : (tkF pre x0 x1 x2 t.turn 3).length = k := by rw [tkF_len]; exact HPl.out.symm
        refine ⟨some ⟨g2, 0, none⟩, c2, by rw [hlen]; rfl, ⟨?_, by rw [hlen]; exact HC2.out.1, HC2.out.2⟩, HT2.out.trans HT3.out (fun q hq e => by omega)⟩
        refine ⟨by simp, fun _ => ⟨g2, 0, rfl, HB3.out.1.lt, by omega, fun i u hi => ?_⟩⟩
        rw [Nat.zero_add, HB3.out.1.cell]
        exact take_get HB3.out.2.2 hi
end Go.Proofs.Ytpgakkpmpnebnaa
