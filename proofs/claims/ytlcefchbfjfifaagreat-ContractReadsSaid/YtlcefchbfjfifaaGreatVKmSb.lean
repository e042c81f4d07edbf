/- slices.Sort at a row of int of the call's own, by the shelf's contract. slices.AppendSeq, Collect, Sorted at int (written by genkeys.py). int keys, by the names that Km* use. The keys of a map[int]contract.laid: maps.Keys, its iterator, slices.Sorted over it (written by genkeys.py). The keys of a map[int]api.Contract: maps.Keys, its iterator, slices.Sorted over it (written by genkeys.py). -/
import Derived.Test.YtlcefchbfjfifaaGreatVOwn
import Derived.Test.YtlcefchbfjfifaaGreatVQuillY
import Derived.Test.YtlcefchbfjfifaaGreatShelf
import Derived.Sort.OwnSortedInts
import Derived.RangeFuncNested
import Derived.RangeFuncBound
import Derived.RangeFuncCalls
import Derived.RangeFuncLeaves
import Derived.Shelf.Abstract
import Derived.Shelf.RegionOpen
import Derived.OwnWalkIn
import Derived.TacticsInMore
import Derived.LoopNIn
import Derived.LoopIn
import Derived.Maps.OwnIn
import Derived.Maps.AppendAt
import Derived.RangeFuncOne
import Derived.RangeFuncBox
import Derived.Test.YtlcefchbfjfifaaGreatVShD
section
namespace Go.Proofs.YtlcefchbfjfifaaGreat
open Go.RowKit
set_option maxHeartbeats 4000000
set_option maxRecDepth 100000
set_option linter.unusedVariables false
theorem sortKI_any (v : Value) (r : Option Nat) (xs : List Int) (w : World) (ho : Own w 3 1 v r xs.length (xs.map I64)) (hl : xs.length ≤ 1000) :
    Calls Tryz.prog 115 #[v] w fun e w' => e = .returned (.tuple #[]) ∧ Own w' 3 1 v r xs.length ((xs.mergeSort fun x y => decide (x ≤ y)).map I64) ∧ Touch (fun k => r = some k) w w' := by
  have hlen : (xs.mergeSort fun x y => decide (x ≤ y)).length = xs.length := List.length_mergeSort xs
  rcases ho.2 with ⟨hv, hn, hr⟩ | ⟨g, cap, cur, hr, hv, hb, hn, hc, hs, ht⟩
  · have hx : xs = [] := List.eq_nil_of_length_eq_zero hn
    subst hx hv hr
    refine (Tryz.slices_Sort_int_none none 0 w).mono ?_
    rintro e w' ⟨rfl, rfl⟩
    exact ⟨rfl, by simpa using Own.nil _ _ _, Touch.refl _ _⟩
  · subst hr hv
    rw [Nat.mul_one] at ht
    refine (Tryz.slices_Sort_int g 0 cap xs w (holds_of_blockI hb ht) hb.lt (by omega)).mono ?_
    rintro e w' ⟨rfl, n, os, rfl⟩
    refine ⟨rfl, ⟨by simp, .inr ⟨g, cap, _, rfl, rfl, Go.heap_sortedI _ hb, hn, hc, by simp [Go.Sort.putCells, hs], ?_⟩⟩, Touch.of_grown (grownBy_sortedI _)⟩
    rw [Nat.mul_one, ← hlen]
    exact take_putCellsI cur _ (by omega)
end Go.Proofs.YtlcefchbfjfifaaGreat
end

section
namespace Go.Proofs.YtlcefchbfjfifaaGreat
open Go.RowKit Go.Maps
attribute [local go_sem] Oper.semAt_some
set_option maxHeartbeats 2000000
set_option maxRecDepth 100000
set_option linter.unusedVariables false

theorem infoKcI : (Tryz.prog.info? 3).map (fun i => (i.zero, i.size, i.bytes)) = some (some (.int .i64 0), 1, 8) := by kernel_rfl
theorem appendSeqI (F : Fence) (n : Nat) (hF : F.fn 133) (hro : F.round = none) (hn : 2 ≤ n) (gf : Nat) (lb : Array Value) (hFg : F.fn gf) (eg : ∀ args w, (callFunc gf args).run Tryz.prog w = .ok (.enter gf args) w)
    (S : List Int → Prop) (N : Nat) (hN : N ≤ 1000) (w : World) (hseq : SeqStops F (n - 1) Tryz.prog gf lb I64 S (fun _ => True) N w) :
    CallsIn F n Tryz.prog 133 #[.slice none 0 0, .func (.func gf) #[] lb] w fun e w' => ∃ v ss, e = .returned v ∧ S ss ∧ w'.ownsRow w.heap.size 3 1 v ss.length (ss.map I64) ∧ Below w.heap.size w w' := by
  have h1 : 1 ≤ n := by omega
  obtain ⟨i0, hi, hz0, hz1, hz2⟩ := info_parts infoKcI
  refine callsIn_of_wp_marks Tryz.func133 rfl hF ?_ hro
  simp only [Tryz.ntmps133, List.size_toArray, List.length_cons, List.length_nil, Nat.reduceAdd, Nat.reduceSub, Array.replicate_succ, Array.replicate_zero, List.push_toArray, List.append_toArray, List.nil_append, List.cons_append]
  gi_wp2
  refine wpIn_rangeFunc_ownF (α := Int) (encs := fun x => #[I64 x]) (Kp := KeepsWalks) (S := S) (Sp := fun _ => True) (N := N) (w0 := w) hro h1 (gf := gf) (lb := lb) rfl hFg eg hseq walksK_t walksK_b ((Below.refl _ w).alloc (Nat.le_refl _) _) (fun _ => rfl)
    (fun pre W => (∃ v, Boxed W w.heap.size 176 v ∧ W.ownsRow w.heap.size 3 1 v pre.length (pre.map I64) ∧ True) ∧ Below w.heap.size w W)
    (fun _ _ _ => False)
    (OwnFrom.and (Own.from (holdsRow_own w.heap.size w.heap.size 176 3 1 (fun pre : List Int => pre.length) (fun pre => pre.map I64) (fun _ _ => True)) _) (ownFrom_below (Nat.le_refl _) (by simp)))
    (fun _ _ _ _ _ hs _ _ => hs)
    ⟨⟨_, Boxed.new w _ _, World.ownsRow_nil _ _ _ _, trivial⟩, (Below.refl _ w).alloc (Nat.le_refl _) _⟩
    (fun x => { tmps := #[.slice none 0 0, .func (.func gf) #[] lb, .pointer (some ⟨w.heap.size, 0, none⟩), undef, .slice none 0 0, .int .i64 x, .func (.func gf) #[] lb, .int .i64 x, undef, undef, undef, undef, undef], defers := [] }) ?assign ?body ?done ?stop
  case assign =>
    intro l x W K hK
    gi_wp2
    exact hK
  case body =>
    rintro l pre x W ⟨⟨v, hbx, hrow, -⟩, hB⟩ hlt
    have hc := hbx.cell
    have hf := hbx.frozen
    gi_wp2_with (first
      | (gi_at_builtin
         refine wpListIn_append_own _ rfl _ _ 176 rfl w.heap.size 3 i0 (.int .i64 0) 1 8 Tryz.underlying176 hi hz0 hz1 hz2 rfl (by decide) _ _ _ rfl (hrow.alloc _) ⟨W.heap.size, 0, none⟩ 1 1 [.int .i64 x] rfl rfl (cell_one_new _ _ _) (by simp [Value.oneCell']) (by simp only [maxLen]; omega) (by omega) (by have := hB.size; simp; omega) ?_
         intro v' w1 hown' hgrow _
         obtain ⟨g', cap', rfl⟩ := ownsRow_succ hown'
         obtain ⟨hv1, hv2, hr2, hk2, hb2⟩ := hbx.appended (by decide) hrow hB.size (Nat.le_refl _) hown' hgrow
         have hc1 := hv1.cell
         have hf1 := hv1.frozen)
      | gi_in)
    exact ⟨hk2, hk2.walks, ⟨_, hv2, by simpa [I64] using hr2, trivial⟩, hB.trans hb2⟩
  case done =>
    rintro D ys W hD hS ⟨⟨v, hbx, hrow, -⟩, hB⟩ hK
    have hc := hbx.cell
    gi_wp2
    refine ⟨by simp, .inl ⟨_, _, rfl, run_takeDeferred hK, ?_⟩⟩
    exact ⟨_, results_tmp rfl _ _ _, v, ys, rfl, hS, ownsRow_putObj hrow _ hK rfl, hB.trans (belowK_b (w := w) (Nat.le_refl _) W D _ _ (by simp at hD; omega) hK rfl rfl)⟩
  case stop =>
    rintro D c pre W _ _ h _
    exact h.elim
theorem collectI (F : Fence) (n : Nat) (hF : F.fn 114) (hF2 : F.fn 133) (hro : F.round = none) (hn : 3 ≤ n) (gf : Nat) (lb : Array Value) (hFg : F.fn gf) (eg : ∀ args w, (callFunc gf args).run Tryz.prog w = .ok (.enter gf args) w)
    (S : List Int → Prop) (N : Nat) (hN : N ≤ 1000) (w : World) (hseq : SeqStops F (n - 1 - 1) Tryz.prog gf lb I64 S (fun _ => True) N w) :
    CallsIn F n Tryz.prog 114 #[.func (.func gf) #[] lb] w fun e w' => ∃ v ss, e = .returned v ∧ S ss ∧ w'.ownsRow w.heap.size 3 1 v ss.length (ss.map I64) ∧ Below w.heap.size w w' := by
  have hc := appendSeqI F (n - 1) hF2 hro (by omega) gf lb hFg eg S N hN w hseq
  have h1 : 1 ≤ n := by omega
  refine callsIn_of_wp Tryz.func114 rfl hF ?_ hro
  simp only [Tryz.ntmps114, List.size_toArray, List.length_cons, List.length_nil, Nat.reduceAdd, Nat.reduceSub, Array.replicate_succ, Array.replicate_zero, List.push_toArray, List.append_toArray, List.nil_append, List.cons_append]
  gi_wp2_with (gi_at_call 133; refine hc.mono ?_; rintro e w' ⟨v, ss, rfl, hS, ho, hb⟩)
  go_ret
  exact ⟨v, ss, rfl, hS, ho, hb⟩
theorem ownKI_of {w : World} {base : Nat} {e : TypeId} {v : Value} {n : Nat} {xs : List Value} (h : w.ownsRow base e 1 v n xs) : ∃ r, Own w e 1 v r n xs ∧ ∀ j, r = some j → base ≤ j := by
  rcases h.2 with ⟨h1, h2⟩ | ⟨g, cap, cur, hv, hb, hg, hn, hc, hs, ht⟩
  · exact ⟨none, ⟨h.1, .inl ⟨h1, h2, rfl⟩⟩, fun j e => by cases e⟩
  · exact ⟨some g, ⟨h.1, .inr ⟨g, cap, cur, rfl, hv, hg, hn, hc, hs, ht⟩⟩, fun j e => by injection e with e; omega⟩
/-- What comes of slices.Sorted: a new row. -/
def SortedSI (S : List Int → Prop) (w : World) (e : Ending) (w' : World) : Prop :=
  ∃ (A : Option Addr) (c : Nat) (zs : List Int), e = .returned (.slice A zs.length c) ∧ (∃ ss, S ss ∧ zs = ss.mergeSort fun x y => decide (x ≤ y)) ∧ zs.length ≤ c ∧ c ≤ maxLen ∧ Rd w' (fun j => w.heap.size ≤ j) A zs.length (zs.map I64) ∧ Touch (fun _ => False) w w'
theorem sortedI_in (gf : Nat) (lb : Array Value) (eg : ∀ args w, (callFunc gf args).run Tryz.prog w = .ok (.enter gf args) w)
    (S : List Int → Prop) (N : Nat) (hN : N ≤ 1000) (hSN : ∀ ss, S ss → ss.length ≤ N) (w : World) (hseq : SeqStops Fence.wide 3 Tryz.prog gf lb I64 S (fun _ => True) N w) :
    Calls Tryz.prog 87 #[.func (.func gf) #[] lb] w (SortedSI S w) := by
  refine (callsIn_wide (n := 6)).1 ?_
  have hC := collectI Fence.wide 5 trivial trivial rfl (by omega) gf lb trivial eg S N (by omega) w hseq
  refine callsIn_of_wp Tryz.func87 rfl trivial ?_ rfl
  simp only [Tryz.ntmps87, List.size_toArray, List.length_cons, List.length_nil, Nat.reduceAdd, Nat.reduceSub, Array.replicate_succ, Array.replicate_zero, List.push_toArray, List.append_toArray, List.nil_append, List.cons_append]
  have hfC : Fence.wide.fn 114 := trivial
  have hfS : Fence.wide.fn 115 := trivial
  gi_wp2_with (first
    | (gi_at_call 114; refine hC.mono ?_; rintro e w' ⟨v, ss, rfl, hS, ho, hb⟩
       obtain ⟨r, ho, hrb⟩ := ownKI_of ho
       obtain ⟨A, c, rfl, hc1, hc2⟩ := ho.form
       have HO := Lib.hid ho
       have HB := Lib.hid hb
       have HS := Lib.hid hS
       have HRb := Lib.hid hrb
       have hN2 := hSN ss hS
       clear ho hb hS hrb)
    | (gi_at_call 115; refine (callsIn_wide.2 (sortKI_any _ r ss _ HO.out (by omega))).mono ?_; rintro e w2 ⟨rfl, ho2, t2⟩; have HO2 := Lib.hid ho2; have HT2 := Lib.hid t2; clear ho2 t2))
  go_ret
  obtain ⟨A1, c1, hv, hd1, hd2, -, hr1⟩ := HO2.out.rd
  injection hv with hv1 hv2 hv3
  subst hv1 hv3
  have e1 : (ss.mergeSort fun x y => decide (x ≤ y)).length = ss.length := List.length_mergeSort ss
  exact ⟨A, c, ss.mergeSort fun x y => decide (x ≤ y), by rw [e1]; rfl, ⟨ss, HS.out, rfl⟩, by rw [e1]; exact hd1, hd2, by rw [e1]; exact hr1.mono (fun j hj => HRb.out j hj), (Touch.of_below HB.out).trans HT2.out (fun j hj e => by have := HRb.out j e; omega)⟩
end Go.Proofs.YtlcefchbfjfifaaGreat
end

section
namespace Go.Proofs.YtlcefchbfjfifaaGreat
open Go.RowKit Go.Maps
theorem lawI : Keyed Tryz.prog 3 := lawN
def inI (k : Int) : Prop := -9223372036854775808 ≤ k ∧ k ≤ 9223372036854775807
theorem keyI {k : Int} (h : inI k) : keyOf Tryz.prog 3 (.int .i64 k) = some (.int .i64 k) := keyN h
end Go.Proofs.YtlcefchbfjfifaaGreat
end

section
namespace Go.Proofs.YtlcefchbfjfifaaGreat
open Go.RowKit Go.Maps
attribute [local go_sem] Oper.semAt_some
set_option maxHeartbeats 2000000
set_option maxRecDepth 100000
set_option linter.unusedVariables false

theorem mkeysSa_any (mb : Option Nat) (w : World) :
    Calls Tryz.prog 88 #[.map mb] w fun e w' => e = .returned (.func (.func 116) #[] #[.pointer (some ⟨w.heap.size, 0, none⟩)]) ∧ w' = w.alloc (.cells #[.map mb] 73) := by
  go_enter Tryz.func88, Tryz.ntmps88
  go_wp2
  go_ret
  exact ⟨rfl, rfl⟩
/-- All keys that have come while 'left' are still to come. -/
def CameSa (f : Lit → Option Value) (left : Lit → Bool) (ss : List Int) : Prop := ss.Nodup ∧ ∀ c : Int, c ∈ ss ↔ inI c ∧ (f (.int .i64 c)).isSome = true ∧ left (.int .i64 c) = false
theorem mkIterSa (F : Fence) (n : Nat) (hF : F.fn 116) (hro : F.round = none) (hn : 1 ≤ n) (Bm b nn : Nat) (f : Lit → Option Value) (w : World) (hBm : Bm < w.heap.size) (hm : w.cell? ⟨Bm, 0, none⟩ = some (.map (some b))) (D : DataW Value) (hown : w.ownsMap Tryz.prog 3 valR b nn D) (hs : SaysV Tryz.prog 3 D f) :
    SeqStops F n Tryz.prog 116 #[.pointer (some ⟨Bm, 0, none⟩)] I64 (fun ss => CameSa f (fun _ => false) ss ∧ ss.length ≤ Maps.size D) (fun _ => True) (Maps.size D) w := fun l J Jx W hW hJ hJx hY h0 => by
  have hown' : W.ownsMap Tryz.prog 3 valR b nn D := by
    have hbl := hown.lt
    obtain ⟨es, clock, hb, Ft, hs, hD⟩ := hown
    exact ⟨es, clock, (hW.block b hbl).trans hb, Ft, hs, hD⟩
  have hm' : W.cell? ⟨Bm, 0, none⟩ = some (.map (some b)) := (hW.cell (p := ⟨Bm, 0, none⟩) hBm).trans hm
  clear hown hm
  refine callsIn_of_wp Tryz.func116 rfl hF ?_ hro
  simp only [Tryz.ntmps116, List.size_toArray, List.length_cons, List.length_nil, Nat.reduceAdd, Nat.reduceSub, Array.replicate_succ, Array.replicate_zero, List.push_toArray, List.append_toArray, List.nil_append, List.cons_append]
  gi_wp2_with (first
    | (gi_at_range; refine wpListIn_range_own _ rfl _ 73 rfl 3 113 lawI Tryz.underlying73 valR b nn D rfl hown' ?_; intro w0 hrg0 hg0 hs0)
    | gi_in)
  go_frame
  gi_loopw [3] (fun _ wr => ∃ (left : Lit → Bool) (cnt : Nat) (ss : List Int), wr.ranges Tryz.prog 3 valR b W.heap.size nn D left cnt ∧ ss.length + cnt ≤ Maps.size D ∧ CameSa f left ss ∧ J ss wr)
    (fun _ wr => wr.rangeLeft b W.heap.size)
  case atStart =>
    refine ⟨_, _, [], hrg0, by simp, ⟨List.nodup_nil, fun c => ⟨fun h => (by cases h), fun ⟨h1, h2, h3⟩ => ?_⟩⟩, hJ [] W w0 none h0 hg0 (fun r e => by cases e)⟩
    rw [(hs _ ⟨_, keyI h1⟩).1, h2] at h3
    cases h3
  case round =>
    obtain ⟨left, cnt, ss, hrg, hcs, hC, hJs⟩ := hrel
    gi_wp2_with (first
      | (gi_at_next; refine wpListIn_next_ranges _ rfl _ rfl 3 lawI valR (fun c : Int => Value.int .i64 c) id (fun key kl hk => by
          obtain ⟨x, rfl, _, hw⟩ := Maps.keyOf_int_inv Tryz.underlying3 hk
          exact ⟨x, rfl⟩) (fun v _ _ => ⟨v, rfl⟩) b W.heap.size nn _ _ _ rfl hrg ?_ ?_)
      | gi_in)
    · intro hc0 hl0
      gi_wp2
      go_end0
      exact ⟨⟨_, rfl⟩, .inl ⟨ss, ⟨⟨hC.1, fun c => by rw [hC.2 c, hl0]⟩, by omega⟩, hJs⟩⟩
    · intro x c kl yd yp w2 cnt2 hkey hlk hv hat hrg2 hlt hg2 hs2 hen
      obtain ⟨x', ex, rfl, hw⟩ := Maps.keyOf_int_inv Tryz.underlying3 hkey
      simp [Lit.wf, IntKind.min, IntKind.max, IntKind.signed, IntKind.bits] at hw
      injection ex with _ ex
      subst ex
      have hx : inI x := hw
      have hJ2 : J ss w2 := hJ ss wr w2 (some W.heap.size) hJs hg2 (fun r e => by cases e; exact ⟨Nat.le_refl _, hrg.iter_walk⟩)
      obtain ⟨fn, tmps, assign, body, hy, hR⟩ := hY ss x w2 hJ2 (by omega)
      dsimp only [I64] at hy
      clear hs2
      gi_wp2
      refine hR.mono ?_
      rintro e W3 (⟨rfl, hJ3, hk3⟩ | ⟨rfl, hJx3⟩)
      · gi_wp2
        have hrg3 := hrg2.of_walks hk3
        go_roundw
        case rel =>
          refine ⟨_, cnt2, ss ++ [x], hrg3, by simp; omega, ⟨?_, fun c => ?_⟩, hJ3⟩
          · rw [List.nodup_append]
            refine ⟨hC.1, by simp, fun a ha d hd e => ?_⟩
            simp at hd; subst hd; subst e
            have := ((hC.2 a).1 ha).2.2
            rw [hlk] at this; cases this
          · simp only [List.mem_append, List.mem_singleton, hC.2 c, Bool.and_eq_false_iff]
            constructor
            · rintro (⟨h1, h2, h3⟩ | rfl)
              · exact ⟨h1, h2, .inl h3⟩
              · refine ⟨hx, ?_, .inr ?_⟩
                · obtain ⟨h1, h2⟩ := hs _ ⟨_, hkey⟩
                  cases hf : f (.int .i64 c) with
                  | none =>
                    rw [hf] at h1
                    have e1 := atKey_of_not_has h1 (.lit (.bool true))
                    have e2 := atKey_of_not_has h1 (.lit (.bool false))
                    rw [hat] at e1 e2
                    rw [e1] at e2; cases e2
                  | some v => rfl
                · rw [WideAt.sameKey_self (lawI.key hkey)]; rfl
            · rintro ⟨h1, h2, h3 | h3⟩
              · exact .inl ⟨h1, h2, h3⟩
              · by_cases e : c = x
                · exact .inr e
                · have : (Lit.int IntKind.i64 c).sameKey (Lit.int IntKind.i64 x) = false := sameKey_ne (fun e' => e (by injection e'))
                  rw [this] at h3; cases h3
        case measure => rw [hrg3.left_eq, hrg.left_eq]; exact hlt
      · gi_wp2
        exact bodyPost_ret (v := .tuple #[]) (results_none (by rfl) _ _ _) rfl ⟨⟨_, rfl⟩, .inr ⟨ss ++ [x], trivial, hJx3⟩⟩
/-- All keys, rising. -/
def SortedSa (f : Lit → Option Value) (w : World) (e : Ending) (w' : World) : Prop :=
  ∃ (A : Option Addr) (c : Nat) (zs : List Int), e = .returned (.slice A zs.length c) ∧ zs.Pairwise (· ≤ ·) ∧ zs.Nodup ∧ (∀ i : Int, i ∈ zs ↔ inI i ∧ (f (.int .i64 i)).isSome = true) ∧ zs.length ≤ c ∧ c ≤ maxLen ∧ Rd w' (fun j => w.heap.size ≤ j) A zs.length (zs.map I64) ∧ Touch (fun _ => False) w w'
theorem sortedSa_any (Bm b n : Nat) (f : Lit → Option Value) (w : World) (hBm : Bm < w.heap.size) (hm : w.cell? ⟨Bm, 0, none⟩ = some (.map (some b))) (hM : MapV Tryz.prog 3 w b n f) (hn : n ≤ 1000) :
    Calls Tryz.prog 87 #[.func (.func 116) #[] #[.pointer (some ⟨Bm, 0, none⟩)]] w (SortedSa f w) := by
  obtain ⟨D, hown, hs⟩ := hM
  have hsz : Maps.size D ≤ n := by
    obtain ⟨es', hD, hpw, hkl⟩ := hown.canon lawI
    obtain ⟨es, clock, hb, F, hn, hDe⟩ := hown
    rw [hD] at hDe ⊢
    injection hDe with hDe
    simp only [Maps.size]
    rw [hDe, length_sorted]; simpa using hn
  have hseq := mkIterSa Fence.wide 3 trivial rfl (by omega) Bm b n f w hBm hm D hown hs
  refine (sortedI_in 116 #[.pointer (some ⟨Bm, 0, none⟩)] (enters_of Tryz.func116 (by kernel_rfl) rfl) _ _ (by omega) (fun ss h => h.2) w hseq).mono ?_
  rintro e w' ⟨A, c, zs, rfl, ⟨ss, ⟨hC, -⟩, rfl⟩, h1, h2, h3, h4⟩
  have hp := List.mergeSort_perm ss fun x y : Int => decide (x ≤ y)
  refine ⟨A, c, _, rfl, ?_, hp.nodup_iff.2 hC.1, fun i => ?_, h1, h2, h3, h4⟩
  · have := List.pairwise_mergeSort (le := fun x y : Int => decide (x ≤ y)) (fun a b c h1 h2 => by simp at *; omega) (fun a b => by simp; omega) ss
    exact this.imp fun h => by simpa using h
  · rw [hp.mem_iff, hC.2 i]; simp
end Go.Proofs.YtlcefchbfjfifaaGreat
end

section
namespace Go.Proofs.YtlcefchbfjfifaaGreat
open Go.RowKit Go.Maps
attribute [local go_sem] Oper.semAt_some
set_option maxHeartbeats 2000000
set_option maxRecDepth 100000
set_option linter.unusedVariables false

theorem mkeysSb_any (mb : Option Nat) (w : World) :
    Calls Tryz.prog 90 #[.map mb] w fun e w' => e = .returned (.func (.func 118) #[] #[.pointer (some ⟨w.heap.size, 0, none⟩)]) ∧ w' = w.alloc (.cells #[.map mb] 74) := by
  go_enter Tryz.func90, Tryz.ntmps90
  go_wp2
  go_ret
  exact ⟨rfl, rfl⟩
/-- All keys that have come while 'left' are still to come. -/
def CameSb (f : Lit → Option Value) (left : Lit → Bool) (ss : List Int) : Prop := ss.Nodup ∧ ∀ c : Int, c ∈ ss ↔ inI c ∧ (f (.int .i64 c)).isSome = true ∧ left (.int .i64 c) = false
theorem mkIterSb (F : Fence) (n : Nat) (hF : F.fn 118) (hro : F.round = none) (hn : 1 ≤ n) (Bm b nn : Nat) (f : Lit → Option Value) (w : World) (hBm : Bm < w.heap.size) (hm : w.cell? ⟨Bm, 0, none⟩ = some (.map (some b))) (D : DataW Value) (hown : w.ownsMap Tryz.prog 3 valR b nn D) (hs : SaysV Tryz.prog 3 D f) :
    SeqStops F n Tryz.prog 118 #[.pointer (some ⟨Bm, 0, none⟩)] I64 (fun ss => CameSb f (fun _ => false) ss ∧ ss.length ≤ Maps.size D) (fun _ => True) (Maps.size D) w := fun l J Jx W hW hJ hJx hY h0 => by
  have hown' : W.ownsMap Tryz.prog 3 valR b nn D := by
    have hbl := hown.lt
    obtain ⟨es, clock, hb, Ft, hs, hD⟩ := hown
    exact ⟨es, clock, (hW.block b hbl).trans hb, Ft, hs, hD⟩
  have hm' : W.cell? ⟨Bm, 0, none⟩ = some (.map (some b)) := (hW.cell (p := ⟨Bm, 0, none⟩) hBm).trans hm
  clear hown hm
  refine callsIn_of_wp Tryz.func118 rfl hF ?_ hro
  simp only [Tryz.ntmps118, List.size_toArray, List.length_cons, List.length_nil, Nat.reduceAdd, Nat.reduceSub, Array.replicate_succ, Array.replicate_zero, List.push_toArray, List.append_toArray, List.nil_append, List.cons_append]
  gi_wp2_with (first
    | (gi_at_range; refine wpListIn_range_own _ rfl _ 74 rfl 3 24 lawI Tryz.underlying74 valR b nn D rfl hown' ?_; intro w0 hrg0 hg0 hs0)
    | gi_in)
  go_frame
  gi_loopw [3] (fun _ wr => ∃ (left : Lit → Bool) (cnt : Nat) (ss : List Int), wr.ranges Tryz.prog 3 valR b W.heap.size nn D left cnt ∧ ss.length + cnt ≤ Maps.size D ∧ CameSb f left ss ∧ J ss wr)
    (fun _ wr => wr.rangeLeft b W.heap.size)
  case atStart =>
    refine ⟨_, _, [], hrg0, by simp, ⟨List.nodup_nil, fun c => ⟨fun h => (by cases h), fun ⟨h1, h2, h3⟩ => ?_⟩⟩, hJ [] W w0 none h0 hg0 (fun r e => by cases e)⟩
    rw [(hs _ ⟨_, keyI h1⟩).1, h2] at h3
    cases h3
  case round =>
    obtain ⟨left, cnt, ss, hrg, hcs, hC, hJs⟩ := hrel
    gi_wp2_with (first
      | (gi_at_next; refine wpListIn_next_ranges _ rfl _ rfl 3 lawI valR (fun c : Int => Value.int .i64 c) id (fun key kl hk => by
          obtain ⟨x, rfl, _, hw⟩ := Maps.keyOf_int_inv Tryz.underlying3 hk
          exact ⟨x, rfl⟩) (fun v _ _ => ⟨v, rfl⟩) b W.heap.size nn _ _ _ rfl hrg ?_ ?_)
      | gi_in)
    · intro hc0 hl0
      gi_wp2
      go_end0
      exact ⟨⟨_, rfl⟩, .inl ⟨ss, ⟨⟨hC.1, fun c => by rw [hC.2 c, hl0]⟩, by omega⟩, hJs⟩⟩
    · intro x c kl yd yp w2 cnt2 hkey hlk hv hat hrg2 hlt hg2 hs2 hen
      obtain ⟨x', ex, rfl, hw⟩ := Maps.keyOf_int_inv Tryz.underlying3 hkey
      simp [Lit.wf, IntKind.min, IntKind.max, IntKind.signed, IntKind.bits] at hw
      injection ex with _ ex
      subst ex
      have hx : inI x := hw
      have hJ2 : J ss w2 := hJ ss wr w2 (some W.heap.size) hJs hg2 (fun r e => by cases e; exact ⟨Nat.le_refl _, hrg.iter_walk⟩)
      obtain ⟨fn, tmps, assign, body, hy, hR⟩ := hY ss x w2 hJ2 (by omega)
      dsimp only [I64] at hy
      clear hs2
      gi_wp2
      refine hR.mono ?_
      rintro e W3 (⟨rfl, hJ3, hk3⟩ | ⟨rfl, hJx3⟩)
      · gi_wp2
        have hrg3 := hrg2.of_walks hk3
        go_roundw
        case rel =>
          refine ⟨_, cnt2, ss ++ [x], hrg3, by simp; omega, ⟨?_, fun c => ?_⟩, hJ3⟩
          · rw [List.nodup_append]
            refine ⟨hC.1, by simp, fun a ha d hd e => ?_⟩
            simp at hd; subst hd; subst e
            have := ((hC.2 a).1 ha).2.2
            rw [hlk] at this; cases this
          · simp only [List.mem_append, List.mem_singleton, hC.2 c, Bool.and_eq_false_iff]
            constructor
            · rintro (⟨h1, h2, h3⟩ | rfl)
              · exact ⟨h1, h2, .inl h3⟩
              · refine ⟨hx, ?_, .inr ?_⟩
                · obtain ⟨h1, h2⟩ := hs _ ⟨_, hkey⟩
                  cases hf : f (.int .i64 c) with
                  | none =>
                    rw [hf] at h1
                    have e1 := atKey_of_not_has h1 (.lit (.bool true))
                    have e2 := atKey_of_not_has h1 (.lit (.bool false))
                    rw [hat] at e1 e2
                    rw [e1] at e2; cases e2
                  | some v => rfl
                · rw [WideAt.sameKey_self (lawI.key hkey)]; rfl
            · rintro ⟨h1, h2, h3 | h3⟩
              · exact .inl ⟨h1, h2, h3⟩
              · by_cases e : c = x
                · exact .inr e
                · have : (Lit.int IntKind.i64 c).sameKey (Lit.int IntKind.i64 x) = false := sameKey_ne (fun e' => e (by injection e'))
                  rw [this] at h3; cases h3
        case measure => rw [hrg3.left_eq, hrg.left_eq]; exact hlt
      · gi_wp2
        exact bodyPost_ret (v := .tuple #[]) (results_none (by rfl) _ _ _) rfl ⟨⟨_, rfl⟩, .inr ⟨ss ++ [x], trivial, hJx3⟩⟩
/-- All keys, rising. -/
def SortedSb (f : Lit → Option Value) (w : World) (e : Ending) (w' : World) : Prop :=
  ∃ (A : Option Addr) (c : Nat) (zs : List Int), e = .returned (.slice A zs.length c) ∧ zs.Pairwise (· ≤ ·) ∧ zs.Nodup ∧ (∀ i : Int, i ∈ zs ↔ inI i ∧ (f (.int .i64 i)).isSome = true) ∧ zs.length ≤ c ∧ c ≤ maxLen ∧ Rd w' (fun j => w.heap.size ≤ j) A zs.length (zs.map I64) ∧ Touch (fun _ => False) w w'
theorem sortedSb_any (Bm b n : Nat) (f : Lit → Option Value) (w : World) (hBm : Bm < w.heap.size) (hm : w.cell? ⟨Bm, 0, none⟩ = some (.map (some b))) (hM : MapV Tryz.prog 3 w b n f) (hn : n ≤ 1000) :
    Calls Tryz.prog 87 #[.func (.func 118) #[] #[.pointer (some ⟨Bm, 0, none⟩)]] w (SortedSb f w) := by
  obtain ⟨D, hown, hs⟩ := hM
  have hsz : Maps.size D ≤ n := by
    obtain ⟨es', hD, hpw, hkl⟩ := hown.canon lawI
    obtain ⟨es, clock, hb, F, hn, hDe⟩ := hown
    rw [hD] at hDe ⊢
    injection hDe with hDe
    simp only [Maps.size]
    rw [hDe, length_sorted]; simpa using hn
  have hseq := mkIterSb Fence.wide 3 trivial rfl (by omega) Bm b n f w hBm hm D hown hs
  refine (sortedI_in 118 #[.pointer (some ⟨Bm, 0, none⟩)] (enters_of Tryz.func118 (by kernel_rfl) rfl) _ _ (by omega) (fun ss h => h.2) w hseq).mono ?_
  rintro e w' ⟨A, c, zs, rfl, ⟨ss, ⟨hC, -⟩, rfl⟩, h1, h2, h3, h4⟩
  have hp := List.mergeSort_perm ss fun x y : Int => decide (x ≤ y)
  refine ⟨A, c, _, rfl, ?_, hp.nodup_iff.2 hC.1, fun i => ?_, h1, h2, h3, h4⟩
  · have := List.pairwise_mergeSort (le := fun x y : Int => decide (x ≤ y)) (fun a b c h1 h2 => by simp at *; omega) (fun a b => by simp; omega) ss
    exact this.imp fun h => by simpa using h
  · rw [hp.mem_iff, hC.2 i]; simp
end Go.Proofs.YtlcefchbfjfifaaGreat
end
