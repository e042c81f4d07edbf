/- slices.Sort at at most twelve uint64. slices.Sort at at most twelve uint64, nil too. slices.AppendSeq, Collect, Sorted at uint64 (written by genkeys.py). -/
import Derived.Test.YtmgmjehebbggaaaVKeyT
import Derived.RangeFuncNested
import Derived.RangeFuncBound
import Derived.RangeFuncCalls
import Derived.RangeFuncLeaves
import Derived.Shelf.Abstract
import Derived.Shelf.RegionOpen
import Derived.OwnWalkIn
import Derived.TacticsInMore
import Derived.LoopNIn
import Derived.LoopIn
import Derived.Maps.OwnIn
import Derived.Maps.AppendAt
import Derived.RangeFuncOne
import Derived.RangeFuncBox
section
namespace Go.Proofs.Ytmgmjehebbggaaa
open Go.RowKit
set_option maxHeartbeats 4000000
set_option maxRecDepth 100000
set_option linter.unusedVariables false

theorem len64_small (n : Nat) (hn : n ≤ 12) (w : World) : Calls Try.prog 87 #[.int .u64 n] w fun e w' => (∃ k : Int, e = .returned (.int .i64 k)) ∧ w = w' := by
  have hc : n = 0 ∨ n = 1 ∨ n = 2 ∨ n = 3 ∨ n = 4 ∨ n = 5 ∨ n = 6 ∨ n = 7 ∨ n = 8 ∨ n = 9 ∨ n = 10 ∨ n = 11 ∨ n = 12 := by omega
  rcases hc with rfl | rfl | rfl | rfl | rfl | rfl | rfl | rfl | rfl | rfl | rfl | rfl | rfl
  all_goals
    go_enter Try.func87, Try.ntmps87
    go_wp2
    go_ret
    exact ⟨⟨_, rfl⟩, rfl⟩
theorem len_small (n : Nat) (hn : n ≤ 12) (w : World) : Calls Try.prog 76 #[.int .u64 n] w fun e w' => (∃ k : Int, e = .returned (.int .i64 k)) ∧ w = w' := by
  have HL := Lib.hid (len64_small n hn w)
  go_enter Try.func76, Try.ntmps76
  go_wp2_with (go_at_call 87; go_must (refine HL.out.mono ?_); rintro e w1 ⟨⟨k, rfl⟩, rfl⟩)
  go_ret
  exact ⟨⟨_, rfl⟩, rfl⟩
theorem pdq_any (g cap n : Nat) (k : Int) (xs : List Nat) (w : World) (hl : xs.length = n) (hn : n ≤ 12) (ho : Own w 29 1 (.slice (some ⟨g, 0, none⟩) n cap) (some g) n (xs.map U64)) :
    Calls Try.prog 75 #[.slice (some ⟨g, 0, none⟩) n cap, .int .i64 0, .int .i64 n, .int .i64 k] w fun e w' => e = .returned (.tuple #[]) ∧ Own w' 29 1 (.slice (some ⟨g, 0, none⟩) n cap) (some g) n ((xs.mergeSort (fun x y => decide (x ≤ y))).map U64) ∧ Touch (fun k => k = g) w w' := by
  have HI := Lib.hid (insort_any g cap n xs w hl hn ho)
  clear hl ho
  go_enter Try.func75, Try.ntmps75
  go_wp2_with fail
  go_loopw [1, 2] (fun a b wr => a = .int .i64 0 ∧ b = .int .i64 n ∧ wr = w) (fun _ _ _ => 1)
  case atStart => exact ⟨rfl, rfl, rfl⟩
  case round =>
    obtain ⟨rfl, rfl, rfl⟩ := hrel
    have hn' : (n : Int) ≤ 12 := by omega
    go_wp2_with (go_at_call 77; go_must (refine HI.out.mono ?_); rintro e w1 ⟨rfl, ho1, t1⟩; have HO1 := Lib.hid ho1; have HT1 := Lib.hid t1; clear ho1 t1)
    exact bodyPost_ret (v := .tuple #[]) (results_none (by rfl) _ _ _) rfl ⟨rfl, HO1.out, HT1.out⟩
theorem sortU_any (g cap n : Nat) (xs : List Nat) (w : World) (hl : xs.length = n) (hn : n ≤ 12) (ho : Own w 29 1 (.slice (some ⟨g, 0, none⟩) n cap) (some g) n (xs.map U64)) :
    Calls Try.prog 68 #[.slice (some ⟨g, 0, none⟩) n cap] w fun e w' => e = .returned (.tuple #[]) ∧ Own w' 29 1 (.slice (some ⟨g, 0, none⟩) n cap) (some g) n ((xs.mergeSort (fun x y => decide (x ≤ y))).map U64) ∧ Touch (fun k => k = g) w w' := by
  have HP := Lib.hid (fun k => pdq_any g cap n k xs w hl hn ho)
  have HL := Lib.hid (len_small n hn w)
  clear hl ho
  go_enter Try.func68, Try.ntmps68
  go_wp2_with (first
    | (go_at_call 76; go_must (refine HL.out.mono ?_); rintro e w1 ⟨⟨k, rfl⟩, rfl⟩)
    | (go_at_call 75; go_must (refine (HP.out _).mono ?_); rintro e w1 ⟨rfl, ho1, t1⟩; have HO1 := Lib.hid ho1; have HT1 := Lib.hid t1; clear ho1 t1))
  go_end0
  exact ⟨rfl, HO1.out, HT1.out⟩
end Go.Proofs.Ytmgmjehebbggaaa
end

section
namespace Go.Proofs.Ytmgmjehebbggaaa
open Go.RowKit
set_option maxHeartbeats 4000000
set_option maxRecDepth 100000
set_option linter.unusedVariables false
theorem sortU_nil (w : World) : Calls Try.prog 68 #[.slice none 0 0] w fun e w' => e = .returned (.tuple #[]) ∧ w = w' := by
  have HI : Hid (∀ w, Calls Try.prog 77 #[.slice none 0 0, .int .i64 0, .int .i64 0] w fun e w' => e = .returned (.tuple #[]) ∧ w = w') := by
    refine Lib.hid (fun w => ?_)
    go_enter Try.func77, Try.ntmps77
    go_wp2_with fail
    go_loopw [6] (fun i wr => i = .int .i64 1 ∧ wr = w) (fun _ _ => 1)
    case atStart => exact ⟨rfl, rfl⟩
    case round =>
      obtain ⟨rfl, rfl⟩ := hrel
      go_wp2
      go_end0
      exact ⟨rfl, rfl⟩
  have HP : Hid (∀ k : Int, Calls Try.prog 75 #[.slice none 0 0, .int .i64 0, .int .i64 0, .int .i64 k] w fun e w' => e = .returned (.tuple #[]) ∧ w = w') := by
    refine Lib.hid (fun k => ?_)
    go_enter Try.func75, Try.ntmps75
    go_wp2_with fail
    go_loopw [1, 2] (fun a b wr => a = .int .i64 0 ∧ b = .int .i64 0 ∧ wr = w) (fun _ _ _ => 1)
    case atStart => exact ⟨rfl, rfl, rfl⟩
    case round =>
      obtain ⟨rfl, rfl, rfl⟩ := hrel
      go_wp2_with (go_at_call 77; go_must (refine (HI.out _).mono ?_); rintro e w1 ⟨rfl, rfl⟩)
      exact bodyPost_ret (v := .tuple #[]) (results_none (by rfl) _ _ _) rfl ⟨rfl, rfl⟩
  have HL := Lib.hid (len_small 0 (by omega) w)
  go_enter Try.func68, Try.ntmps68
  go_wp2_with (first
    | (go_at_call 76; go_must (refine HL.out.mono ?_); rintro e w1 ⟨⟨k, rfl⟩, rfl⟩)
    | (go_at_call 75; go_must (refine (HP.out _).mono ?_); rintro e w1 ⟨rfl, rfl⟩))
  go_end0
  exact ⟨rfl, rfl⟩
theorem sortKU_any (v : Value) (r : Option Nat) (xs : List Nat) (w : World) (ho : Own w 29 1 v r xs.length (xs.map U64)) (hl : xs.length ≤ 12) :
    Calls Try.prog 68 #[v] w fun e w' => e = .returned (.tuple #[]) ∧ Own w' 29 1 v r xs.length ((xs.mergeSort fun x y => decide (x ≤ y)).map U64) ∧ Touch (fun k => r = some k) w w' := by
  rcases ho.2 with ⟨hv, hn, hr⟩ | ⟨g, cap, cur, hr, hv, hb, hn, hc, hs, ht⟩
  · have hx : xs = [] := List.eq_nil_of_length_eq_zero hn
    subst hx hv hr
    refine (sortU_nil w).mono ?_
    rintro e w' ⟨rfl, rfl⟩
    exact ⟨rfl, by simpa using Own.nil _ _ _, Touch.refl _ _⟩
  · subst hr hv
    refine (sortU_any g cap xs.length xs w rfl hl ho).mono ?_
    rintro e w' ⟨rfl, h1, h2⟩
    exact ⟨rfl, h1, h2.mono (fun k _ e => by rw [e])⟩
end Go.Proofs.Ytmgmjehebbggaaa
end

section
namespace Go.Proofs.Ytmgmjehebbggaaa
open Go.RowKit Go.Maps
attribute [local go_sem] Oper.semAt_some
set_option maxHeartbeats 2000000
set_option maxRecDepth 100000
set_option linter.unusedVariables false

theorem infoKcU : (Try.prog.info? 29).map (fun i => (i.zero, i.size, i.bytes)) = some (some (.int .u64 0), 1, 8) := by kernel_rfl
theorem appendSeqU (F : Fence) (n : Nat) (hF : F.fn 74) (hro : F.round = none) (hn : 2 ≤ n) (gf : Nat) (lb : Array Value) (hFg : F.fn gf) (eg : ∀ args w, (callFunc gf args).run Try.prog w = .ok (.enter gf args) w)
    (S : List Nat → Prop) (N : Nat) (hN : N ≤ 1000) (w : World) (hseq : SeqStops F (n - 1) Try.prog gf lb U64 S (fun _ => True) N w) :
    CallsIn F n Try.prog 74 #[.slice none 0 0, .func (.func gf) #[] lb] w fun e w' => ∃ v ss, e = .returned v ∧ S ss ∧ w'.ownsRow w.heap.size 29 1 v ss.length (ss.map U64) ∧ Below w.heap.size w w' := by
  have h1 : 1 ≤ n := by omega
  obtain ⟨i0, hi, hz0, hz1, hz2⟩ := info_parts infoKcU
  refine callsIn_of_wp_marks Try.func74 rfl hF ?_ hro
  simp only [Try.ntmps74, List.size_toArray, List.length_cons, List.length_nil, Nat.reduceAdd, Nat.reduceSub, Array.replicate_succ, Array.replicate_zero, List.push_toArray, List.append_toArray, List.nil_append, List.cons_append]
  gi_wp2
  refine wpIn_rangeFunc_ownF (α := Nat) (encs := fun x => #[U64 x]) (Kp := KeepsWalks) (S := S) (Sp := fun _ => True) (N := N) (w0 := w) hro h1 (gf := gf) (lb := lb) rfl hFg eg hseq walksK_t walksK_b ((Below.refl _ w).alloc (Nat.le_refl _) _) (fun _ => rfl)
    (fun pre W => (∃ v, Boxed W w.heap.size 33 v ∧ W.ownsRow w.heap.size 29 1 v pre.length (pre.map U64) ∧ True) ∧ Below w.heap.size w W)
    (fun _ _ _ => False)
    (OwnFrom.and (Own.from (holdsRow_own w.heap.size w.heap.size 33 29 1 (fun pre : List Nat => pre.length) (fun pre => pre.map U64) (fun _ _ => True)) _) (ownFrom_below (Nat.le_refl _) (by simp)))
    (fun _ _ _ _ _ hs _ _ => hs)
    ⟨⟨_, Boxed.new w _ _, World.ownsRow_nil _ _ _ _, trivial⟩, (Below.refl _ w).alloc (Nat.le_refl _) _⟩
    (fun x => { tmps := #[.slice none 0 0, .func (.func gf) #[] lb, .pointer (some ⟨w.heap.size, 0, none⟩), undef, .slice none 0 0, .int .u64 (x : Int), .func (.func gf) #[] lb, .int .u64 (x : Int), undef, undef, undef, undef, undef], defers := [] }) ?assign ?body ?done ?stop
  case assign =>
    intro l x W K hK
    gi_wp2
    exact hK
  case body =>
    rintro l pre x W ⟨⟨v, hbx, hrow, -⟩, hB⟩ hlt
    have hc := hbx.cell
    have hf := hbx.frozen
    gi_wp2_with (first
      | (gi_at_builtin
         refine wpListIn_append_own _ rfl _ _ 33 rfl w.heap.size 29 i0 (.int .u64 0) 1 8 Try.underlying33 hi hz0 hz1 hz2 rfl (by decide) _ _ _ rfl (hrow.alloc _) ⟨W.heap.size, 0, none⟩ 1 1 [.int .u64 (x : Int)] rfl rfl (cell_one_new _ _ _) (by simp [Value.oneCell']) (by simp only [maxLen]; omega) (by omega) (by have := hB.size; simp; omega) ?_
         intro v' w1 hown' hgrow _
         obtain ⟨g', cap', rfl⟩ := ownsRow_succ hown'
         obtain ⟨hv1, hv2, hr2, hk2, hb2⟩ := hbx.appended (by decide) hrow hB.size (Nat.le_refl _) hown' hgrow
         have hc1 := hv1.cell
         have hf1 := hv1.frozen)
      | gi_in)
    exact ⟨hk2, hk2.walks, ⟨_, hv2, by simpa [U64] using hr2, trivial⟩, hB.trans hb2⟩
  case done =>
    rintro D ys W hD hS ⟨⟨v, hbx, hrow, -⟩, hB⟩ hK
    have hc := hbx.cell
    gi_wp2
    refine ⟨by simp, .inl ⟨_, _, rfl, run_takeDeferred hK, ?_⟩⟩
    exact ⟨_, results_tmp rfl _ _ _, v, ys, rfl, hS, ownsRow_putObj hrow _ hK rfl, hB.trans (belowK_b (w := w) (Nat.le_refl _) W D _ _ (by simp at hD; omega) hK rfl rfl)⟩
  case stop =>
    rintro D c pre W _ _ h _
    exact h.elim
theorem collectU (F : Fence) (n : Nat) (hF : F.fn 67) (hF2 : F.fn 74) (hro : F.round = none) (hn : 3 ≤ n) (gf : Nat) (lb : Array Value) (hFg : F.fn gf) (eg : ∀ args w, (callFunc gf args).run Try.prog w = .ok (.enter gf args) w)
    (S : List Nat → Prop) (N : Nat) (hN : N ≤ 1000) (w : World) (hseq : SeqStops F (n - 1 - 1) Try.prog gf lb U64 S (fun _ => True) N w) :
    CallsIn F n Try.prog 67 #[.func (.func gf) #[] lb] w fun e w' => ∃ v ss, e = .returned v ∧ S ss ∧ w'.ownsRow w.heap.size 29 1 v ss.length (ss.map U64) ∧ Below w.heap.size w w' := by
  have hc := appendSeqU F (n - 1) hF2 hro (by omega) gf lb hFg eg S N hN w hseq
  have h1 : 1 ≤ n := by omega
  refine callsIn_of_wp Try.func67 rfl hF ?_ hro
  simp only [Try.ntmps67, List.size_toArray, List.length_cons, List.length_nil, Nat.reduceAdd, Nat.reduceSub, Array.replicate_succ, Array.replicate_zero, List.push_toArray, List.append_toArray, List.nil_append, List.cons_append]
  gi_wp2_with (gi_at_call 74; refine hc.mono ?_; rintro e w' ⟨v, ss, rfl, hS, ho, hb⟩)
  go_ret
  exact ⟨v, ss, rfl, hS, ho, hb⟩
theorem ownKU_of {w : World} {base : Nat} {e : TypeId} {v : Value} {n : Nat} {xs : List Value} (h : w.ownsRow base e 1 v n xs) : ∃ r, Own w e 1 v r n xs ∧ ∀ j, r = some j → base ≤ j := by
  rcases h.2 with ⟨h1, h2⟩ | ⟨g, cap, cur, hv, hb, hg, hn, hc, hs, ht⟩
  · exact ⟨none, ⟨h.1, .inl ⟨h1, h2, rfl⟩⟩, fun j e => by cases e⟩
  · exact ⟨some g, ⟨h.1, .inr ⟨g, cap, cur, rfl, hv, hg, hn, hc, hs, ht⟩⟩, fun j e => by injection e with e; omega⟩
/-- What comes of slices.Sorted: a new row. -/
def SortedSU (S : List Nat → Prop) (w : World) (e : Ending) (w' : World) : Prop :=
  ∃ (A : Option Addr) (c : Nat) (zs : List Nat), e = .returned (.slice A zs.length c) ∧ (∃ ss, S ss ∧ zs = ss.mergeSort fun x y => decide (x ≤ y)) ∧ zs.length ≤ c ∧ c ≤ maxLen ∧ Rd w' (fun j => w.heap.size ≤ j) A zs.length (zs.map U64) ∧ Touch (fun _ => False) w w'
theorem sortedU_in (gf : Nat) (lb : Array Value) (eg : ∀ args w, (callFunc gf args).run Try.prog w = .ok (.enter gf args) w)
    (S : List Nat → Prop) (N : Nat) (hN : N ≤ 12) (hSN : ∀ ss, S ss → ss.length ≤ N) (w : World) (hseq : SeqStops Fence.wide 3 Try.prog gf lb U64 S (fun _ => True) N w) :
    Calls Try.prog 48 #[.func (.func gf) #[] lb] w (SortedSU S w) := by
  refine (callsIn_wide (n := 6)).1 ?_
  have hC := collectU Fence.wide 5 trivial trivial rfl (by omega) gf lb trivial eg S N (by omega) w hseq
  refine callsIn_of_wp Try.func48 rfl trivial ?_ rfl
  simp only [Try.ntmps48, List.size_toArray, List.length_cons, List.length_nil, Nat.reduceAdd, Nat.reduceSub, Array.replicate_succ, Array.replicate_zero, List.push_toArray, List.append_toArray, List.nil_append, List.cons_append]
  have hfC : Fence.wide.fn 67 := trivial
  have hfS : Fence.wide.fn 68 := trivial
  gi_wp2_with (first
    | (gi_at_call 67; refine hC.mono ?_; rintro e w' ⟨v, ss, rfl, hS, ho, hb⟩
       obtain ⟨r, ho, hrb⟩ := ownKU_of ho
       obtain ⟨A, c, rfl, hc1, hc2⟩ := ho.form
       have HO := Lib.hid ho
       have HB := Lib.hid hb
       have HS := Lib.hid hS
       have HRb := Lib.hid hrb
       have hN2 := hSN ss hS
       clear ho hb hS hrb)
    | (gi_at_call 68; refine (callsIn_wide.2 (sortKU_any _ r ss _ HO.out (by omega))).mono ?_; rintro e w2 ⟨rfl, ho2, t2⟩; have HO2 := Lib.hid ho2; have HT2 := Lib.hid t2; clear ho2 t2))
  go_ret
  obtain ⟨A1, c1, hv, hd1, hd2, -, hr1⟩ := HO2.out.rd
  injection hv with hv1 hv2 hv3
  subst hv1 hv3
  have e1 : (ss.mergeSort fun x y => decide (x ≤ y)).length = ss.length := List.length_mergeSort ss
  exact ⟨A, c, ss.mergeSort fun x y => decide (x ≤ y), by rw [e1]; rfl, ⟨ss, HS.out, rfl⟩, by rw [e1]; exact hd1, hd2, by rw [e1]; exact hr1.mono (fun j hj => HRb.out j hj), (Touch.of_below HB.out).trans HT2.out (fun j hj e => by have := HRb.out j e; omega)⟩
end Go.Proofs.Ytmgmjehebbggaaa
end
