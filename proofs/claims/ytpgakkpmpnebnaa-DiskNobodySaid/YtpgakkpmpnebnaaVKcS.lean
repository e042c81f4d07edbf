/- slices.AppendSeq, Collect, Sorted at string (written by genkeys.py). -/
import Derived.Test.YtpgakkpmpnebnaaVSortS
import Derived.RangeFuncNested
import Derived.RangeFuncBound
import Derived.RangeFuncCalls
import Derived.RangeFuncLeaves
import Derived.Shelf.Abstract
import Derived.Shelf.RegionOpen
import Derived.OwnWalkIn
import Derived.TacticsInMore
import Derived.LoopNIn
import Derived.LoopIn
import Derived.Maps.OwnIn
import Derived.Maps.AppendAt
import Derived.RangeFuncOne
import Derived.RangeFuncBox
namespace Go.Proofs.Ytpgakkpmpnebnaa
open Go.RowKit Go.Maps
attribute [local go_sem] Oper.semAt_some
set_option maxHeartbeats 2000000
set_option maxRecDepth 100000
set_option linter.unusedVariables false

theorem infoKcS : (Try.prog.info? 9).map (fun i => (i.zero, i.size, i.bytes)) = some (some (.string ⟨#[]⟩), 1, 16) := by kernel_rfl
theorem appendSeqS (F : Fence) (n : Nat) (hF : F.fn 127) (hro : F.round = none) (hn : 2 ≤ n) (gf : Nat) (lb : Array Value) (hFg : F.fn gf) (eg : ∀ args w, (callFunc gf args).run Try.prog w = .ok (.enter gf args) w)
    (S : List (List UInt8) → Prop) (N : Nat) (hN : N ≤ 1000) (w : World) (hseq : SeqStops F (n - 1) Try.prog gf lb St S (fun _ => True) N w) :
    CallsIn F n Try.prog 127 #[.slice none 0 0, .func (.func gf) #[] lb] w fun e w' => ∃ v ss, e = .returned v ∧ S ss ∧ w'.ownsRow w.heap.size 9 1 v ss.length (ss.map St) ∧ Below w.heap.size w w' := by
  have h1 : 1 ≤ n := by omega
  obtain ⟨i0, hi, hz0, hz1, hz2⟩ := info_parts infoKcS
  refine callsIn_of_wp_marks Try.func127 rfl hF ?_ hro
  simp only [Try.ntmps127, List.size_toArray, List.length_cons, List.length_nil, Nat.reduceAdd, Nat.reduceSub, Array.replicate_succ, Array.replicate_zero, List.push_toArray, List.append_toArray, List.nil_append, List.cons_append]
  gi_wp2
  refine wpIn_rangeFunc_ownF (α := (List UInt8)) (encs := fun x => #[St x]) (Kp := KeepsWalks) (S := S) (Sp := fun _ => True) (N := N) (w0 := w) hro h1 (gf := gf) (lb := lb) rfl hFg eg hseq walksK_t walksK_b ((Below.refl _ w).alloc (Nat.le_refl _) _) (fun _ => rfl)
    (fun pre W => (∃ v, Boxed W w.heap.size 74 v ∧ W.ownsRow w.heap.size 9 1 v pre.length (pre.map St) ∧ True) ∧ Below w.heap.size w W)
    (fun _ _ _ => False)
    (OwnFrom.and (Own.from (holdsRow_own w.heap.size w.heap.size 74 9 1 (fun pre : List (List UInt8) => pre.length) (fun pre => pre.map St) (fun _ _ => True)) _) (ownFrom_below (Nat.le_refl _) (by simp)))
    (fun _ _ _ _ _ hs _ _ => hs)
    ⟨⟨_, Boxed.new w _ _, World.ownsRow_nil _ _ _ _, trivial⟩, (Below.refl _ w).alloc (Nat.le_refl _) _⟩
    (fun x => { tmps := #[.slice none 0 0, .func (.func gf) #[] lb, .pointer (some ⟨w.heap.size, 0, none⟩), undef, .slice none 0 0, .string ⟨List.toArray x⟩, .func (.func gf) #[] lb, .string ⟨List.toArray x⟩, undef, undef, undef, undef, undef], defers := [] }) ?assign ?body ?done ?stop
  case assign =>
    intro l x W K hK
    gi_wp2
    exact hK
  case body =>
    rintro l pre x W ⟨⟨v, hbx, hrow, -⟩, hB⟩ hlt
    have hc := hbx.cell
    have hf := hbx.frozen
    gi_wp2_with (first
      | (gi_at_builtin
         refine wpListIn_append_own _ rfl _ _ 74 rfl w.heap.size 9 i0 (.string ⟨#[]⟩) 1 16 Try.underlying74 hi hz0 hz1 hz2 rfl (by decide) _ _ _ rfl (hrow.alloc _) ⟨W.heap.size, 0, none⟩ 1 1 [.string ⟨List.toArray x⟩] rfl rfl (cell_one_new _ _ _) (by simp [Value.oneCell']) (by simp only [maxLen]; omega) (by omega) (by have := hB.size; simp; omega) ?_
         intro v' w1 hown' hgrow _
         obtain ⟨g', cap', rfl⟩ := ownsRow_succ hown'
         obtain ⟨hv1, hv2, hr2, hk2, hb2⟩ := hbx.appended (by decide) hrow hB.size (Nat.le_refl _) hown' hgrow
         have hc1 := hv1.cell
         have hf1 := hv1.frozen)
      | gi_in)
    exact ⟨hk2, hk2.walks, ⟨_, hv2, by simpa [St] using hr2, trivial⟩, hB.trans hb2⟩
  case done =>
    rintro D ys W hD hS ⟨⟨v, hbx, hrow, -⟩, hB⟩ hK
    have hc := hbx.cell
    gi_wp2
    refine ⟨by simp, .inl ⟨_, _, rfl, run_takeDeferred hK, ?_⟩⟩
    exact ⟨_, results_tmp rfl _ _ _, v, ys, rfl, hS, ownsRow_putObj hrow _ hK rfl, hB.trans (belowK_b (w := w) (Nat.le_refl _) W D _ _ (by simp at hD; omega) hK rfl rfl)⟩
  case stop =>
    rintro D c pre W _ _ h _
    exact h.elim
theorem collectS (F : Fence) (n : Nat) (hF : F.fn 113) (hF2 : F.fn 127) (hro : F.round = none) (hn : 3 ≤ n) (gf : Nat) (lb : Array Value) (hFg : F.fn gf) (eg : ∀ args w, (callFunc gf args).run Try.prog w = .ok (.enter gf args) w)
    (S : List (List UInt8) → Prop) (N : Nat) (hN : N ≤ 1000) (w : World) (hseq : SeqStops F (n - 1 - 1) Try.prog gf lb St S (fun _ => True) N w) :
    CallsIn F n Try.prog 113 #[.func (.func gf) #[] lb] w fun e w' => ∃ v ss, e = .returned v ∧ S ss ∧ w'.ownsRow w.heap.size 9 1 v ss.length (ss.map St) ∧ Below w.heap.size w w' := by
  have hc := appendSeqS F (n - 1) hF2 hro (by omega) gf lb hFg eg S N hN w hseq
  have h1 : 1 ≤ n := by omega
  refine callsIn_of_wp Try.func113 rfl hF ?_ hro
  simp only [Try.ntmps113, List.size_toArray, List.length_cons, List.length_nil, Nat.reduceAdd, Nat.reduceSub, Array.replicate_succ, Array.replicate_zero, List.push_toArray, List.append_toArray, List.nil_append, List.cons_append]
  gi_wp2_with (gi_at_call 127; refine hc.mono ?_; rintro e w' ⟨v, ss, rfl, hS, ho, hb⟩)
  go_ret
  exact ⟨v, ss, rfl, hS, ho, hb⟩
theorem ownKS_of {w : World} {base : Nat} {e : TypeId} {v : Value} {n : Nat} {xs : List Value} (h : w.ownsRow base e 1 v n xs) : ∃ r, Own w e 1 v r n xs ∧ ∀ j, r = some j → base ≤ j := by
  rcases h.2 with ⟨h1, h2⟩ | ⟨g, cap, cur, hv, hb, hg, hn, hc, hs, ht⟩
  · exact ⟨none, ⟨h.1, .inl ⟨h1, h2, rfl⟩⟩, fun j e => by cases e⟩
  · exact ⟨some g, ⟨h.1, .inr ⟨g, cap, cur, rfl, hv, hg, hn, hc, hs, ht⟩⟩, fun j e => by injection e with e; omega⟩
/-- What comes of slices.Sorted: a new row. -/
def SortedSS (S : List (List UInt8) → Prop) (w : World) (e : Ending) (w' : World) : Prop :=
  ∃ (A : Option Addr) (c : Nat) (zs : List (List UInt8)), e = .returned (.slice A zs.length c) ∧ (∃ ss, S ss ∧ zs = ss.mergeSort fun x y => decide (x ≤ y)) ∧ zs.length ≤ c ∧ c ≤ maxLen ∧ Rd w' (fun j => w.heap.size ≤ j) A zs.length (zs.map St) ∧ Touch (fun _ => False) w w'
theorem sortedS_in (gf : Nat) (lb : Array Value) (eg : ∀ args w, (callFunc gf args).run Try.prog w = .ok (.enter gf args) w)
    (S : List (List UInt8) → Prop) (N : Nat) (hN : N ≤ 1000) (hSN : ∀ ss, S ss → ss.length ≤ N) (w : World) (hseq : SeqStops Fence.wide 3 Try.prog gf lb St S (fun _ => True) N w) :
    Calls Try.prog 88 #[.func (.func gf) #[] lb] w (SortedSS S w) := by
  refine (callsIn_wide (n := 6)).1 ?_
  have hC := collectS Fence.wide 5 trivial trivial rfl (by omega) gf lb trivial eg S N (by omega) w hseq
  refine callsIn_of_wp Try.func88 rfl trivial ?_ rfl
  simp only [Try.ntmps88, List.size_toArray, List.length_cons, List.length_nil, Nat.reduceAdd, Nat.reduceSub, Array.replicate_succ, Array.replicate_zero, List.push_toArray, List.append_toArray, List.nil_append, List.cons_append]
  have hfC : Fence.wide.fn 113 := trivial
  have hfS : Fence.wide.fn 114 := trivial
  gi_wp2_with (first
    | (gi_at_call 113; refine hC.mono ?_; rintro e w' ⟨v, ss, rfl, hS, ho, hb⟩
       obtain ⟨r, ho, hrb⟩ := ownKS_of ho
       obtain ⟨A, c, rfl, hc1, hc2⟩ := ho.form
       have HO := Lib.hid ho
       have HB := Lib.hid hb
       have HS := Lib.hid hS
       have HRb := Lib.hid hrb
       have hN2 := hSN ss hS
       clear ho hb hS hrb)
    | (gi_at_call 114; refine (callsIn_wide.2 (sortKS_any _ r ss _ HO.out (by omega))).mono ?_; rintro e w2 ⟨rfl, ho2, t2⟩; have HO2 := Lib.hid ho2; have HT2 := Lib.hid t2; clear ho2 t2))
  go_ret
  obtain ⟨A1, c1, hv, hd1, hd2, -, hr1⟩ := HO2.out.rd
  injection hv with hv1 hv2 hv3
  subst hv1 hv3
  have e1 : (ss.mergeSort fun x y => decide (x ≤ y)).length = ss.length := List.length_mergeSort ss
  exact ⟨A, c, ss.mergeSort fun x y => decide (x ≤ y), by rw [e1]; rfl, ⟨ss, HS.out, rfl⟩, by rw [e1]; exact hd1, hd2, by rw [e1]; exact hr1.mono (fun j hj => HRb.out j hj), (Touch.of_below HB.out).trans HT2.out (fun j hj e => by have := HRb.out j e; omega)⟩
end Go.Proofs.Ytpgakkpmpnebnaa
