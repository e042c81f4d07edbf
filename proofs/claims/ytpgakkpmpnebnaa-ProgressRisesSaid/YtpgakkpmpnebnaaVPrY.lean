/- The reference's progress: Nodes, greatest. -/
import Derived.Test.YtpgakkpmpnebnaaVPrX
namespace Go.Proofs.Ytpgakkpmpnebnaa
open Go.RowKit Prg
set_option maxHeartbeats 4000000
set_option maxRecDepth 100000
set_option linter.unusedVariables false
attribute [local irreducible] wpPlan

def nodesT (t : Tb) : List Int := Row.rowOf (hasN t)
theorem fnodes_any (t : Tb) (w : World) : Calls Try.prog 63 #[.agg (refT t)] w (NewSl w ((nodesT t).map I64)) := by
  obtain ⟨i0, hi, hz0, hz1, hz2⟩ := info_parts infoI
  have HT0 := Lib.hid ((Touch.refl (fun _ => False) w).alloc (.cells (refT t) 37))
  have HB0 := Lib.hid (Blk.new w 37 (refT t))
  have HC := Lib.hid (fun j (hj : j < 7) => (refA_h (hasN t) (linN t) hj : (refT t)[j]? = some (.bool (hasN t j))))
  generalize refT t = C at *
  go_enter Try.func63, Try.ntmps63
  go_wp2_with fail
  go_loopw [3, 4] (fun v i wr => ∃ j : Nat, j ≤ 7 ∧ i = .int .i64 j ∧ (∃ r, Own wr 3 1 v r (Row.rowK (hasN t) j).length ((Row.rowK (hasN t) j).map I64) ∧ ∀ k, r = some k → w.heap.size < k) ∧ Touch (fun _ => False) w wr ∧ Blk wr w.heap.size 37 C) (fun _ i _ => 7 - (intOf i).toNat)
  case atStart => exact ⟨0, by omega, rfl, ⟨none, Own.nil _ _ _, fun k e => by cases e⟩, HT0.out, HB0.out⟩
  case round =>
    obtain ⟨j, hj, rfl, ⟨r, ho, hrk⟩, hT, hB⟩ := hrel
    obtain ⟨A0, c0, rfl, -, -⟩ := ho.form
    have HO := Lib.hid ho
    have HR := Lib.hid hrk
    have HT := Lib.hid hT
    have HB := Lib.hid hB
    clear ho hT hrk hB HT0 HB0
    by_cases hjk : j < 7
    · have HU := Lib.hid (Row.rowK_succ (hasN t) j)
      have hol := Row.rowK_len (hasN t) j
      have cj := HB.out.cell j
      rw [HC.out j hjk] at cj
      have hbl := HB.out.lt
      cases hb : hasN t j
      · rw [hb] at HU cj
        clear hb
        go_wp2_with fail
        go_roundw
        case rel => exact ⟨j + 1, by omega, by go_num, ⟨r, by rw [HU.out]; simpa using HO.out, HR.out⟩, HT.out, HB.out⟩
        case measure => simp [intOf]; omega
      · rw [hb] at HU cj
        clear hb
        have HTl := Lib.hid ((Touch.refl (fun _ => False) wr).alloc (.cells #[.int .i64 (j : Int)] 3))
        have HBl := Lib.hid (Blk.new wr 3 #[.int .i64 (j : Int)])
        go_wp2_with (
          at_builtin
          go_must (refine wpList_own_append rfl _ _ 23 23 rfl 3 i0 (.int .i64 0) 1 8 Try.underlying23 hi hz0 hz1 hz2 rfl _ r (Row.rowK (hasN t) j).length ((Row.rowK (hasN t) j).map I64) rfl (by exact HO.out.touch HTl.out (fun _ _ e => e)) _ 1 [.int .i64 (j : Int)] rfl (by exact Src.lit Try.underlying23 wr.heap.size 1 1 3 #[.int .i64 (j : Int)] HBl.out rfl (fun u hu => by simp at hu; subst hu; rfl)) (by simp only [maxLen]; omega) (by omega) ?_)
          intro v1 r1 w1 ho1 ht1 hr1
          have HR1 := Lib.hid (And.intro ho1 (And.intro ht1 hr1))
          clear ho1 ht1 hr1)
        go_roundw
        case rel =>
          obtain ⟨ho1, ht1, hr1⟩ := HR1.out
          have hs := HT.out.size
          refine ⟨j + 1, by omega, by go_num, ⟨r1, ?_, ?_⟩, (HT.out.trans HTl.out (fun _ _ e => e)).trans ht1 (fun q hq e => by have := HR.out q e; omega), ht1.blk (HTl.out.blk HB.out (fun e => e)) (fun e => by have := HR.out _ e; omega)⟩
          · rw [HU.out]; simp only [if_true, List.length_append, List.map_append]; exact ho1
          · intro k e
            rcases hr1 with e' | ⟨q, e', hq⟩
            · exact HR.out k (e'.symm.trans e)
            · rw [e'] at e; injection e with e; simp at hq; omega
        case measure => simp [intOf]; omega
    · obtain rfl : j = 7 := by omega
      go_wp2
      go_ret
      obtain ⟨A1, c1, hv, hc1, hc2, _, hr⟩ := HO.out.rd
      injection hv with hv1 hv2 hv3
      subst hv1 hv3
      rw [Row.rowK_7] at hc1 hr
      exact ⟨A0, c0, by rw [List.length_map]; rfl, by simpa [nodesT] using hc1, hc2, by rw [List.length_map]; exact hr.mono fun k hk => Nat.le_of_lt (HR.out k hk), HT.out⟩
theorem rd_U64 {w : World} {F : Nat → Prop} {A : Option Addr} {l : List Nat} (h : Rd w F A l.length (l.map U64)) (hp : 0 < l.length) : ∃ g off, A = some ⟨g, off, none⟩ ∧ g < w.heap.size ∧ ∀ i (hi : i < l.length), w.cell? ⟨g, off + i, none⟩ = some (.int .u64 (l[i] : Nat)) := by
  obtain ⟨g, off, e, hg, _, hc⟩ := h.2 hp
  exact ⟨g, off, e, hg, fun i hi => hc i _ (by simp [U64, hi])⟩
theorem cntGe_take (l : List Nat) (x : Nat) (j : Nat) (hj : j < l.length) : cntGe (l.take (j + 1)) x = cntGe (l.take j) x + if x ≤ l[j] then 1 else 0 := by
  unfold cntGe
  rw [List.take_succ_eq_append_getElem hj, List.filter_append, List.length_append]
  by_cases h : x ≤ l[j] <;> simp [h]
theorem cntGe_len (l : List Nat) (x : Nat) : cntGe l x ≤ l.length := List.length_filter_le _ _
/-- What the document's loop has so far. -/
theorem great_take (all : List Nat) (q : Nat) : ∀ (l : List Nat) (j : Nat) (hj : j < l.length) (b : Nat), great all q (l.take (j + 1)) b = (if q ≤ cntGe all l[j] ∧ great all q (l.take j) b < l[j] then l[j] else great all q (l.take j) b)
  | [], _, hj, _ => by simp at hj
  | x :: l, 0, _, b => by simp [great]
  | x :: l, j + 1, hj, b => by
    have hj' : j < l.length := by simpa using hj
    simp only [List.take_succ_cons, great, List.getElem_cons_succ]
    exact great_take all q l j hj' _
theorem great_lt (all : List Nat) (q N : Nat) : ∀ (l : List Nat) (b : Nat), (∀ x ∈ l, x < N) → b < N → great all q l b < N
  | [], _, _, hb => hb
  | x :: l, b, h, hb => by
    rw [great]
    refine great_lt all q N l _ (fun y hy => h y (List.mem_cons_of_mem _ hy)) ?_
    split
    · exact h x (by simp)
    · exact hb
theorem fgreatest_any (F : Nat → Prop) (A : Option Addr) (c : Nat) (l : List Nat) (q : Nat) (w : World) (hr : Rd w F A l.length (l.map U64)) (hl : l.length ≤ 1000) (hq : q ≤ 1000) (hb : ∀ x ∈ l, x < 18446744073709551616) :
    Calls Try.prog 65 #[.slice A l.length c, .int .i64 q] w fun e w' => e = .returned (.int .u64 (great l q l 0)) ∧ Touch (fun _ => False) w w' := by
  have HR := Lib.hid hr
  clear hr hb
  go_enter Try.func65, Try.ntmps65
  go_wp2_with fail
  go_loopw [5, 6, 7, 8] (fun b i _ _ wr => ∃ j : Nat, j ≤ l.length ∧ i = .int .i64 j ∧ b = .int .u64 (great l q (l.take j) 0) ∧ Touch (fun _ => False) w wr) (fun _ i _ _ _ => l.length - (intOf i).toNat)
  case atStart => exact ⟨0, by omega, rfl, rfl, Touch.refl _ _⟩
  case round =>
    obtain ⟨j, hj, rfl, rfl, hT⟩ := hrel
    have HT := Lib.hid hT
    clear hT
    by_cases hjk : j < l.length
    · have HG := Lib.hid (great_take l q l j hjk 0)
      generalize great l q (l.take j) 0 = best at *
      obtain ⟨g, off, rfl, hgl, hc⟩ := rd_U64 HR.out (by omega)
      have HCl := Lib.hid (fun w1 (t1 : Touch (fun _ => False) w w1) i (hi : i < l.length) => (t1.cell (p := ⟨g, off + i, none⟩) hgl (fun e => e)).trans (hc i hi))
      have HCj := Lib.hid (fun w1 (t1 : Touch (fun _ => False) w w1) => HCl.out w1 t1 j hjk)
      have HTk := Lib.hid (fun k (hk : k < l.length) => cntGe_take l l[j] k hk)
      have HL0 := Lib.hid (show cntGe (l.take l.length) l[j] = cntGe l l[j] by rw [List.take_length])
      have HLe := Lib.hid (fun k => Nat.le_trans (cntGe_len (l.take k) l[j]) (List.length_take_le' _ _))
      generalize l[j] = x at *
      clear hc
      go_wp2_with fail
      go_loopw [7, 8] (fun n k wr2 => ∃ m : Nat, m ≤ l.length ∧ k = .int .i64 m ∧ n = .int .i64 (cntGe (l.take m) x : Nat) ∧ Touch (fun _ => False) w wr2) (fun _ k _ => l.length - (intOf k).toNat)
      case atStart => exact ⟨0, by omega, rfl, rfl, HT.out⟩
      case round =>
        clear HT
        obtain ⟨m, hm, rfl, rfl, hT2⟩ := hrel
        have HT := Lib.hid hT2
        have cj := HCj.out _ hT2
        clear hT2
        have hle := HLe.out m
        by_cases hmk : m < l.length
        · have HM := Lib.hid (HTk.out m hmk)
          have cm := HCl.out _ HT.out m hmk
          generalize l[m] = y at *
          generalize cntGe (l.take m) x = n at *
          by_cases hxy : x ≤ y
          · have hxi : (x : Int) ≤ y := by omega
            rw [if_pos hxy] at HM
            clear hxy
            go_wp2_with fail
            refine wp_region_plan [(0, 0), (0, 1), (0, 2), (0, 3), (0, 4), (0, 5), (0, 6), (0, 7), (0, 8)] (fun _ => False) (by kernel_rfl) (by kernel_rfl) (fun c a d v w h => by cases d <;> exact h) ?_
            iterate 9
              refine plan_s1 rfl (by rfl) (fun Kc hKc => ?_)
              go_simp
              first
                | (refine hKc _ ?_)
              clear hKc Kc
            refine plan_done ?_
            go_wp2_with fail
            go_roundw
            case rel => exact ⟨m + 1, by omega, by go_num, by rw [HM.out]; go_num, HT.out.drew⟩
            case measure => simp [intOf]; omega
          · have hxi : ¬ (x : Int) ≤ y := by omega
            rw [if_neg hxy] at HM
            clear hxy
            go_wp2_with fail
            refine wp_region_plan [(0, 0), (0, 1), (0, 2), (0, 3), (0, 4), (0, 5), (0, 6), (0, 7), (0, 8)] (fun _ => False) (by kernel_rfl) (by kernel_rfl) (fun c a d v w h => by cases d <;> exact h) ?_
            iterate 9
              refine plan_s1 rfl (by rfl) (fun Kc hKc => ?_)
              go_simp
              first
                | (refine hKc _ ?_)
              clear hKc Kc
            refine plan_done ?_
            go_wp2_with fail
            go_roundw
            case rel => exact ⟨m + 1, by omega, by go_num, by rw [HM.out]; rfl, HT.out.drew⟩
            case measure => simp [intOf]; omega
        · obtain rfl : m = l.length := by omega
          rw [HL0.out]
          generalize cntGe l x = n at *
          by_cases hn : q ≤ n
          · have hni : (q : Int) ≤ n := by omega
            by_cases hbx : best < x
            · have hbi : (best : Int) < x := by omega
              rw [if_pos ⟨hn, hbx⟩] at HG
              clear hn hbx
              go_wp2_with fail
              go_roundw
              case rel => exact ⟨j + 1, by omega, by go_num, by rw [HG.out], HT.out⟩
              case measure => simp [intOf]; omega
            · have hbi : ¬ (best : Int) < x := by omega
              rw [if_neg (fun e => hbx e.2)] at HG
              clear hn hbx
              go_wp2_with fail
              go_roundw
              case rel => exact ⟨j + 1, by omega, by go_num, by rw [HG.out], HT.out⟩
              case measure => simp [intOf]; omega
          · have hni : ¬ (q : Int) ≤ n := by omega
            rw [if_neg (fun e => hn e.1)] at HG
            clear hn
            go_wp2_with fail
            go_roundw
            case rel => exact ⟨j + 1, by omega, by go_num, by rw [HG.out], HT.out⟩
            case measure => simp [intOf]; omega
    · obtain rfl : j = l.length := by omega
      have HE := Lib.hid (show great l q (l.take l.length) 0 = great l q l 0 by rw [List.take_length])
      generalize great l q (l.take l.length) 0 = best at *
      go_wp2
      go_ret
      exact ⟨by rw [← HE.out]; rfl, HT.out⟩
end Go.Proofs.Ytpgakkpmpnebnaa
