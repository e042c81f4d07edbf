/- The plain law of an insertion sort; cmp.Less and bits.Len at small numbers. slices.Sort at at most twelve uint64: insertionSortOrdered. -/
import Derived.Test.YtmgmjehebbggaaaVQuillX
import Derived.Test.YtmgmjehebbggaaaPlan
section
namespace Go.Proofs.Ytmgmjehebbggaaa
open Go.RowKit
set_option maxHeartbeats 4000000
set_option maxRecDepth 100000
set_option linter.unusedVariables false

theorem get_U64k {l : List Nat} {j : Nat} (hj : j < l.length) : (l.map U64)[j]? = some (U64 (l.getD j 0)) := by simp [List.getD, List.getElem?_eq_getElem hj]
/-- Sorted up to k, but for the one at j, which is no greater than those behind it. -/
def Ins (ys : List Nat) (k j : Nat) : Prop := (∀ p q, p < q → q ≤ k → p ≠ j → q ≠ j → ys.getD p 0 ≤ ys.getD q 0) ∧ ∀ q, j < q → q ≤ k → ys.getD j 0 ≤ ys.getD q 0
/-- Sorted below k. -/
def Srt (ys : List Nat) (k : Nat) : Prop := ∀ p q, p < q → q < k → ys.getD p 0 ≤ ys.getD q 0
theorem Srt.ins {ys : List Nat} {k : Nat} (h : Srt ys k) : Ins ys k k := ⟨fun p q h1 h2 _ h4 => h p q h1 (by omega), fun q h1 h2 => by omega⟩
theorem Ins.done {ys : List Nat} {k j : Nat} (h : Ins ys k j) (hj : j = 0 ∨ ys.getD (j - 1) 0 ≤ ys.getD j 0) : Srt ys (k + 1) := by
  intro p q h1 h2
  by_cases hp : p = j
  · subst hp; exact h.2 q h1 (by omega)
  · by_cases hq : q = j
    · subst hq
      rcases hj with h0 | h0
      · omega
      · by_cases hp1 : p = q - 1
        · subst hp1; exact h0
        · exact Nat.le_trans (h.1 p (q - 1) (by omega) (by omega) hp (by omega)) h0
    · exact h.1 p q h1 (by omega) hp hq
def swp (ys : List Nat) (j : Nat) : List Nat := (ys.set j (ys.getD (j - 1) 0)).set (j - 1) (ys.getD j 0)
theorem swp_len (ys : List Nat) (j : Nat) : (swp ys j).length = ys.length := by simp [swp]
theorem swp_get {ys : List Nat} {j : Nat} (hj : 0 < j) (hl : j < ys.length) (p : Nat) : (swp ys j).getD p 0 = if p = j - 1 then ys.getD j 0 else if p = j then ys.getD (j - 1) 0 else ys.getD p 0 := by
  simp only [swp, List.getD, List.getElem?_set]
  by_cases h1 : p = j - 1
  · subst h1
    rw [if_pos rfl, if_pos rfl, if_pos (by simp; omega)]
    rfl
  · rw [if_neg h1, if_neg (fun e => h1 e.symm)]
    by_cases h2 : p = j
    · subst h2; simp [hl]
    · rw [if_neg h2, if_neg (fun e => h2 e.symm)]
theorem Ins.step {ys : List Nat} {k j : Nat} (h : Ins ys k j) (hj : 0 < j) (hjk : j ≤ k) (hl : j < ys.length) (hlt : ys.getD j 0 < ys.getD (j - 1) 0) : Ins (swp ys j) k (j - 1) := by
  constructor
  · intro p q h1 h2 h3 h4
    rw [swp_get hj hl, swp_get hj hl, if_neg h3, if_neg h4]
    by_cases hp : p = j
    · rw [if_pos hp, if_neg (by omega)]
      exact h.1 (j - 1) q (by omega) h2 (by omega) (by omega)
    · rw [if_neg hp]
      by_cases hq : q = j
      · rw [if_pos hq]
        exact h.1 p (j - 1) (by omega) (by omega) hp (by omega)
      · rw [if_neg hq]; exact h.1 p q h1 h2 hp hq
  · intro q h1 h2
    rw [swp_get hj hl, swp_get hj hl, if_pos rfl, if_neg (by omega)]
    by_cases hq : q = j
    · rw [if_pos hq]; omega
    · rw [if_neg hq]; exact h.2 q (by omega) h2
theorem swp_perm {ys : List Nat} {j : Nat} (hj : 0 < j) (hl : j < ys.length) : (swp ys j).Perm ys := by
  have e : swp ys j = (ys.set (j - 1) (ys.getD j 0)).set j (ys.getD (j - 1) 0) := by
    rw [swp, List.set_comm _ _ (by omega)]
  rw [e]
  have h1 : ys.getD j 0 = ys[j]'hl := by simp [List.getD, List.getElem?_eq_getElem hl]
  have h2 : ys.getD (j - 1) 0 = ys[j - 1]'(by omega) := by simp [List.getD, List.getElem?_eq_getElem (show j - 1 < ys.length by omega)]
  rw [h1, h2]
  exact List.set_set_perm (by omega) hl
theorem srt_eq {xs ys : List Nat} (hp : ys.Perm xs) (hs : Srt ys ys.length) : ys = xs.mergeSort (fun x y => decide (x ≤ y)) := by
  have h1 : ys.Pairwise (fun x y => x ≤ y) := by
    rw [List.pairwise_iff_getElem]
    intro i j hi hj hij
    have := hs i j hij hj
    simpa [List.getD, List.getElem?_eq_getElem hi, List.getElem?_eq_getElem hj] using this
  have h2 : (xs.mergeSort (fun x y => decide (x ≤ y))).Pairwise (fun x y => x ≤ y) := by
    have := List.pairwise_mergeSort (le := fun x y : Nat => decide (x ≤ y)) (fun a b c h1 h2 => by simp at *; omega) (fun a b => by simp; omega) xs
    exact this.imp fun h => by simpa using h
  exact List.Perm.eq_of_pairwise (le := (· ≤ ·)) (fun a b _ _ h1 h2 => Nat.le_antisymm h1 h2) h1 h2 (hp.trans (List.mergeSort_perm xs _).symm)
theorem isnan_any (x : Nat) (w : World) : Calls Try.prog 93 #[.int .u64 x] w fun e w' => e = .returned (.bool false) ∧ w = w' := by
  go_enter Try.func93, Try.ntmps93
  go_wp2
  go_ret
  exact ⟨rfl, rfl⟩
theorem less_any (x y : Nat) (w : World) : Calls Try.prog 83 #[.int .u64 x, .int .u64 y] w fun e w' => e = .returned (.bool (decide (x < y))) ∧ w = w' := by
  by_cases h : x < y
  · have h' : (x : Int) < y := by omega
    rw [decide_eq_true h]
    go_enter Try.func83, Try.ntmps83
    go_wp2_with (go_at_call 93; go_must (refine (isnan_any x _).mono ?_); rintro e w1 ⟨rfl, rfl⟩)
    go_ret
    exact ⟨rfl, rfl⟩
  · have h' : ¬ (x : Int) < y := by omega
    rw [decide_eq_false h]
    go_enter Try.func83, Try.ntmps83
    go_wp2_with (go_at_call 93; go_must (refine (isnan_any x _).mono ?_); rintro e w1 ⟨rfl, rfl⟩)
    go_ret
    exact ⟨rfl, rfl⟩
end Go.Proofs.Ytmgmjehebbggaaa
end

section
namespace Go.Proofs.Ytmgmjehebbggaaa
open Go.RowKit
set_option maxHeartbeats 4000000
set_option maxRecDepth 100000
set_option linter.unusedVariables false

attribute [local irreducible] wpPlan
theorem OwnU.frozen {w : World} {e : TypeId} {g n : Nat} {v : Value} {xs : List Value} (h : Own w e 1 v (some g) n xs) (k : Nat) : w.frozen? ⟨g, k, none⟩ = false := by
  rcases h.2 with ⟨_, _, hr⟩ | ⟨g', cap, cur, hr, hv, hb, _⟩
  · cases hr
  · injection hr with hr; subst hr; exact hb.frozen k
theorem OwnU.store {w : World} {e : TypeId} {g n : Nat} {v : Value} {xs : List Nat} (h : Own w e 1 v (some g) n (xs.map U64)) (i : Nat) (hi : i < xs.length) (u : Nat) : Own (w.setCell ⟨g, i, none⟩ (U64 u)) e 1 v (some g) n ((xs.set i u).map U64) := by
  refine ⟨by simpa using h.1, ?_⟩
  rcases h.2 with ⟨_, _, hr⟩ | ⟨g', cap, cur, hr, hv, hb, hn, hc, hs, ht⟩
  · cases hr
  · injection hr with hr; subst hr
    refine .inr ⟨g, cap, _, rfl, hv, hb.set_ i (U64 u), hn, hc, by simpa using hs, ?_⟩
    rw [Array.toList_setIfInBounds, List.take_set, ht, List.map_set]
theorem insort_any (g cap n : Nat) (xs : List Nat) (w : World) (hl : xs.length = n) (hn : n ≤ 12) (ho : Own w 29 1 (.slice (some ⟨g, 0, none⟩) n cap) (some g) n (xs.map U64)) :
    Calls Try.prog 77 #[.slice (some ⟨g, 0, none⟩) n cap, .int .i64 0, .int .i64 n] w fun e w' => e = .returned (.tuple #[]) ∧ Own w' 29 1 (.slice (some ⟨g, 0, none⟩) n cap) (some g) n ((xs.mergeSort (fun x y => decide (x ≤ y))).map U64) ∧ Touch (fun k => k = g) w w' := by
  have HO := Lib.hid ho
  have HLn := Lib.hid hl
  clear ho hl
  go_enter Try.func77, Try.ntmps77
  go_wp2_with fail
  go_loopw [6] (fun i wr => ∃ (k : Nat) (ys : List Nat), 1 ≤ k ∧ (k ≤ n ∨ k = 1) ∧ i = .int .i64 k ∧ ys.Perm xs ∧ Srt ys k ∧ Own wr 29 1 (.slice (some ⟨g, 0, none⟩) n cap) (some g) n (ys.map U64) ∧ Touch (fun k => k = g) w wr) (fun i _ => n + 1 - (intOf i).toNat)
  case atStart => exact ⟨1, xs, by omega, .inr rfl, rfl, List.Perm.refl _, fun p q h1 h2 => by omega, HO.out, Touch.refl _ _⟩
  case round =>
    obtain ⟨k, ys, hk1, hkn, rfl, hp, hs, ho, ht⟩ := hrel
    have HP := Lib.hid hp
    have HS := Lib.hid hs
    have HO1 := Lib.hid ho
    have HT1 := Lib.hid ht
    clear hp hs ho ht
    by_cases hk : k < n
    · go_wp2_with fail
      go_loopw [7] (fun i wr => ∃ (j : Nat) (ys : List Nat), j ≤ k ∧ i = .int .i64 j ∧ ys.Perm xs ∧ Ins ys k j ∧ Own wr 29 1 (.slice (some ⟨g, 0, none⟩) n cap) (some g) n (ys.map U64) ∧ Touch (fun k => k = g) w wr) (fun i _ => (intOf i).toNat)
      case atStart => exact ⟨k, ys, by omega, rfl, HP.out, HS.out.ins, HO1.out, HT1.out⟩
      case round =>
        clear HP HS HO1 HT1
        obtain ⟨j, ys, hj, rfl, hp, hs, ho, ht⟩ := hrel
        have hyl : ys.length = n := hp.length_eq.trans HLn.out
        have HP := Lib.hid hp
        have HS := Lib.hid hs
        have HO1 := Lib.hid ho
        have HT1 := Lib.hid ht
        have HYl := Lib.hid hyl
        by_cases h0 : j = 0
        · subst h0
          have HD := Lib.hid (hs.done (.inl rfl))
          clear hp hs ho ht hyl
          go_wp2_with fail
          refine wp_region_plan [(0, 0), (0, 1), (0, 2), (0, 3), (0, 4), (0, 5), (0, 6), (0, 7), (0, 8), (0, 9), (0, 10), (0, 11), (0, 12), (0, 13), (0, 14)] (fun _ => False) (by kernel_rfl) (by kernel_rfl) (fun c a d v w h => by cases d <;> exact h) ?_
          iterate 15
            refine plan_s rfl fun Kc hKc => ?_
            go_simp
            first
              | (refine hKc _ ?_)
            clear hKc Kc
          refine plan_done ?_
          go_wp2
          go_roundw
          case rel => exact ⟨k + 1, ys, by omega, .inl (by omega), by go_num, HP.out, HD.out, HO1.out, HT1.out.drew⟩
          case measure => simp [intOf]; omega
        · obtain ⟨i, rfl⟩ : ∃ i, j = i + 1 := ⟨j - 1, by omega⟩
          have hc1 := ho.cellAt (i + 1) (by simp; omega)
          have hc2 := ho.cellAt i (by simp; omega)
          rw [get_U64k (by omega)] at hc1 hc2
          simp only [U64] at hc1 hc2
          have HSt := Lib.hid (fun hlt => hs.step (by omega) hj (by omega) hlt)
          have HDn := Lib.hid (fun hle => hs.done (j := i + 1) (.inr hle))
          simp only [Nat.add_sub_cancel] at HSt HDn
          have HSw := Lib.hid (show swp ys (i + 1) = (ys.set (i + 1) (ys.getD i 0)).set i (ys.getD (i + 1) 0) from rfl)
          have HPm := Lib.hid (swp_perm (ys := ys) (j := i + 1) (by omega) (by omega))
          have hwr : IntKind.i64.wrap (((i + 1 : Nat) : Int) - 1) = (i : Int) := by rw [IntWalk.i64_in _ (by omega)]; omega
          have hwr' : IntKind.i64.wrap ((i : Int) + 1 - 1) = (i : Int) := by rw [IntWalk.i64_in _ (by omega)]; omega
          have hpos : (0 : Int) < (i : Int) + 1 := by omega
          have hin : (i : Int) + 1 < n := by omega
          have hnn : (0 : Int) ≤ (i : Int) + 1 := by omega
          have hwi : IntKind.i64.wrap (i : Int) = (i : Int) := IntWalk.i64_in _ (by omega)
          have hin' : (i : Int) < n := by omega
          have f1 := OwnU.frozen ho (i + 1)
          have f2 := OwnU.frozen ho i
          clear hp hs ho ht hyl h0
          generalize hx : ys.getD (i + 1) 0 = x at *
          generalize hy : ys.getD i 0 = y at *
          have HL := Lib.hid (less_any x y)
          by_cases hlt : x < y
          · rw [decide_eq_true hlt] at HL
            have HS2 := Lib.hid (HSt.out hlt)
            clear hx hy
            go_wp2_with fail
            refine wp_region_plan [(0, 0), (0, 1), (0, 2), (0, 3), (0, 4), (0, 5), (0, 6), (0, 7), (0, 8), (0, 9), (0, 10), (0, 11), (0, 12), (0, 13), (0, 14)] (fun _ => False) (by kernel_rfl) (by kernel_rfl) (fun c a d v w h => by cases d <;> exact h) ?_
            iterate 15
              refine plan_s rfl fun Kc hKc => ?_
              go_simp
              first
                | (refine hKc _ ?_)
                | (refine ⟨_, calls_flip (HL.out _), hKc _ ?_⟩)
              clear hKc Kc
            refine plan_done ?_
            go_wp2_with fail
            obtain ⟨W, hW⟩ : ∃ W, W = wr.drew := ⟨_, rfl⟩
            rw [← hW]
            have HTW := Lib.hid (show Touch (fun k => k = g) wr W from hW ▸ (Touch.refl _ wr).drew)
            have HO2 := Lib.hid (show Own W 29 1 (.slice (some ⟨g, 0, none⟩) n cap) (some g) n (ys.map U64) from hW ▸ HO1.out.touch ((Touch.refl (fun _ => False) wr).drew) (fun _ _ e => e))
            have c1 : W.cell? ⟨g, i + 1, none⟩ = some (.int .u64 x) := by rw [hW]; exact hc1
            have c2 : W.cell? ⟨g, i, none⟩ = some (.int .u64 y) := by rw [hW]; exact hc2
            clear hW hc1 hc2 f1 f2
            have f1 := OwnU.frozen HO2.out (i + 1)
            have HO3 := Lib.hid ((OwnU.store HO2.out (i + 1) (by have := HYl.out; omega) y).touch ((Touch.refl (fun _ => False) _).drew) (fun _ _ e => e))
            have f3 : ((W.setCell ⟨g, i + 1, none⟩ (.int .u64 y)).drew).frozen? ⟨g, i, none⟩ = false := OwnU.frozen HO3.out i
            have c3 : ((W.setCell ⟨g, i + 1, none⟩ (.int .u64 y)).drew).cell? ⟨g, i, none⟩ = some (U64 ((ys.set (i + 1) y).getD i 0)) := by
              have := HO3.out.cellAt i (by have := HYl.out; simp; omega)
              rw [get_U64k (by have := HYl.out; simp; omega)] at this
              exact this
            simp only [U64] at c3
            refine wp_region_plan [(0, 0), (0, 1), (0, 5), (0, 6), (0, 7), (0, 8), (0, 9), (0, 10), (0, 11), (0, 12), (0, 13), (0, 14), (1, 2), (1, 3), (1, 4), (2, 15), (0, 16), (2, 17)] (fun q => q = g) (by kernel_rfl) (by kernel_rfl) (fun c a d v w h => by cases d <;> exact h) ?_
            iterate 12
              first
                | (refine plan_s1 rfl (by rfl) (fun Kc hKc => ?_)
                   go_simp
                   first
                     | (refine hKc _ ?_)
                   clear hKc Kc)
                | (refine plan_s0 rfl (by rfl) ?_; go_frame)
            iterate 3
              first
                | (apply plan_h
                   · rfl
                   · rfl
                   · intro wh hT
                     go_simp
                     try rfl
                   go_frame)
                | (refine plan_hn rfl (by rfl) ?_; go_frame)
            refine plan_a1 rfl (by rfl) (fun Kc hKc => ?_)
            go_simp
            refine hKc _ _ ⟨(show Touch (fun q => q = g) W.drew ((W.setCell ⟨g, i + 1, none⟩ (.int .u64 y)).drew) from (Touch.refl (fun q => q = g) W.drew).set (fun _ => rfl) _), ?_⟩
            clear hKc Kc
            iterate 1
              first
                | (refine plan_s1 rfl (by rfl) (fun Kc hKc => ?_)
                   go_simp
                   first
                     | (refine hKc _ ?_)
                   clear hKc Kc)
                | (refine plan_s0 rfl (by rfl) ?_; go_frame)
            refine plan_a1 rfl (by rfl) (fun Kc hKc => ?_)
            go_simp
            refine hKc _ _ ⟨(show Touch (fun q => q = g) ((W.setCell ⟨g, i + 1, none⟩ (.int .u64 y)).drew) (((W.setCell ⟨g, i + 1, none⟩ (.int .u64 y)).setCell ⟨g, i, none⟩ (.int .u64 x)).drew) from (Touch.refl (fun q => q = g) ((W.setCell ⟨g, i + 1, none⟩ (.int .u64 y)).drew)).set (fun _ => rfl) _), ?_⟩
            clear hKc Kc
            refine plan_done ?_
            clear hwi
            go_wp2_with fail
            have ht2 : Touch (fun k => k = g) W (((W.setCell ⟨g, i + 1, none⟩ (.int .u64 y)).setCell ⟨g, i, none⟩ (.int .u64 x)).drew) := (((Touch.refl (fun k => k = g) W).set (fun _ => rfl) _).set (fun _ => rfl) _).drew
            have ho4 := (OwnU.store (OwnU.store HO2.out (i + 1) (by have := HYl.out; omega) y) i (by have := HYl.out; simp; omega) x).touch ((Touch.refl (fun _ => False) _).drew) (fun _ _ e => e)
            rw [← HSw.out] at ho4
            have HO4 := Lib.hid ho4
            have HT4 := Lib.hid (HT1.out.trans (HTW.out.trans ht2 (fun _ _ e => e)) (fun _ _ e => e))
            clear ho4 ht2
            go_roundw
            case rel => exact ⟨i, _, by omega, rfl, HPm.out.trans HP.out, HS2.out, HO4.out, HT4.out⟩
            case measure => simp [intOf]
          · rw [decide_eq_false hlt] at HL
            have HD2 := Lib.hid (HDn.out (by omega))
            clear hx hy
            go_wp2_with fail
            refine wp_region_plan [(0, 0), (0, 1), (0, 2), (0, 3), (0, 4), (0, 5), (0, 6), (0, 7), (0, 8), (0, 9), (0, 10), (0, 11), (0, 12), (0, 13), (0, 14)] (fun _ => False) (by kernel_rfl) (by kernel_rfl) (fun c a d v w h => by cases d <;> exact h) ?_
            iterate 15
              refine plan_s rfl fun Kc hKc => ?_
              go_simp
              first
                | (refine hKc _ ?_)
                | (refine ⟨_, calls_flip (HL.out _), hKc _ ?_⟩)
              clear hKc Kc
            refine plan_done ?_
            go_wp2
            go_roundw
            case rel => exact ⟨k + 1, ys, by omega, .inl (by omega), by go_num, HP.out, HD2.out, HO1.out, HT1.out.drew⟩
            case measure => simp [intOf]; omega
    · go_wp2
      go_end0
      have hyl : ys.length = n := HP.out.length_eq.trans HLn.out
      have hs' : Srt ys ys.length := fun p q h1 h2 => HS.out p q h1 (by omega)
      exact ⟨rfl, by rw [← srt_eq HP.out hs']; exact HO1.out, HT1.out⟩
end Go.Proofs.Ytmgmjehebbggaaa
end
