/- contract.Same (slices.Equal), ref14.Same. (written by genct.py) -/
import Derived.Test.YtlcefchbfjfifaaGreatVChA
import Derived.Test.YtlcefchbfjfifaaGreatVCalJ
import Derived.Test.YtlcefchbfjfifaaGreatVPlan
namespace Go.Proofs.YtlcefchbfjfifaaGreat
open Go.RowKit Cal
set_option maxHeartbeats 4000000
set_option maxRecDepth 100000
set_option linter.unusedVariables false
attribute [local irreducible] wpPlan

/-- Are two contracts the same? -/
def sameK (a b : Co) : Bool := decide (a.cal = b.cal) && decide (a.rt = b.rt) && decide (a.bk = b.bk) && sameL a.lv b.lv
theorem sameK_self (c : Co) : sameK c c = true := by simp [sameK, sameL_self]
theorem sameK_eq {a b : Co} (h : sameK a b = true) : a = b := by
  simp only [sameK, Bool.and_eq_true, decide_eq_true_eq] at h
  obtain ⟨cal, lv, rt, bk⟩ := a
  obtain ⟨cal', lv', rt', bk'⟩ := b
  simp only at h
  obtain ⟨⟨⟨rfl, rfl⟩, rfl⟩, h⟩ := h
  rw [sameL_eq _ _ h]
theorem leq_any (F F' : Nat → Prop) (A A' : Option Addr) (c c' : Nat) (a b : List Sp) (w : World) (hr : SpR w F A a.length a) (hr' : SpR w F' A' b.length b) (hsm : a.length ≤ 1000000) :
    Calls Tryz.prog 39 #[.slice A a.length c, .slice A' b.length c'] w fun e w' => e = .returned (.bool (sameL a b)) ∧ Touch (fun _ => False) w w' := by
  have Hr := Lib.hid hr
  have Hr' := Lib.hid hr'
  clear hr hr'
  by_cases hlen : a.length = b.length
  · rw [← hlen] at Hr' ⊢
    have HL := Lib.hid hlen
    clear hlen
    go_enter Tryz.func39, Tryz.ntmps39
    go_wp2_with fail
    go_loopw [13] (fun i wr => ∃ j : Nat, j ≤ a.length ∧ i = .int .i64 j ∧ sameL (a.drop j) (b.drop j) = sameL a b ∧ Touch (fun _ => False) w wr) (fun i _ => a.length - (intOf i).toNat)
    case atStart => exact ⟨0, by omega, rfl, rfl, Touch.refl _ _⟩
    case round =>
      obtain ⟨j, hj, rfl, hno, hT⟩ := hrel
      have HN := Lib.hid hno
      have HT := Lib.hid hT
      clear hno hT
      by_cases hjk : j < a.length
      · have ha : a[j]? = some (a[j]'hjk) := List.getElem?_eq_getElem _
        have hb : b[j]? = some (b[j]'(by have := HL.out; omega)) := List.getElem?_eq_getElem _
        obtain ⟨g, off, rfl, hg, -, hc0, hc1⟩ := (Hr.out.touch HT.out (fun _ _ e => e)).at_ ha
        obtain ⟨g', off', rfl, hg', -, hd0, hd1⟩ := (Hr'.out.touch HT.out (fun _ _ e => e)).at_ hb
        have HE := Lib.hid (sameL_drop a b j _ _ ha hb)
        generalize a[j]'hjk = s at *
        generalize b[j]'_ = u at *
        obtain ⟨f, t⟩ := s
        obtain ⟨f', t'⟩ := u
        simp only at hc0 hc1 hd0 hd1
        clear ha hb
        by_cases h1 : f = f' ∧ t = t'
        · obtain ⟨rfl, rfl⟩ := h1
          have HV := Lib.hid (show sameL (a.drop (j + 1)) (b.drop (j + 1)) = sameL a b by rw [← HN.out, HE.out]; simp)
          go_wp2_with fail
          refine wp_region_plan [(0, 0), (0, 1), (0, 2), (0, 3), (0, 4), (0, 5), (0, 6), (0, 7), (0, 8)] (fun _ => False) (by kernel_rfl) (by kernel_rfl) (fun c a d v w h => by cases d <;> exact h) ?_
          iterate 9
            refine plan_s1 rfl (by rfl) (fun Kc hKc => ?_)
            go_simp
            first
              | (refine hKc _ ?_)
            clear hKc Kc
          refine plan_done ?_
          go_wp2
          go_roundw
          case rel => exact ⟨j + 1, by omega, by go_num, HV.out, HT.out.drew⟩
          case measure => simp [intOf]; omega
        · have HV := Lib.hid (show sameL a b = false by rw [← HN.out, HE.out]; simp; intro h2 h3; exact absurd ⟨h2, h3⟩ h1)
          by_cases hf : f = f'
          · subst hf
            have ht : ¬ t = t' := fun e => h1 ⟨rfl, e⟩
            clear h1
            go_wp2_with fail
            refine wp_region_plan [(0, 0), (0, 1), (0, 2), (0, 3), (0, 4), (0, 5), (0, 6), (0, 7), (0, 8)] (fun _ => False) (by kernel_rfl) (by kernel_rfl) (fun c a d v w h => by cases d <;> exact h) ?_
            iterate 9
              refine plan_s1 rfl (by rfl) (fun Kc hKc => ?_)
              go_simp
              first
                | (refine hKc _ ?_)
              clear hKc Kc
            refine plan_done ?_
            go_wp2
            go_ret
            exact ⟨ret_bool HV.out.symm, HT.out.drew⟩
          · clear h1
            go_wp2_with fail
            refine wp_region_plan [(0, 0), (0, 1), (0, 2), (0, 3), (0, 4), (0, 5), (0, 6), (0, 7), (0, 8)] (fun _ => False) (by kernel_rfl) (by kernel_rfl) (fun c a d v w h => by cases d <;> exact h) ?_
            iterate 9
              refine plan_s1 rfl (by rfl) (fun Kc hKc => ?_)
              go_simp
              first
                | (refine hKc _ ?_)
              clear hKc Kc
            refine plan_done ?_
            go_wp2
            go_ret
            exact ⟨ret_bool HV.out.symm, HT.out.drew⟩
      · obtain rfl : j = a.length := by omega
        have HV := Lib.hid (show sameL a b = true by rw [← HN.out, List.drop_length, HL.out, List.drop_length]; rfl)
        go_wp2
        go_ret
        exact ⟨ret_bool HV.out.symm, HT.out⟩
  · have HV := Lib.hid (show sameL a b = false by cases h : sameL a b; rfl; exact absurd (sameL_len a b h) hlen)
    go_enter Tryz.func39, Tryz.ntmps39
    have hd : ((a.length : Int) != (b.length : Int)) = true := by simp; omega
    go_wp2
    go_ret
    exact ⟨ret_bool HV.out.symm, Touch.refl _ _⟩
theorem ksame_any (F F' : Nat → Prop) (A A' : Option Addr) (n n' : Nat) (a b : Co) (w : World) (hr : SpR w F A a.lv.length a.lv) (hr' : SpR w F' A' b.lv.length b.lv) (h1 : a.lv.length ≤ 1000000) :
    Calls Tryz.prog 11 #[.agg #[.int .i64 a.cal, .slice A a.lv.length n, .int .i64 a.rt, .int .i64 a.bk], .agg #[.int .i64 b.cal, .slice A' b.lv.length n', .int .i64 b.rt, .int .i64 b.bk]] w fun e w' => e = .returned (.bool (sameK a b)) ∧ Touch (fun _ => False) w w' := by
  have HT := Lib.hid (((Touch.refl (fun _ => False) w).alloc (.cells #[.int .i64 a.cal, .slice A a.lv.length n, .int .i64 a.rt, .int .i64 a.bk] 24)).alloc (.cells #[.int .i64 b.cal, .slice A' b.lv.length n', .int .i64 b.rt, .int .i64 b.bk] 24))
  have HB0 := Lib.hid ((Blk.new w 24 #[.int .i64 a.cal, .slice A a.lv.length n, .int .i64 a.rt, .int .i64 a.bk]).alloc (.cells #[.int .i64 b.cal, .slice A' b.lv.length n', .int .i64 b.rt, .int .i64 b.bk] 24))
  have HB1 := Lib.hid (show Blk ((w.alloc (.cells #[.int .i64 a.cal, .slice A a.lv.length n, .int .i64 a.rt, .int .i64 a.bk] 24)).alloc (.cells #[.int .i64 b.cal, .slice A' b.lv.length n', .int .i64 b.rt, .int .i64 b.bk] 24)) (w.heap.size + 1) 24 #[.int .i64 b.cal, .slice A' b.lv.length n', .int .i64 b.rt, .int .i64 b.bk] by simpa using Blk.new (w.alloc (.cells #[.int .i64 a.cal, .slice A a.lv.length n, .int .i64 a.rt, .int .i64 a.bk] 24)) 24 #[.int .i64 b.cal, .slice A' b.lv.length n', .int .i64 b.rt, .int .i64 b.bk])
  have HR := Lib.hid hr
  have HR' := Lib.hid hr'
  have HE := Lib.hid (fun w1 hr hr' => leq_any F F' A A' n n' a.lv b.lv w1 hr hr' h1)
  have HV := Lib.hid (show sameK a b = (decide (a.cal = b.cal) && decide (a.rt = b.rt) && decide (a.bk = b.bk) && sameL a.lv b.lv) from rfl)
  generalize sameK a b = v at *
  clear hr hr'
  obtain ⟨cal, lv, rt, bk⟩ := a
  obtain ⟨cal', lv', rt', bk'⟩ := b
  simp only at *
  by_cases hc : cal = cal'
  rotate_left
  · have e1 : (cal == cal') = false := by simpa using hc
    have e2 : (cal != cal') = true := by simpa using hc
    have HV2 := Lib.hid (show v = false by rw [HV.out]; simp [hc])
    clear HV HE
    go_enter Tryz.func11, Tryz.ntmps11
    go_wp2
    go_ret
    exact ⟨ret_bool HV2.out.symm, HT.out⟩
  subst hc
  by_cases hq : rt = rt'
  rotate_left
  · have e1 : (rt == rt') = false := by simpa using hq
    have e2 : (rt != rt') = true := by simpa using hq
    have HV2 := Lib.hid (show v = false by rw [HV.out]; simp [hq])
    clear HV HE
    go_enter Tryz.func11, Tryz.ntmps11
    go_wp2
    go_ret
    exact ⟨ret_bool HV2.out.symm, HT.out⟩
  subst hq
  by_cases hb : bk = bk'
  rotate_left
  · have e1 : (bk == bk') = false := by simpa using hb
    have e2 : (bk != bk') = true := by simpa using hb
    have HV2 := Lib.hid (show v = false by rw [HV.out]; simp [hb])
    clear HV HE
    go_enter Tryz.func11, Tryz.ntmps11
    go_wp2
    go_ret
    exact ⟨ret_bool HV2.out.symm, HT.out⟩
  subst hb
  have HV2 := Lib.hid (show v = sameL lv lv' by rw [HV.out]; simp)
  clear HV
  go_enter Tryz.func11, Tryz.ntmps11
  go_wp2_with (go_at_call 39; go_must (refine (HE.out _ (by exact HR.out.touch HT.out (fun _ _ e => e)) (by exact HR'.out.touch HT.out (fun _ _ e => e))).mono ?_); rintro e w1 ⟨rfl, t1⟩; have HT1 := Lib.hid (HT.out.trans t1 (fun _ _ e => e)); clear t1)
  go_ret
  exact ⟨ret_bool HV2.out.symm, HT1.out⟩
theorem fksame_any (F F' : Nat → Prop) (A A' : Option Addr) (n n' : Nat) (a b : Co) (w : World) (hr : SpR w F A a.lv.length a.lv) (hr' : SpR w F' A' b.lv.length b.lv) (h1 : a.lv.length ≤ 1000000) :
    Calls Tryz.prog 12 #[.agg #[.int .i64 a.cal, .slice A a.lv.length n, .int .i64 a.rt, .int .i64 a.bk], .agg #[.int .i64 b.cal, .slice A' b.lv.length n', .int .i64 b.rt, .int .i64 b.bk]] w fun e w' => e = .returned (.bool (sameK a b)) ∧ Touch (fun _ => False) w w' := by
  have HT := Lib.hid (((Touch.refl (fun _ => False) w).alloc (.cells #[.int .i64 a.cal, .slice A a.lv.length n, .int .i64 a.rt, .int .i64 a.bk] 24)).alloc (.cells #[.int .i64 b.cal, .slice A' b.lv.length n', .int .i64 b.rt, .int .i64 b.bk] 24))
  have HB0 := Lib.hid ((Blk.new w 24 #[.int .i64 a.cal, .slice A a.lv.length n, .int .i64 a.rt, .int .i64 a.bk]).alloc (.cells #[.int .i64 b.cal, .slice A' b.lv.length n', .int .i64 b.rt, .int .i64 b.bk] 24))
  have HB1 := Lib.hid (show Blk ((w.alloc (.cells #[.int .i64 a.cal, .slice A a.lv.length n, .int .i64 a.rt, .int .i64 a.bk] 24)).alloc (.cells #[.int .i64 b.cal, .slice A' b.lv.length n', .int .i64 b.rt, .int .i64 b.bk] 24)) (w.heap.size + 1) 24 #[.int .i64 b.cal, .slice A' b.lv.length n', .int .i64 b.rt, .int .i64 b.bk] by simpa using Blk.new (w.alloc (.cells #[.int .i64 a.cal, .slice A a.lv.length n, .int .i64 a.rt, .int .i64 a.bk] 24)) 24 #[.int .i64 b.cal, .slice A' b.lv.length n', .int .i64 b.rt, .int .i64 b.bk])
  have HR := Lib.hid hr
  have HR' := Lib.hid hr'
  have HE := Lib.hid (fun w1 hr hr' => leq_any F F' A A' n n' a.lv b.lv w1 hr hr' h1)
  have HV := Lib.hid (show sameK a b = (decide (a.cal = b.cal) && decide (a.rt = b.rt) && decide (a.bk = b.bk) && sameL a.lv b.lv) from rfl)
  generalize sameK a b = v at *
  clear hr hr'
  obtain ⟨cal, lv, rt, bk⟩ := a
  obtain ⟨cal', lv', rt', bk'⟩ := b
  simp only at *
  by_cases hc : cal = cal'
  rotate_left
  · have e1 : (cal == cal') = false := by simpa using hc
    have e2 : (cal != cal') = true := by simpa using hc
    have HV2 := Lib.hid (show v = false by rw [HV.out]; simp [hc])
    clear HV HE
    go_enter Tryz.func12, Tryz.ntmps12
    go_wp2
    go_ret
    exact ⟨ret_bool HV2.out.symm, HT.out⟩
  subst hc
  by_cases hq : rt = rt'
  rotate_left
  · have e1 : (rt == rt') = false := by simpa using hq
    have e2 : (rt != rt') = true := by simpa using hq
    have HV2 := Lib.hid (show v = false by rw [HV.out]; simp [hq])
    clear HV HE
    go_enter Tryz.func12, Tryz.ntmps12
    go_wp2
    go_ret
    exact ⟨ret_bool HV2.out.symm, HT.out⟩
  subst hq
  by_cases hb : bk = bk'
  rotate_left
  · have e1 : (bk == bk') = false := by simpa using hb
    have e2 : (bk != bk') = true := by simpa using hb
    have HV2 := Lib.hid (show v = false by rw [HV.out]; simp [hb])
    clear HV HE
    go_enter Tryz.func12, Tryz.ntmps12
    go_wp2
    go_ret
    exact ⟨ret_bool HV2.out.symm, HT.out⟩
  subst hb
  have HV2 := Lib.hid (show v = sameL lv lv' by rw [HV.out]; simp)
  clear HV HE
  by_cases hlen : lv.length = lv'.length
  rotate_left
  · have hd : ((lv.length : Int) != (lv'.length : Int)) = true := by simp; omega
    have HV3 := Lib.hid (show v = false by rw [HV2.out]; cases h : sameL lv lv'; rfl; exact absurd (sameL_len lv lv' h) hlen)
    clear HV2 hlen
    go_enter Tryz.func12, Tryz.ntmps12
    go_wp2
    go_ret
    exact ⟨ret_bool HV3.out.symm, HT.out⟩
  rw [← hlen] at HR' HB0 HB1 HT ⊢
  have HL := Lib.hid hlen
  clear hlen
  go_enter Tryz.func12, Tryz.ntmps12
  go_wp2_with fail
  go_loopw [5] (fun i wr => ∃ j : Nat, j ≤ lv.length ∧ i = .int .i64 j ∧ sameL (lv.drop j) (lv'.drop j) = v ∧ Touch (fun _ => False) ((w.alloc (.cells #[.int .i64 cal, .slice A lv.length n, .int .i64 rt, .int .i64 bk] 24)).alloc (.cells #[.int .i64 cal, .slice A' lv.length n', .int .i64 rt, .int .i64 bk] 24)) wr) (fun i _ => lv.length - (intOf i).toNat)
  case atStart => exact ⟨0, by omega, rfl, HV2.out.symm, Touch.refl _ _⟩
  case round =>
    obtain ⟨j, hj, rfl, hno, hT⟩ := hrel
    have HN := Lib.hid hno
    have HTr := Lib.hid hT
    have HTw := Lib.hid (HT.out.trans hT (fun _ _ e => e))
    have hb0 := hT.blk HB0.out (fun e => e)
    have hb1 := hT.blk HB1.out (fun e => e)
    have p1 := hb0.cell 1; have q1 := hb1.cell 1
    simp at p1 q1
    clear hno hT hb0 hb1
    by_cases hjk : j < lv.length
    · have ha : lv[j]? = some (lv[j]'hjk) := List.getElem?_eq_getElem _
      have hb : lv'[j]? = some (lv'[j]'(by have := HL.out; omega)) := List.getElem?_eq_getElem _
      obtain ⟨g, off, rfl, hg, -, hc0, hc1⟩ := (HR.out.touch HTw.out (fun _ _ e => e)).at_ ha
      obtain ⟨g', off', rfl, hg', -, hd0, hd1⟩ := (HR'.out.touch HTw.out (fun _ _ e => e)).at_ hb
      have HE := Lib.hid (sameL_drop lv lv' j _ _ ha hb)
      generalize lv[j]'hjk = s at *
      generalize lv'[j]'_ = u at *
      obtain ⟨f, t⟩ := s
      obtain ⟨f', t'⟩ := u
      simp only at hc0 hc1 hd0 hd1
      clear ha hb HV2
      by_cases hf : f = f'
      · subst hf
        by_cases ht : t = t'
        · subst ht
          have HV := Lib.hid (show sameL (lv.drop (j + 1)) (lv'.drop (j + 1)) = v by rw [← HN.out, HE.out]; simp)
          go_wp2_with fail
          refine wp_region_plan [(0, 0), (0, 1), (0, 2), (0, 3), (0, 4), (0, 5), (0, 6), (0, 7), (0, 8), (0, 9), (0, 10)] (fun _ => False) (by kernel_rfl) (by kernel_rfl) (fun c a d v w h => by cases d <;> exact h) ?_
          iterate 11
            refine plan_s1 rfl (by rfl) (fun Kc hKc => ?_)
            go_simp
            first
              | (refine hKc _ ?_)
            clear hKc Kc
          refine plan_done ?_
          go_wp2
          go_roundw
          case rel => exact ⟨j + 1, by omega, by go_num, HV.out, HTr.out.drew⟩
          case measure => simp [intOf]; omega
        · have HV := Lib.hid (show v = false by rw [← HN.out, HE.out]; simp [ht])
          go_wp2_with fail
          refine wp_region_plan [(0, 0), (0, 1), (0, 2), (0, 3), (0, 4), (0, 5), (0, 6), (0, 7), (0, 8), (0, 9), (0, 10)] (fun _ => False) (by kernel_rfl) (by kernel_rfl) (fun c a d v w h => by cases d <;> exact h) ?_
          iterate 11
            refine plan_s1 rfl (by rfl) (fun Kc hKc => ?_)
            go_simp
            first
              | (refine hKc _ ?_)
            clear hKc Kc
          refine plan_done ?_
          go_wp2
          go_ret
          exact ⟨ret_bool HV.out.symm, HTw.out.drew⟩
      · have HV := Lib.hid (show v = false by rw [← HN.out, HE.out]; simp [hf])
        go_wp2_with fail
        refine wp_region_plan [(0, 0), (0, 1), (0, 2), (0, 3), (0, 4), (0, 5), (0, 6), (0, 7), (0, 8), (0, 9), (0, 10)] (fun _ => False) (by kernel_rfl) (by kernel_rfl) (fun c a d v w h => by cases d <;> exact h) ?_
        iterate 11
          refine plan_s1 rfl (by rfl) (fun Kc hKc => ?_)
          go_simp
          first
            | (refine hKc _ ?_)
          clear hKc Kc
        refine plan_done ?_
        go_wp2
        go_ret
        exact ⟨ret_bool HV.out.symm, HTw.out.drew⟩
    · obtain rfl : j = lv.length := by omega
      have HV := Lib.hid (show v = true by rw [← HN.out, List.drop_length, HL.out, List.drop_length]; rfl)
      go_wp2
      go_ret
      exact ⟨ret_bool HV.out.symm, HTw.out⟩
end Go.Proofs.YtlcefchbfjfifaaGreat
