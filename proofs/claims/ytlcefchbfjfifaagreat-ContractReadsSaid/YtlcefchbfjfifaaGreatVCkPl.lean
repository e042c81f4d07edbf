/- contract.Same (slices.Equal), ref14.Same. (written by genct.py) calendar.Plain (as in CbL: never import both). -/
import Derived.Test.YtlcefchbfjfifaaGreatVChA
import Derived.Test.YtlcefchbfjfifaaGreatVCalJ
import Derived.Test.YtlcefchbfjfifaaGreatVPlan
import Derived.Test.YtlcefchbfjfifaaGreatVCalW
import Derived.Test.YtlcefchbfjfifaaGreatVCbB
section
namespace Go.Proofs.YtlcefchbfjfifaaGreat
open Go.RowKit Cal
set_option maxHeartbeats 4000000
set_option maxRecDepth 100000
set_option linter.unusedVariables false
attribute [local irreducible] wpPlan

/-- Are two contracts the same? -/
def sameK (a b : Co) : Bool := decide (a.cal = b.cal) && decide (a.rt = b.rt) && decide (a.bk = b.bk) && sameL a.lv b.lv
theorem sameK_self (c : Co) : sameK c c = true := by simp [sameK, sameL_self]
theorem sameK_eq {a b : Co} (h : sameK a b = true) : a = b := by
  simp only [sameK, Bool.and_eq_true, decide_eq_true_eq] at h
  obtain ⟨cal, lv, rt, bk⟩ := a
  obtain ⟨cal', lv', rt', bk'⟩ := b
  simp only at h
  obtain ⟨⟨⟨rfl, rfl⟩, rfl⟩, h⟩ := h
  rw [sameL_eq _ _ h]
theorem leq_any (F F' : Nat → Prop) (A A' : Option Addr) (c c' : Nat) (a b : List Sp) (w : World) (hr : SpR w F A a.length a) (hr' : SpR w F' A' b.length b) (hsm : a.length ≤ 1000000) :
    Calls Tryz.prog 39 #[.slice A a.length c, .slice A' b.length c'] w fun e w' => e = .returned (.bool (sameL a b)) ∧ Touch (fun _ => False) w w' := by
  have Hr := Lib.hid hr
  have Hr' := Lib.hid hr'
  clear hr hr'
  by_cases hlen : a.length = b.length
  · rw [← hlen] at Hr' ⊢
    have HL := Lib.hid hlen
    clear hlen
    go_enter Tryz.func39, Tryz.ntmps39
    go_wp2_with fail
    go_loopw [13] (fun i wr => ∃ j : Nat, j ≤ a.length ∧ i = .int .i64 j ∧ sameL (a.drop j) (b.drop j) = sameL a b ∧ Touch (fun _ => False) w wr) (fun i _ => a.length - (intOf i).toNat)
    case atStart => exact ⟨0, by omega, rfl, rfl, Touch.refl _ _⟩
    case round =>
      obtain ⟨j, hj, rfl, hno, hT⟩ := hrel
      have HN := Lib.hid hno
      have HT := Lib.hid hT
      clear hno hT
      by_cases hjk : j < a.length
      · have ha : a[j]? = some (a[j]'hjk) := List.getElem?_eq_getElem _
        have hb : b[j]? = some (b[j]'(by have := HL.out; omega)) := List.getElem?_eq_getElem _
        obtain ⟨g, off, rfl, hg, -, hc0, hc1⟩ := (Hr.out.touch HT.out (fun _ _ e => e)).at_ ha
        obtain ⟨g', off', rfl, hg', -, hd0, hd1⟩ := (Hr'.out.touch HT.out (fun _ _ e => e)).at_ hb
        have HE := Lib.hid (sameL_drop a b j _ _ ha hb)
        generalize a[j]'hjk = s at *
        generalize b[j]'_ = u at *
        obtain ⟨f, t⟩ := s
        obtain ⟨f', t'⟩ := u
        simp only at hc0 hc1 hd0 hd1
        clear ha hb
        by_cases h1 : f = f' ∧ t = t'
        · obtain ⟨rfl, rfl⟩ := h1
          have HV := Lib.hid (show sameL (a.drop (j + 1)) (b.drop (j + 1)) = sameL a b by rw [← HN.out, HE.out]; simp)
          go_wp2_with fail
          refine wp_region_plan [(0, 0), (0, 1), (0, 2), (0, 3), (0, 4), (0, 5), (0, 6), (0, 7), (0, 8)] (fun _ => False) (by kernel_rfl) (by kernel_rfl) (fun c a d v w h => by cases d <;> exact h) ?_
          iterate 9
            refine plan_s1 rfl (by rfl) (fun Kc hKc => ?_)
            go_simp
            first
              | (refine hKc _ ?_)
            clear hKc Kc
          refine plan_done ?_
          go_wp2
          go_roundw
          case rel => exact ⟨j + 1, by omega, by go_num, HV.out, HT.out.drew⟩
          case measure => simp [intOf]; omega
        · have HV := Lib.hid (show sameL a b = false by rw [← HN.out, HE.out]; simp; intro h2 h3; exact absurd ⟨h2, h3⟩ h1)
          by_cases hf : f = f'
          · subst hf
            have ht : ¬ t = t' := fun e => h1 ⟨rfl, e⟩
            clear h1
            go_wp2_with fail
            refine wp_region_plan [(0, 0), (0, 1), (0, 2), (0, 3), (0, 4), (0, 5), (0, 6), (0, 7), (0, 8)] (fun _ => False) (by kernel_rfl) (by kernel_rfl) (fun c a d v w h => by cases d <;> exact h) ?_
            iterate 9
              refine plan_s1 rfl (by rfl) (fun Kc hKc => ?_)
              go_simp
              first
                | (refine hKc _ ?_)
              clear hKc Kc
            refine plan_done ?_
            go_wp2
            go_ret
            exact ⟨ret_bool HV.out.symm, HT.out.drew⟩
          · clear h1
            go_wp2_with fail
            refine wp_region_plan [(0, 0), (0, 1), (0, 2), (0, 3), (0, 4), (0, 5), (0, 6), (0, 7), (0, 8)] (fun _ => False) (by kernel_rfl) (by kernel_rfl) (fun c a d v w h => by cases d <;> exact h) ?_
            iterate 9
              refine plan_s1 rfl (by rfl) (fun Kc hKc => ?_)
              go_simp
              first
                | (refine hKc _ ?_)
              clear hKc Kc
            refine plan_done ?_
            go_wp2
            go_ret
            exact ⟨ret_bool HV.out.symm, HT.out.drew⟩
      · obtain rfl : j = a.length := by omega
        have HV := Lib.hid (show sameL a b = true by rw [← HN.out, List.drop_length, HL.out, List.drop_length]; rfl)
        go_wp2
        go_ret
        exact ⟨ret_bool HV.out.symm, HT.out⟩
  · have HV := Lib.hid (show sameL a b = false by cases h : sameL a b; rfl; exact absurd (sameL_len a b h) hlen)
    go_enter Tryz.func39, Tryz.ntmps39
    have hd : ((a.length : Int) != (b.length : Int)) = true := by simp; omega
    go_wp2
    go_ret
    exact ⟨ret_bool HV.out.symm, Touch.refl _ _⟩
theorem ksame_any (F F' : Nat → Prop) (A A' : Option Addr) (n n' : Nat) (a b : Co) (w : World) (hr : SpR w F A a.lv.length a.lv) (hr' : SpR w F' A' b.lv.length b.lv) (h1 : a.lv.length ≤ 1000000) :
    Calls Tryz.prog 11 #[.agg #[.int .i64 a.cal, .slice A a.lv.length n, .int .i64 a.rt, .int .i64 a.bk], .agg #[.int .i64 b.cal, .slice A' b.lv.length n', .int .i64 b.rt, .int .i64 b.bk]] w fun e w' => e = .returned (.bool (sameK a b)) ∧ Touch (fun _ => False) w w' := by
  have HT := Lib.hid (((Touch.refl (fun _ => False) w).alloc (.cells #[.int .i64 a.cal, .slice A a.lv.length n, .int .i64 a.rt, .int .i64 a.bk] 24)).alloc (.cells #[.int .i64 b.cal, .slice A' b.lv.length n', .int .i64 b.rt, .int .i64 b.bk] 24))
  have HB0 := Lib.hid ((Blk.new w 24 #[.int .i64 a.cal, .slice A a.lv.length n, .int .i64 a.rt, .int .i64 a.bk]).alloc (.cells #[.int .i64 b.cal, .slice A' b.lv.length n', .int .i64 b.rt, .int .i64 b.bk] 24))
  have HB1 := Lib.hid (show Blk ((w.alloc (.cells #[.int .i64 a.cal, .slice A a.lv.length n, .int .i64 a.rt, .int .i64 a.bk] 24)).alloc (.cells #[.int .i64 b.cal, .slice A' b.lv.length n', .int .i64 b.rt, .int .i64 b.bk] 24)) (w.heap.size + 1) 24 #[.int .i64 b.cal, .slice A' b.lv.length n', .int .i64 b.rt, .int .i64 b.bk] by simpa using Blk.new (w.alloc (.cells #[.int .i64 a.cal, .slice A a.lv.length n, .int .i64 a.rt, .int .i64 a.bk] 24)) 24 #[.int .i64 b.cal, .slice A' b.lv.length n', .int .i64 b.rt, .int .i64 b.bk])
  have HR := Lib.hid hr
  have HR' := Lib.hid hr'
  have HE := Lib.hid (fun w1 hr hr' => leq_any F F' A A' n n' a.lv b.lv w1 hr hr' h1)
  have HV := Lib.hid (show sameK a b = (decide (a.cal = b.cal) && decide (a.rt = b.rt) && decide (a.bk = b.bk) && sameL a.lv b.lv) from rfl)
  generalize sameK a b = v at *
  clear hr hr'
  obtain ⟨cal, lv, rt, bk⟩ := a
  obtain ⟨cal', lv', rt', bk'⟩ := b
  simp only at *
  by_cases hc : cal = cal'
  rotate_left
  · have e1 : (cal == cal') = false := by simpa using hc
    have e2 : (cal != cal') = true := by simpa using hc
    have HV2 := Lib.hid (show v = false by rw [HV.out]; simp [hc])
    clear HV HE
    go_enter Tryz.func11, Tryz.ntmps11
    go_wp2
    go_ret
    exact ⟨ret_bool HV2.out.symm, HT.out⟩
  subst hc
  by_cases hq : rt = rt'
  rotate_left
  · have e1 : (rt == rt') = false := by simpa using hq
    have e2 : (rt != rt') = true := by simpa using hq
    have HV2 := Lib.hid (show v = false by rw [HV.out]; simp [hq])
    clear HV HE
    go_enter Tryz.func11, Tryz.ntmps11
    go_wp2
    go_ret
    exact ⟨ret_bool HV2.out.symm, HT.out⟩
  subst hq
  by_cases hb : bk = bk'
  rotate_left
  · have e1 : (bk == bk') = false := by simpa using hb
    have e2 : (bk != bk') = true := by simpa using hb
    have HV2 := Lib.hid (show v = false by rw [HV.out]; simp [hb])
    clear HV HE
    go_enter Tryz.func11, Tryz.ntmps11
    go_wp2
    go_ret
    exact ⟨ret_bool HV2.out.symm, HT.out⟩
  subst hb
  have HV2 := Lib.hid (show v = sameL lv lv' by rw [HV.out]; simp)
  clear HV
  go_enter Tryz.func11, Tryz.ntmps11
  go_wp2_with (go_at_call 39; go_must (refine (HE.out _ (by exact HR.out.touch HT.out (fun _ _ e => e)) (by exact HR'.out.touch HT.out (fun _ _ e => e))).mono ?_); rintro e w1 ⟨rfl, t1⟩; have HT1 := Lib.hid (HT.out.trans t1 (fun _ _ e => e)); clear t1)
  go_ret
  exact ⟨ret_bool HV2.out.symm, HT1.out⟩
theorem fksame_any (F F' : Nat → Prop) (A A' : Option Addr) (n n' : Nat) (a b : Co) (w : World) (hr : SpR w F A a.lv.length a.lv) (hr' : SpR w F' A' b.lv.length b.lv) (h1 : a.lv.length ≤ 1000000) :
    Calls Tryz.prog 12 #[.agg #[.int .i64 a.cal, .slice A a.lv.length n, .int .i64 a.rt, .int .i64 a.bk], .agg #[.int .i64 b.cal, .slice A' b.lv.length n', .int .i64 b.rt, .int .i64 b.bk]] w fun e w' => e = .returned (.bool (sameK a b)) ∧ Touch (fun _ => False) w w' := by
  have HT := Lib.hid (((Touch.refl (fun _ => False) w).alloc (.cells #[.int .i64 a.cal, .slice A a.lv.length n, .int .i64 a.rt, .int .i64 a.bk] 24)).alloc (.cells #[.int .i64 b.cal, .slice A' b.lv.length n', .int .i64 b.rt, .int .i64 b.bk] 24))
  have HB0 := Lib.hid ((Blk.new w 24 #[.int .i64 a.cal, .slice A a.lv.length n, .int .i64 a.rt, .int .i64 a.bk]).alloc (.cells #[.int .i64 b.cal, .slice A' b.lv.length n', .int .i64 b.rt, .int .i64 b.bk] 24))
  have HB1 := Lib.hid (show Blk ((w.alloc (.cells #[.int .i64 a.cal, .slice A a.lv.length n, .int .i64 a.rt, .int .i64 a.bk] 24)).alloc (.cells #[.int .i64 b.cal, .slice A' b.lv.length n', .int .i64 b.rt, .int .i64 b.bk] 24)) (w.heap.size + 1) 24 #[.int .i64 b.cal, .slice A' b.lv.length n', .int .i64 b.rt, .int .i64 b.bk] by simpa using Blk.new (w.alloc (.cells #[.int .i64 a.cal, .slice A a.lv.length n, .int .i64 a.rt, .int .i64 a.bk] 24)) 24 #[.int .i64 b.cal, .slice A' b.lv.length n', .int .i64 b.rt, .int .i64 b.bk])
  have HR := Lib.hid hr
  have HR' := Lib.hid hr'
  have HE := Lib.hid (fun w1 hr hr' => leq_any F F' A A' n n' a.lv b.lv w1 hr hr' h1)
  have HV := Lib.hid (show sameK a b = (decide (a.cal = b.cal) && decide (a.rt = b.rt) && decide (a.bk = b.bk) && sameL a.lv b.lv) from rfl)
  generalize sameK a b = v at *
  clear hr hr'
  obtain ⟨cal, lv, rt, bk⟩ := a
  obtain ⟨cal', lv', rt', bk'⟩ := b
  simp only at *
  by_cases hc : cal = cal'
  rotate_left
  · have e1 : (cal == cal') = false := by simpa using hc
    have e2 : (cal != cal') = true := by simpa using hc
    have HV2 := Lib.hid (show v = false by rw [HV.out]; simp [hc])
    clear HV HE
    go_enter Tryz.func12, Tryz.ntmps12
    go_wp2
    go_ret
    exact ⟨ret_bool HV2.out.symm, HT.out⟩
  subst hc
  by_cases hq : rt = rt'
  rotate_left
  · have e1 : (rt == rt') = false := by simpa using hq
    have e2 : (rt != rt') = true := by simpa using hq
    have HV2 := Lib.hid (show v = false by rw [HV.out]; simp [hq])
    clear HV HE
    go_enter Tryz.func12, Tryz.ntmps12
    go_wp2
    go_ret
    exact ⟨ret_bool HV2.out.symm, HT.out⟩
  subst hq
  by_cases hb : bk = bk'
  rotate_left
  · have e1 : (bk == bk') = false := by simpa using hb
    have e2 : (bk != bk') = true := by simpa using hb
    have HV2 := Lib.hid (show v = false by rw [HV.out]; simp [hb])
    clear HV HE
    go_enter Tryz.func12, Tryz.ntmps12
    go_wp2
    go_ret
    exact ⟨ret_bool HV2.out.symm, HT.out⟩
  subst hb
  have HV2 := Lib.hid (show v = sameL lv lv' by rw [HV.out]; simp)
  clear HV HE
  by_cases hlen : lv.length = lv'.length
  rotate_left
  · have hd : ((lv.length : Int) != (lv'.length : Int)) = true := by simp; omega
    have HV3 := Lib.hid (show v = false by rw [HV2.out]; cases h : sameL lv lv'; rfl; exact absurd (sameL_len lv lv' h) hlen)
    clear HV2 hlen
    go_enter Tryz.func12, Tryz.ntmps12
    go_wp2
    go_ret
    exact ⟨ret_bool HV3.out.symm, HT.out⟩
  rw [← hlen] at HR' HB0 HB1 HT ⊢
  have HL := Lib.hid hlen
  clear hlen
  go_enter Tryz.func12, Tryz.ntmps12
  go_wp2_with fail
  go_loopw [5] (fun i wr => ∃ j : Nat, j ≤ lv.length ∧ i = .int .i64 j ∧ sameL (lv.drop j) (lv'.drop j) = v ∧ Touch (fun _ => False) ((w.alloc (.cells #[.int .i64 cal, .slice A lv.length n, .int .i64 rt, .int .i64 bk] 24)).alloc (.cells #[.int .i64 cal, .slice A' lv.length n', .int .i64 rt, .int .i64 bk] 24)) wr) (fun i _ => lv.length - (intOf i).toNat)
  case atStart => exact ⟨0, by omega, rfl, HV2.out.symm, Touch.refl _ _⟩
  case round =>
    obtain ⟨j, hj, rfl, hno, hT⟩ := hrel
    have HN := Lib.hid hno
    have HTr := Lib.hid hT
    have HTw := Lib.hid (HT.out.trans hT (fun _ _ e => e))
    have hb0 := hT.blk HB0.out (fun e => e)
    have hb1 := hT.blk HB1.out (fun e => e)
    have p1 := hb0.cell 1; have q1 := hb1.cell 1
    simp at p1 q1
    clear hno hT hb0 hb1
    by_cases hjk : j < lv.length
    · have ha : lv[j]? = some (lv[j]'hjk) := List.getElem?_eq_getElem _
      have hb : lv'[j]? = some (lv'[j]'(by have := HL.out; omega)) := List.getElem?_eq_getElem _
      obtain ⟨g, off, rfl, hg, -, hc0, hc1⟩ := (HR.out.touch HTw.out (fun _ _ e => e)).at_ ha
      obtain ⟨g', off', rfl, hg', -, hd0, hd1⟩ := (HR'.out.touch HTw.out (fun _ _ e => e)).at_ hb
      have HE := Lib.hid (sameL_drop lv lv' j _ _ ha hb)
      generalize lv[j]'hjk = s at *
      generalize lv'[j]'_ = u at *
      obtain ⟨f, t⟩ := s
      obtain ⟨f', t'⟩ := u
      simp only at hc0 hc1 hd0 hd1
      clear ha hb HV2
      by_cases hf : f = f'
      · subst hf
        by_cases ht : t = t'
        · subst ht
          have HV := Lib.hid (show sameL (lv.drop (j + 1)) (lv'.drop (j + 1)) = v by rw [← HN.out, HE.out]; simp)
          go_wp2_with fail
          refine wp_region_plan [(0, 0), (0, 1), (0, 2), (0, 3), (0, 4), (0, 5), (0, 6), (0, 7), (0, 8), (0, 9), (0, 10)] (fun _ => False) (by kernel_rfl) (by kernel_rfl) (fun c a d v w h => by cases d <;> exact h) ?_
          iterate 11
            refine plan_s1 rfl (by rfl) (fun Kc hKc => ?_)
            go_simp
            first
              | (refine hKc _ ?_)
            clear hKc Kc
          refine plan_done ?_
          go_wp2
          go_roundw
          case rel => exact ⟨j + 1, by omega, by go_num, HV.out, HTr.out.drew⟩
          case measure => simp [intOf]; omega
        · have HV := Lib.hid (show v = false by rw [← HN.out, HE.out]; simp [ht])
          go_wp2_with fail
          refine wp_region_plan [(0, 0), (0, 1), (0, 2), (0, 3), (0, 4), (0, 5), (0, 6), (0, 7), (0, 8), (0, 9), (0, 10)] (fun _ => False) (by kernel_rfl) (by kernel_rfl) (fun c a d v w h => by cases d <;> exact h) ?_
          iterate 11
            refine plan_s1 rfl (by rfl) (fun Kc hKc => ?_)
            go_simp
            first
              | (refine hKc _ ?_)
            clear hKc Kc
          refine plan_done ?_
          go_wp2
          go_ret
          exact ⟨ret_bool HV.out.symm, HTw.out.drew⟩
      · have HV := Lib.hid (show v = false by rw [← HN.out, HE.out]; simp [hf])
        go_wp2_with fail
        refine wp_region_plan [(0, 0), (0, 1), (0, 2), (0, 3), (0, 4), (0, 5), (0, 6), (0, 7), (0, 8), (0, 9), (0, 10)] (fun _ => False) (by kernel_rfl) (by kernel_rfl) (fun c a d v w h => by cases d <;> exact h) ?_
        iterate 11
          refine plan_s1 rfl (by rfl) (fun Kc hKc => ?_)
          go_simp
          first
            | (refine hKc _ ?_)
          clear hKc Kc
        refine plan_done ?_
        go_wp2
        go_ret
        exact ⟨ret_bool HV.out.symm, HTw.out.drew⟩
    · obtain rfl : j = lv.length := by omega
      have HV := Lib.hid (show v = true by rw [← HN.out, List.drop_length, HL.out, List.drop_length]; rfl)
      go_wp2
      go_ret
      exact ⟨ret_bool HV.out.symm, HTw.out⟩
end Go.Proofs.YtlcefchbfjfifaaGreat
end

section
namespace Go.Proofs.YtlcefchbfjfifaaGreat
open Go.RowKit Cal
set_option maxHeartbeats 4000000
set_option maxRecDepth 100000
set_option linter.unusedVariables false
attribute [local irreducible] wpPlan

def PlainV (w : World) (c : Ca) (e : Ending) (w' : World) : Prop :=
  ∃ A n B m, e = .returned (.agg #[.int .i64 c.off, .slice A c.wk.length n, .slice B c.cl.length m]) ∧ CaR w' (fun q => w.heap.size ≤ q) c A B ∧ Touch (fun _ => False) w w'
theorem cplain_any (k a p b : Nat) (c : Ca) (G : Nat → Prop) (w : World) (h : CkAt w k a p b c G) :
    Calls Tryz.prog 69 #[.pointer (some ⟨k, 0, none⟩)] w (PlainV w c) := by
  have q0 := h.blk.cell 0; have q1 := h.blk.cell 1; have q2 := h.blk.cell 2
  simp at q0 q1 q2
  have hkl := h.blk.lt
  have hkn : k ≠ w.heap.size := by omega
  have hoff := h.ok.off
  have HN := Lib.hid (fun w1 (hh : CkAt w1 k a p b c G) => cnone_any k a p b c G w1 hh)
  have HWr := Lib.hid (fun w1 A n (hh : PlAt w1 p c.wk A n b G) => wrow_any p c.wk A n b G w1 hh h.ok.wk)
  have HAr := Lib.hid (fun w1 B m (hh : AlAt w1 a c.cl B m G) => alrow_any a c.cl B m G w1 hh (by have := h.ok.cn; omega))
  have HH := Lib.hid h
  have HTa := Lib.hid ((Touch.refl (fun _ => False) w).alloc (.cells #[.int .i64 0, .slice none 0 0, .slice none 0 0] 51))
  have hw1 : IntKind.i64.wrap (604800 - (604800 - c.off)) = c.off := by rw [show 604800 - (604800 - c.off) = c.off by omega]; exact IntWalk.i64_in _ (by omega)
  obtain ⟨s, hs⟩ : ∃ s, s = 604800 - c.off := ⟨_, rfl⟩
  have HSs := Lib.hid hs
  rw [← hs] at hw1 q2
  clear hs h hoff
  go_enter Tryz.func69, Tryz.ntmps69
  go_wp2_with (go_at_call 71; go_must (refine (HN.out _ (by exact HH.out.none HTa.out)).mono ?_); rintro e w1 ⟨rfl, rfl⟩)
  have HT1 := Lib.hid (HTa.out.drew)
  have HH1 := Lib.hid (HH.out.none HT1.out)
  have HBn := Lib.hid (((Touch.refl (fun _ => False) (w.alloc (.cells #[.int .i64 0, .slice none 0 0, .slice none 0 0] 51))).drew).blk (Blk.new w 51 #[.int .i64 0, .slice none 0 0, .slice none 0 0]) (fun e => e))
  have r0 := HH1.out.blk.cell 0; have r2 := HH1.out.blk.cell 2
  simp only [List.getElem?_toArray, List.getElem?_cons_zero, List.getElem?_cons_succ] at r0 r2
  rw [← HSs.out] at r2
  have hkl1 := HH1.out.blk.lt
  obtain ⟨A1, n1, hpl⟩ := HH1.out.pn.pl
  obtain ⟨B1, m1, hal⟩ := HH1.out.al
  have HPl := Lib.hid hpl
  have HAl := Lib.hid hal
  clear hpl hal
  refine wp_region_plan [(0, 5), (0, 6), (0, 7), (0, 8), (1, 0), (1, 1), (1, 2), (1, 3), (1, 4), (1, 10), (1, 11), (1, 12), (1, 13), (2, 9), (2, 14), (0, 15), (2, 16)] (fun q => q = w.heap.size) (by kernel_rfl) (by kernel_rfl) (fun c a d v w h => by cases d <;> exact h) ?_
  iterate 4
    refine plan_s1 rfl (by rfl) (fun Kc hKc => ?_)
    go_simp
    first
      | (refine hKc _ ?_)
    clear hKc Kc
  iterate 9
    apply plan_h
    · rfl
    · rfl
    · intro wh hT
      have hf0 := (hT.cell (p := ⟨k, 2, none⟩) hkl1 hkn).trans r2
      have hf1 := (hT.cell (p := ⟨k, 0, none⟩) hkl1 hkn).trans r0
      go_simp
      try rfl
    go_frame
  refine plan_a1 rfl (by rfl) (fun Kc hKc => ?_)
  go_simp
  refine (HWr.out _ _ _ (by exact HPl.out)).mono ?_
  rintro e w2 ⟨A2, c2, rfl, -, -, -, s2, t2⟩
  refine hKc _ _ ⟨(t2.mono (fun _ _ e => e.elim)), ?_⟩
  clear hKc Kc
  have HS2 := Lib.hid s2
  have HT2 := Lib.hid t2
  clear s2 t2
  refine plan_a1 rfl (by rfl) (fun Kc hKc => ?_)
  go_simp
  refine (HAr.out _ _ _ (by exact HAl.out.touch HT2.out (fun e => e) (fun _ _ e => e))).mono ?_
  rintro e w3 ⟨A3, c3, rfl, -, -, -, s3, t3⟩
  refine hKc _ _ ⟨(t3.mono (fun _ _ e => e.elim)), ?_⟩
  clear hKc Kc
  have HS3 := Lib.hid s3
  have HT3 := Lib.hid t3
  clear s3 t3
  have hcb := (HT2.out.trans HT3.out (fun _ _ e => e)).blk HBn.out (fun e => e)
  have g0 := hcb.cell 0; have g1 := hcb.cell 1; have g2 := hcb.cell 2
  have z0 := hcb.frozen 0; have z1 := hcb.frozen 1; have z2 := hcb.frozen 2
  simp at g0 g1 g2
  have HCb := Lib.hid hcb
  clear hcb
  iterate 1
    refine plan_s1 rfl (by rfl) (fun Kc hKc => ?_)
    go_simp
    first
      | (refine hKc _ ?_)
    clear hKc Kc
  refine plan_a1 rfl (by rfl) (fun Kc hKc => ?_)
  go_simp
  refine hKc _ _ ⟨((((Touch.refl (fun q => q = w.heap.size) _).set (b := w.heap.size) (o := 0) (fun _ => rfl) _).set (b := w.heap.size) (o := 1) (fun _ => rfl) _).set (b := w.heap.size) (o := 2) (fun _ => rfl) _), ?_⟩
  clear hKc Kc
  refine plan_done ?_
  clear hw1
  go_wp2
  have hs2 := ((HCb.out.set_ 0 (.int .i64 c.off)).set_ 1 (.slice A2 c.wk.length c2)).set_ 2 (.slice A3 c.cl.length c3)
  have e0 := hs2.cell 0; have e1 := hs2.cell 1; have e2 := hs2.cell 2
  simp at e0 e1 e2
  refine bodyPost_ret (v := .agg #[.int .i64 c.off, .slice A2 c.wk.length c2, .slice A3 c.cl.length c3]) (by simp [results, Tryz.results69, go_sem, e0, e1, e2]) rfl ?_
  have tst := (((Touch.refl (fun q => q = w.heap.size) w3).set (b := w.heap.size) (o := 0) (fun _ => rfl) (.int .i64 c.off)).set (b := w.heap.size) (o := 1) (fun _ => rfl) (.slice A2 c.wk.length c2)).set (b := w.heap.size) (o := 2) (fun _ => rfl) (.slice A3 c.cl.length c3)
  have z1 := HT1.out.size
  have z2 := HT2.out.size
  simp at z2
  refine ⟨A2, c2, A3, c3, rfl, ⟨(((HS2.out.touch HT3.out (fun _ _ e => e)).touch tst (fun q hq e => by simp at hq; omega))).mono (fun q hq => by simp at hq; omega), ((HS3.out.touch tst (fun q hq e => by omega))).mono (fun q hq => by omega)⟩, ((HT1.out.trans HT2.out (fun _ _ e => e)).trans HT3.out (fun _ _ e => e)).trans tst (fun q hq e => by omega)⟩
end Go.Proofs.YtlcefchbfjfifaaGreat
end
