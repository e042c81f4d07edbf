/- contract.Same (slices.Equal), ref14.Same. (written by genct.py) quill's Reader, on: number where the bytes are a number's; Num, Int, Flag. quill's Reader, on: bytes.Clone; Open; Num, Int, Flag, Raw, Text, End. -/
import Derived.Test.YtcblbjhhlnmkjaaChA
import Derived.Test.YtcblbjhhlnmkjaaCalG
import Derived.Test.YtcblbjhhlnmkjaaPlan
import Derived.Test.YtcblbjhhlnmkjaaQuillR0
import Derived.Deep.AppendLies
import Derived.Laws.OwnMore
import Derived.Deep.DeepMust
section
namespace Go.Proofs.Ytcblbjhhlnmkjaa
open Go.RowKit Cal
set_option maxHeartbeats 4000000
set_option maxRecDepth 100000
set_option linter.unusedVariables false
attribute [local irreducible] wpPlan

/-- Are two contracts the same? -/
def sameK (a b : Co) : Bool := decide (a.cal = b.cal) && decide (a.rt = b.rt) && decide (a.bk = b.bk) && sameL a.lv b.lv
theorem sameK_self (c : Co) : sameK c c = true := by simp [sameK, sameL_self]
theorem sameK_eq {a b : Co} (h : sameK a b = true) : a = b := by
  simp only [sameK, Bool.and_eq_true, decide_eq_true_eq] at h
  obtain ⟨cal, lv, rt, bk⟩ := a
  obtain ⟨cal', lv', rt', bk'⟩ := b
  simp only at h
  obtain ⟨⟨⟨rfl, rfl⟩, rfl⟩, h⟩ := h
  rw [sameL_eq _ _ h]
theorem leq_any (F F' : Nat → Prop) (A A' : Option Addr) (c c' : Nat) (a b : List Sp) (w : World) (hr : SpR w F A a.length a) (hr' : SpR w F' A' b.length b) (hsm : a.length ≤ 1000000) :
    Calls Try.prog 111 #[.slice A a.length c, .slice A' b.length c'] w fun e w' => e = .returned (.bool (sameL a b)) ∧ Touch (fun _ => False) w w' := by
  have Hr := Lib.hid hr
  have Hr' := Lib.hid hr'
  clear hr hr'
  by_cases hlen : a.length = b.length
  · rw [← hlen] at Hr' ⊢
    have HL := Lib.hid hlen
    clear hlen
    go_enter Try.func111, Try.ntmps111
    go_wp2_with fail
    go_loopw [13] (fun i wr => ∃ j : Nat, j ≤ a.length ∧ i = .int .i64 j ∧ sameL (a.drop j) (b.drop j) = sameL a b ∧ Touch (fun _ => False) w wr) (fun i _ => a.length - (intOf i).toNat)
    case atStart => exact ⟨0, by omega, rfl, rfl, Touch.refl _ _⟩
    case round =>
      obtain ⟨j, hj, rfl, hno, hT⟩ := hrel
      have HN := Lib.hid hno
      have HT := Lib.hid hT
      clear hno hT
      by_cases hjk : j < a.length
      · have ha : a[j]? = some (a[j]'hjk) := List.getElem?_eq_getElem _
        have hb : b[j]? = some (b[j]'(by have := HL.out; omega)) := List.getElem?_eq_getElem _
        obtain ⟨g, off, rfl, hg, -, hc0, hc1⟩ := (Hr.out.touch HT.out (fun _ _ e => e)).at_ ha
        obtain ⟨g', off', rfl, hg', -, hd0, hd1⟩ := (Hr'.out.touch HT.out (fun _ _ e => e)).at_ hb
        have HE := Lib.hid (sameL_drop a b j _ _ ha hb)
        generalize a[j]'hjk = s at *
        generalize b[j]'_ = u at *
        obtain ⟨f, t⟩ := s
        obtain ⟨f', t'⟩ := u
        simp only at hc0 hc1 hd0 hd1
        clear ha hb
        by_cases h1 : f = f' ∧ t = t'
        · obtain ⟨rfl, rfl⟩ := h1
          have HV := Lib.hid (show sameL (a.drop (j + 1)) (b.drop (j + 1)) = sameL a b by rw [← HN.out, HE.out]; simp)
          go_wp2_with fail
          refine wp_region_plan [(0, 0), (0, 1), (0, 2), (0, 3), (0, 4), (0, 5), (0, 6), (0, 7), (0, 8)] (fun _ => False) (by kernel_rfl) (by kernel_rfl) (fun c a d v w h => by cases d <;> exact h) ?_
          iterate 9
            refine plan_s1 rfl (by rfl) (fun Kc hKc => ?_)
            go_simp
            first
              | (refine hKc _ ?_)
            clear hKc Kc
          refine plan_done ?_
          go_wp2
          go_roundw
          case rel => exact ⟨j + 1, by omega, by go_num, HV.out, HT.out.drew⟩
          case measure => simp [intOf]; omega
        · have HV := Lib.hid (show sameL a b = false by rw [← HN.out, HE.out]; simp; intro h2 h3; exact absurd ⟨h2, h3⟩ h1)
          by_cases hf : f = f'
          · subst hf
            have ht : ¬ t = t' := fun e => h1 ⟨rfl, e⟩
            clear h1
            go_wp2_with fail
            refine wp_region_plan [(0, 0), (0, 1), (0, 2), (0, 3), (0, 4), (0, 5), (0, 6), (0, 7), (0, 8)] (fun _ => False) (by kernel_rfl) (by kernel_rfl) (fun c a d v w h => by cases d <;> exact h) ?_
            iterate 9
              refine plan_s1 rfl (by rfl) (fun Kc hKc => ?_)
              go_simp
              first
                | (refine hKc _ ?_)
              clear hKc Kc
            refine plan_done ?_
            go_wp2
            go_ret
            exact ⟨ret_bool HV.out.symm, HT.out.drew⟩
          · clear h1
            go_wp2_with fail
            refine wp_region_plan [(0, 0), (0, 1), (0, 2), (0, 3), (0, 4), (0, 5), (0, 6), (0, 7), (0, 8)] (fun _ => False) (by kernel_rfl) (by kernel_rfl) (fun c a d v w h => by cases d <;> exact h) ?_
            iterate 9
              refine plan_s1 rfl (by rfl) (fun Kc hKc => ?_)
              go_simp
              first
                | (refine hKc _ ?_)
              clear hKc Kc
            refine plan_done ?_
            go_wp2
            go_ret
            exact ⟨ret_bool HV.out.symm, HT.out.drew⟩
      · obtain rfl : j = a.length := by omega
        have HV := Lib.hid (show sameL a b = true by rw [← HN.out, List.drop_length, HL.out, List.drop_length]; rfl)
        go_wp2
        go_ret
        exact ⟨ret_bool HV.out.symm, HT.out⟩
  · have HV := Lib.hid (show sameL a b = false by cases h : sameL a b; rfl; exact absurd (sameL_len a b h) hlen)
    go_enter Try.func111, Try.ntmps111
    have hd : ((a.length : Int) != (b.length : Int)) = true := by simp; omega
    go_wp2
    go_ret
    exact ⟨ret_bool HV.out.symm, Touch.refl _ _⟩
theorem ksame_any (F F' : Nat → Prop) (A A' : Option Addr) (n n' : Nat) (a b : Co) (w : World) (hr : SpR w F A a.lv.length a.lv) (hr' : SpR w F' A' b.lv.length b.lv) (h1 : a.lv.length ≤ 1000000) :
    Calls Try.prog 82 #[.agg #[.int .i64 a.cal, .slice A a.lv.length n, .int .i64 a.rt, .int .i64 a.bk], .agg #[.int .i64 b.cal, .slice A' b.lv.length n', .int .i64 b.rt, .int .i64 b.bk]] w fun e w' => e = .returned (.bool (sameK a b)) ∧ Touch (fun _ => False) w w' := by
  have HT := Lib.hid (((Touch.refl (fun _ => False) w).alloc (.cells #[.int .i64 a.cal, .slice A a.lv.length n, .int .i64 a.rt, .int .i64 a.bk] 28)).alloc (.cells #[.int .i64 b.cal, .slice A' b.lv.length n', .int .i64 b.rt, .int .i64 b.bk] 28))
  have HB0 := Lib.hid ((Blk.new w 28 #[.int .i64 a.cal, .slice A a.lv.length n, .int .i64 a.rt, .int .i64 a.bk]).alloc (.cells #[.int .i64 b.cal, .slice A' b.lv.length n', .int .i64 b.rt, .int .i64 b.bk] 28))
  have HB1 := Lib.hid (show Blk ((w.alloc (.cells #[.int .i64 a.cal, .slice A a.lv.length n, .int .i64 a.rt, .int .i64 a.bk] 28)).alloc (.cells #[.int .i64 b.cal, .slice A' b.lv.length n', .int .i64 b.rt, .int .i64 b.bk] 28)) (w.heap.size + 1) 28 #[.int .i64 b.cal, .slice A' b.lv.length n', .int .i64 b.rt, .int .i64 b.bk] by simpa using Blk.new (w.alloc (.cells #[.int .i64 a.cal, .slice A a.lv.length n, .int .i64 a.rt, .int .i64 a.bk] 28)) 28 #[.int .i64 b.cal, .slice A' b.lv.length n', .int .i64 b.rt, .int .i64 b.bk])
  have HR := Lib.hid hr
  have HR' := Lib.hid hr'
  have HE := Lib.hid (fun w1 hr hr' => leq_any F F' A A' n n' a.lv b.lv w1 hr hr' h1)
  have HV := Lib.hid (show sameK a b = (decide (a.cal = b.cal) && decide (a.rt = b.rt) && decide (a.bk = b.bk) && sameL a.lv b.lv) from rfl)
  generalize sameK a b = v at *
  clear hr hr'
  obtain ⟨cal, lv, rt, bk⟩ := a
  obtain ⟨cal', lv', rt', bk'⟩ := b
  simp only at *
  by_cases hc : cal = cal'
  rotate_left
  · have e1 : (cal == cal') = false := by simpa using hc
    have e2 : (cal != cal') = true := by simpa using hc
    have HV2 := Lib.hid (show v = false by rw [HV.out]; simp [hc])
    clear HV HE
    go_enter Try.func82, Try.ntmps82
    go_wp2
    go_ret
    exact ⟨ret_bool HV2.out.symm, HT.out⟩
  subst hc
  by_cases hq : rt = rt'
  rotate_left
  · have e1 : (rt == rt') = false := by simpa using hq
    have e2 : (rt != rt') = true := by simpa using hq
    have HV2 := Lib.hid (show v = false by rw [HV.out]; simp [hq])
    clear HV HE
    go_enter Try.func82, Try.ntmps82
    go_wp2
    go_ret
    exact ⟨ret_bool HV2.out.symm, HT.out⟩
  subst hq
  by_cases hb : bk = bk'
  rotate_left
  · have e1 : (bk == bk') = false := by simpa using hb
    have e2 : (bk != bk') = true := by simpa using hb
    have HV2 := Lib.hid (show v = false by rw [HV.out]; simp [hb])
    clear HV HE
    go_enter Try.func82, Try.ntmps82
    go_wp2
    go_ret
    exact ⟨ret_bool HV2.out.symm, HT.out⟩
  subst hb
  have HV2 := Lib.hid (show v = sameL lv lv' by rw [HV.out]; simp)
  clear HV
  go_enter Try.func82, Try.ntmps82
  go_wp2_with (go_at_call 111; go_must (refine (HE.out _ (by exact HR.out.touch HT.out (fun _ _ e => e)) (by exact HR'.out.touch HT.out (fun _ _ e => e))).mono ?_); rintro e w1 ⟨rfl, t1⟩; have HT1 := Lib.hid (HT.out.trans t1 (fun _ _ e => e)); clear t1)
  go_ret
  exact ⟨ret_bool HV2.out.symm, HT1.out⟩
theorem fksame_any (F F' : Nat → Prop) (A A' : Option Addr) (n n' : Nat) (a b : Co) (w : World) (hr : SpR w F A a.lv.length a.lv) (hr' : SpR w F' A' b.lv.length b.lv) (h1 : a.lv.length ≤ 1000000) :
    Calls Try.prog 71 #[.agg #[.int .i64 a.cal, .slice A a.lv.length n, .int .i64 a.rt, .int .i64 a.bk], .agg #[.int .i64 b.cal, .slice A' b.lv.length n', .int .i64 b.rt, .int .i64 b.bk]] w fun e w' => e = .returned (.bool (sameK a b)) ∧ Touch (fun _ => False) w w' := by
  have HT := Lib.hid (((Touch.refl (fun _ => False) w).alloc (.cells #[.int .i64 a.cal, .slice A a.lv.length n, .int .i64 a.rt, .int .i64 a.bk] 28)).alloc (.cells #[.int .i64 b.cal, .slice A' b.lv.length n', .int .i64 b.rt, .int .i64 b.bk] 28))
  have HB0 := Lib.hid ((Blk.new w 28 #[.int .i64 a.cal, .slice A a.lv.length n, .int .i64 a.rt, .int .i64 a.bk]).alloc (.cells #[.int .i64 b.cal, .slice A' b.lv.length n', .int .i64 b.rt, .int .i64 b.bk] 28))
  have HB1 := Lib.hid (show Blk ((w.alloc (.cells #[.int .i64 a.cal, .slice A a.lv.length n, .int .i64 a.rt, .int .i64 a.bk] 28)).alloc (.cells #[.int .i64 b.cal, .slice A' b.lv.length n', .int .i64 b.rt, .int .i64 b.bk] 28)) (w.heap.size + 1) 28 #[.int .i64 b.cal, .slice A' b.lv.length n', .int .i64 b.rt, .int .i64 b.bk] by simpa using Blk.new (w.alloc (.cells #[.int .i64 a.cal, .slice A a.lv.length n, .int .i64 a.rt, .int .i64 a.bk] 28)) 28 #[.int .i64 b.cal, .slice A' b.lv.length n', .int .i64 b.rt, .int .i64 b.bk])
  have HR := Lib.hid hr
  have HR' := Lib.hid hr'
  have HE := Lib.hid (fun w1 hr hr' => leq_any F F' A A' n n' a.lv b.lv w1 hr hr' h1)
  have HV := Lib.hid (show sameK a b = (decide (a.cal = b.cal) && decide (a.rt = b.rt) && decide (a.bk = b.bk) && sameL a.lv b.lv) from rfl)
  generalize sameK a b = v at *
  clear hr hr'
  obtain ⟨cal, lv, rt, bk⟩ := a
  obtain ⟨cal', lv', rt', bk'⟩ := b
  simp only at *
  by_cases hc : cal = cal'
  rotate_left
  · have e1 : (cal == cal') = false := by simpa using hc
    have e2 : (cal != cal') = true := by simpa using hc
    have HV2 := Lib.hid (show v = false by rw [HV.out]; simp [hc])
    clear HV HE
    go_enter Try.func71, Try.ntmps71
    go_wp2
    go_ret
    exact ⟨ret_bool HV2.out.symm, HT.out⟩
  subst hc
  by_cases hq : rt = rt'
  rotate_left
  · have e1 : (rt == rt') = false := by simpa using hq
    have e2 : (rt != rt') = true := by simpa using hq
    have HV2 := Lib.hid (show v = false by rw [HV.out]; simp [hq])
    clear HV HE
    go_enter Try.func71, Try.ntmps71
    go_wp2
    go_ret
    exact ⟨ret_bool HV2.out.symm, HT.out⟩
  subst hq
  by_cases hb : bk = bk'
  rotate_left
  · have e1 : (bk == bk') = false := by simpa using hb
    have e2 : (bk != bk') = true := by simpa using hb
    have HV2 := Lib.hid (show v = false by rw [HV.out]; simp [hb])
    clear HV HE
    go_enter Try.func71, Try.ntmps71
    go_wp2
    go_ret
    exact ⟨ret_bool HV2.out.symm, HT.out⟩
  subst hb
  have HV2 := Lib.hid (show v = sameL lv lv' by rw [HV.out]; simp)
  clear HV HE
  by_cases hlen : lv.length = lv'.length
  rotate_left
  · have hd : ((lv.length : Int) != (lv'.length : Int)) = true := by simp; omega
    have HV3 := Lib.hid (show v = false by rw [HV2.out]; cases h : sameL lv lv'; rfl; exact absurd (sameL_len lv lv' h) hlen)
    clear HV2 hlen
    go_enter Try.func71, Try.ntmps71
    go_wp2
    go_ret
    exact ⟨ret_bool HV3.out.symm, HT.out⟩
  rw [← hlen] at HR' HB0 HB1 HT ⊢
  have HL := Lib.hid hlen
  clear hlen
  go_enter Try.func71, Try.ntmps71
  go_wp2_with fail
  go_loopw [5] (fun i wr => ∃ j : Nat, j ≤ lv.length ∧ i = .int .i64 j ∧ sameL (lv.drop j) (lv'.drop j) = v ∧ Touch (fun _ => False) ((w.alloc (.cells #[.int .i64 cal, .slice A lv.length n, .int .i64 rt, .int .i64 bk] 28)).alloc (.cells #[.int .i64 cal, .slice A' lv.length n', .int .i64 rt, .int .i64 bk] 28)) wr) (fun i _ => lv.length - (intOf i).toNat)
  case atStart => exact ⟨0, by omega, rfl, HV2.out.symm, Touch.refl _ _⟩
  case round =>
    obtain ⟨j, hj, rfl, hno, hT⟩ := hrel
    have HN := Lib.hid hno
    have HTr := Lib.hid hT
    have HTw := Lib.hid (HT.out.trans hT (fun _ _ e => e))
    have hb0 := hT.blk HB0.out (fun e => e)
    have hb1 := hT.blk HB1.out (fun e => e)
    have p1 := hb0.cell 1; have q1 := hb1.cell 1
    simp at p1 q1
    clear hno hT hb0 hb1
    by_cases hjk : j < lv.length
    · have ha : lv[j]? = some (lv[j]'hjk) := List.getElem?_eq_getElem _
      have hb : lv'[j]? = some (lv'[j]'(by have := HL.out; omega)) := List.getElem?_eq_getElem _
      obtain ⟨g, off, rfl, hg, -, hc0, hc1⟩ := (HR.out.touch HTw.out (fun _ _ e => e)).at_ ha
      obtain ⟨g', off', rfl, hg', -, hd0, hd1⟩ := (HR'.out.touch HTw.out (fun _ _ e => e)).at_ hb
      have HE := Lib.hid (sameL_drop lv lv' j _ _ ha hb)
      generalize lv[j]'hjk = s at *
      generalize lv'[j]'_ = u at *
      obtain ⟨f, t⟩ := s
      obtain ⟨f', t'⟩ := u
      simp only at hc0 hc1 hd0 hd1
      clear ha hb HV2
      by_cases hf : f = f'
      · subst hf
        by_cases ht : t = t'
        · subst ht
          have HV := Lib.hid (show sameL (lv.drop (j + 1)) (lv'.drop (j + 1)) = v by rw [← HN.out, HE.out]; simp)
          go_wp2_with fail
          refine wp_region_plan [(0, 0), (0, 1), (0, 2), (0, 3), (0, 4), (0, 5), (0, 6), (0, 7), (0, 8), (0, 9), (0, 10)] (fun _ => False) (by kernel_rfl) (by kernel_rfl) (fun c a d v w h => by cases d <;> exact h) ?_
          iterate 11
            refine plan_s1 rfl (by rfl) (fun Kc hKc => ?_)
            go_simp
            first
              | (refine hKc _ ?_)
            clear hKc Kc
          refine plan_done ?_
          go_wp2
          go_roundw
          case rel => exact ⟨j + 1, by omega, by go_num, HV.out, HTr.out.drew⟩
          case measure => simp [intOf]; omega
        · have HV := Lib.hid (show v = false by rw [← HN.out, HE.out]; simp [ht])
          go_wp2_with fail
          refine wp_region_plan [(0, 0), (0, 1), (0, 2), (0, 3), (0, 4), (0, 5), (0, 6), (0, 7), (0, 8), (0, 9), (0, 10)] (fun _ => False) (by kernel_rfl) (by kernel_rfl) (fun c a d v w h => by cases d <;> exact h) ?_
          iterate 11
            refine plan_s1 rfl (by rfl) (fun Kc hKc => ?_)
            go_simp
            first
              | (refine hKc _ ?_)
            clear hKc Kc
          refine plan_done ?_
          go_wp2
          go_ret
          exact ⟨ret_bool HV.out.symm, HTw.out.drew⟩
      · have HV := Lib.hid (show v = false by rw [← HN.out, HE.out]; simp [hf])
        go_wp2_with fail
        refine wp_region_plan [(0, 0), (0, 1), (0, 2), (0, 3), (0, 4), (0, 5), (0, 6), (0, 7), (0, 8), (0, 9), (0, 10)] (fun _ => False) (by kernel_rfl) (by kernel_rfl) (fun c a d v w h => by cases d <;> exact h) ?_
        iterate 11
          refine plan_s1 rfl (by rfl) (fun Kc hKc => ?_)
          go_simp
          first
            | (refine hKc _ ?_)
          clear hKc Kc
        refine plan_done ?_
        go_wp2
        go_ret
        exact ⟨ret_bool HV.out.symm, HTw.out.drew⟩
    · obtain rfl : j = lv.length := by omega
      have HV := Lib.hid (show v = true by rw [← HN.out, List.drop_length, HL.out, List.drop_length]; rfl)
      go_wp2
      go_ret
      exact ⟨ret_bool HV.out.symm, HTw.out⟩
end Go.Proofs.Ytcblbjhhlnmkjaa
end

section
namespace Go.Proofs.Ytcblbjhhlnmkjaa
open Go.RowKit
set_option maxHeartbeats 4000000
set_option maxRecDepth 100000

theorem number_ok (g : Nat) (F : Nat → Prop) (bad : Bool) (most : Nat) (marked : Bool) (c : UInt8) (t : List UInt8) (w : World) (h : RdAt w g F (c :: t) bad) (hbad : rdOk marked c t = true) :
    Calls Try.prog 103 #[.pointer (some ⟨g, 0, none⟩), .int .u64 most, .bool marked] w (NumPost (rdNum most marked bad (c :: t)) w g F) := by
  obtain ⟨hg, A, cap, hl, hm, hb, hr⟩ := h
  obtain ⟨a, off, rfl, hlt, hF, hc⟩ := hr.2 (by simp)
  have h0 := hb.cell 0
  have hc0 := hc 0 (B8 c) (by simp)
  have hcl := B8_lt c
  have f0 := hb.frozen 0
  simp only [B8, Nat.add_zero] at hc0
  simp at h0
  have Hc := Lib.hid hc
  have Hr := Lib.hid hr
  clear hc hr
  go_enter Try.func103, Try.ntmps103
  go_upto_if 23 with (first
    | (go_at_call 46; refine (left_any _ _ _ _ _ _ hb).mono ?_; rintro e w' ⟨rfl, rfl⟩))
  go_cut [7, 8] (fun m s wx => m = .bool (rdMark marked c) ∧ s = .int .i64 (rdHead marked c : Nat) ∧ w = wx)
  case first =>
    cases marked
    · go_wp2
      go_meet
      exact ⟨by simp [rdMark], by simp [rdHead], rfl⟩
    · go_wp2
      go_meet
      exact ⟨by simp [rdMark]; omega, by simp [rdHead], rfl⟩
  case rest =>
    obtain ⟨rfl, rfl, rfl⟩ := hcut
    have hsle := rdHead_le marked c
    have hcap : t.length + 1 ≤ cap := by simpa using hl
    have hcm : cap ≤ 9223372036854775807 := by unfold maxLen at hm; omega
    have hok : rdOk marked c t = (decide (rdHead marked c ≤ 8) && decide (rdHead marked c ≤ t.length) && !(decide (0 < rdHead marked c) && t.head? == some 0)) := rfl
    rw [hbad] at hok
    have HX := Lib.hid (show rdNum most marked bad (c :: t) = (if be (t.take (rdHead marked c)) ≤ most then ⟨be (t.take (rdHead marked c)), rdMark marked c, t.drop (rdHead marked c), bad⟩ else rdFail) by simp only [rdNum, hbad, if_true])
    generalize rdNum most marked bad (c :: t) = R at *
    clear hl hbad
    generalize rdMark marked c = mk at *
    generalize rdHead marked c = s at *
    simp at hok
    obtain ⟨⟨h1, h2⟩, h3⟩ := hok
    rcases Nat.eq_zero_or_pos s with rfl | hpos
    · clear h3
      by_cases hc1 : cap = 1
      all_goals
        go_wp2_with fail
        go_loop [6, 10, 62] (fun n x i => i = .int .i64 0 ∧ n = .int .u64 0) (fun _ _ _ => 0)
        case atStart => exact ⟨rfl, rfl⟩
        case round =>
          obtain ⟨rfl, rfl⟩ := hrel
          go_wp2
          all_goals
            go_ret2
            rw [HX.out, if_pos (by simp [be]), show be (t.take 0) = 0 from rfl]
            refine okPost (s := 0) (n := 0) (mk := mk) hb Hr.out hcap hm (by omega) hg _ ?_ _ ?_ _ ?_
            · simp [*]
            · simp
            · simp [*]
    · have hd : ∃ d, w.cell? ⟨a, off + 1, none⟩ = some (.int .u8 d) ∧ ((d : Int) == 0) = false := by
        rcases t with _ | ⟨d, t⟩
        · simp at h2; omega
        · have := Hc.out 1 (B8 d) (by simp)
          refine ⟨d.toNat, this, ?_⟩
          have h4 := h3.resolve_left (by omega)
          simp at h4
          simp only [beq_eq_false_iff_ne, ne_eq]
          intro e
          exact h4 (UInt8.toNat_inj.1 (by simpa using e))
      clear h3
      obtain ⟨d, hd1, hd2⟩ := hd
      have hc1 : ¬ (cap = 1) := by omega
      go_wp2_with fail
      go_loop [6, 10, 62] (fun n x i => ∃ k : Nat, k ≤ s ∧ i = .int .i64 k ∧ n = .int .u64 (be (t.take k) : Nat)) (fun _ _ i => s - (intOf i).toNat)
      case atStart => exact ⟨0, by omega, rfl, rfl⟩
      case round =>
        obtain ⟨k, hk, rfl, rfl⟩ := hrel
        by_cases hks : k < s
        · have hck : w.cell? ⟨a, off + 1 + k, none⟩ = some (.int .u8 ((t.getD k 0).toNat : Int)) := by
            have := Hc.out (1 + k) (B8 (t.getD k 0)) (by rw [Nat.add_comm 1 k]; simp [List.getD, List.getElem?_eq_getElem (show k < t.length by omega)])
            rw [← Nat.add_assoc] at this; exact this
          have hbl : be (t.take k) * 256 < 18446744073709551616 := be_take_lt _ _ (by omega)
          have HO := Lib.hid (or_add (be (t.take k)) (t.getD k 0) hbl)
          have HS := Lib.hid (show be (t.take (k + 1)) = be (t.take k) * 256 + (t.getD k 0).toNat by rw [take_getD _ _ (by omega), be_snoc])
          have hxl := B8_lt (t.getD k 0)
          generalize be (t.take k) = bk at *
          generalize t.getD k 0 = x at *
          go_wp2
          go_round
          case rel => exact ⟨k + 1, by omega, by go_num, by rw [HO.out, HS.out]⟩
          case measure => simp [intOf]; omega
        · obtain rfl : k = s := by omega
          by_cases hmost : be (t.take k) ≤ most
          · generalize be (t.take k) = n at *
            go_wp2
            all_goals
              go_ret2
              rw [HX.out, if_pos hmost]
              refine okPost (s := k) (n := n) (mk := mk) hb Hr.out hcap hm (by omega) hg _ ?_ _ ?_ _ ?_
              · simp [*]
              · omega
              · simp [*]
          · have hR := HX.out
            rw [if_neg hmost] at hR
            subst hR
            go_wp2_with (first
              | (go_at_call 96; refine (fail_any _ _ _ _ _ _ hb).mono ?_; rintro e w' ⟨rfl, rfl⟩))
            go_ret2
            exact ⟨rfl, failPost hg hb⟩

theorem number_any (g : Nat) (F : Nat → Prop) (bad : Bool) (most : Nat) (marked : Bool) (l : List UInt8) (w : World) (h : RdAt w g F l bad) :
    Calls Try.prog 103 #[.pointer (some ⟨g, 0, none⟩), .int .u64 most, .bool marked] w (NumPost (rdNum most marked bad l) w g F) := by
  rcases l with _ | ⟨c, t⟩
  · exact number_nil g F bad most marked w h
  · by_cases hb : rdOk marked c t = true
    · exact number_ok g F bad most marked c t w h hb
    · have e : rdNum most marked bad (c :: t) = rdFail := by simp [rdNum, hb]
      rw [e]
      exact number_bad g F bad most marked c t w h (by simpa using hb)
end Go.Proofs.Ytcblbjhhlnmkjaa
end

section
namespace Go.Proofs.Ytcblbjhhlnmkjaa
open Go.RowKit
set_option maxHeartbeats 1000000
set_option maxRecDepth 100000

theorem info8 : (Try.prog.info? 5).map (fun i => (i.zero, i.size, i.bytes)) = some (some (.int .u8 0), 1, 1) := by kernel_rfl

theorem Rd.add {w : World} {F : Nat → Prop} {ad : Addr} {n : Nat} {xs : List Value} (h : Rd w F (some ad) n xs) : ∀ j u, xs[j]? = some u → w.cell? (ad.add j) = some u := by
  intro j u hj
  have hn : 0 < n := by
    rw [← h.1]
    have := (List.getElem?_eq_some_iff.1 hj).1
    omega
  obtain ⟨g, off, e, _, _, hc⟩ := h.2 hn
  injection e with e
  subst e
  have := hc j u hj
  have e : (⟨g, off, none⟩ : Addr).add j = ⟨g, off + j, none⟩ := by unfold Addr.add; split <;> simp_all
  rw [e]; exact this

@[go_sem] theorem eql_bytes_nil (w : World) (a : Option Addr) (n c : Nat) : (binOp .eql 33 (.slice a n c) (.slice none 0 0)).run Try.prog w = .ok (.bool a.isNone) w :=
  Lib.run_eql_slice_nil w 33 5 a n c 0 0 Try.underlying33

/-- A new slice that reads as xs; nothing else has turned. -/
def NewSl (w : World) (xs : List Value) (e : Ending) (w' : World) : Prop :=
  ∃ A c, e = .returned (.slice A xs.length c) ∧ xs.length ≤ c ∧ c ≤ maxLen ∧ Rd w' (fun k => w.heap.size ≤ k) A xs.length xs ∧ Touch (fun _ => False) w w'

theorem B8_one (l : List UInt8) : ∀ u ∈ l.map B8, u.oneCell' = true := by
  intro u hu
  obtain ⟨c, _, rfl⟩ := List.mem_map.1 hu
  rfl

theorem clone_any (F : Nat → Prop) (A : Option Addr) (n c : Nat) (l : List UInt8) (w : World) (h : Rd w F A n (l.map B8)) (hn : n ≤ 140737488355328) :
    Calls Try.prog 97 #[.slice A n c] w (NewSl w (l.map B8)) := by
  have hl := h.1
  rcases A with _ | ad
  · have h0 : n = 0 := by
      rcases Nat.eq_zero_or_pos n with h0 | h0
      · exact h0
      · obtain ⟨_, _, e, _⟩ := h.2 h0; cases e
    subst h0
    have hx : l.map B8 = [] := List.eq_nil_of_length_eq_zero hl
    rw [hx]
    clear h hl hx
    go_enter Try.func97, Try.ntmps97
    go_wp2
    go_ret
    exact ⟨none, 0, rfl, Nat.le_refl _, by simp, Rd.nil _ _ _, Touch.refl _ _⟩
  · have hadd := Lib.hid h.add
    have Hn := Lib.hid (show ∀ j u, (l.map B8)[j]? = some u → (w.alloc (.cells #[] 5)).cell? (ad.add j) = some u from fun j u hj => (World.cell?_alloc_lt _ _ _ (World.block_lt_of_cell? w _ (h.add j u hj))).trans (h.add j u hj))
    have h1 := Lib.hid (B8_one l)
    obtain ⟨i0, hi, hz0, hz1, hz2⟩ := info_parts info8
    have hown := World.ownsRow_lit w (base := w.heap.size) (e := 5) (size := 1) #[] 0 (Nat.le_refl _) (by simp) (by simp)
    subst hl
    clear h
    generalize l.map B8 = xs at *
    go_enter Try.func97, Try.ntmps97
    go_wp2_with (at_builtin; go_must (refine wpList_append_own _ rfl _ _ 33 rfl w.heap.size 5 i0 (.int .u8 0) 1 1 Try.underlying33 hi hz0 hz1 hz2 rfl (by decide) _ _ _ rfl hown ad xs.length c xs rfl (by simp) Hn.out h1.out (by simp only [maxLen]; omega) (by omega) (by simp) ?_); intro v' w1 hown1 hg1 _)
    go_ret
    have hz : w1.ownsRow w.heap.size 5 1 v' xs.length xs := by simpa using hown1
    obtain ⟨A', c', hv, hn1, hc1, hr⟩ := Rd.of_own hz
    refine ⟨A', c', by rw [← hv]; rfl, hn1, hc1, hr.mono (fun k hk => (hz.lt k hk).1), ?_⟩
    refine ((Touch.refl _ w).alloc _).trans (Touch.of_grown hg1) (fun k hk e => ?_)
    injection e with e
    simp at e
    omega

theorem open_any (A : Option Addr) (n c : Nat) (w : World) :
    Calls Try.prog 42 #[.slice A n c] w fun e w' => e = .returned (.pointer (some ⟨w.heap.size, 0, none⟩)) ∧ w.alloc (.cells #[.slice A n c, .bool false] 157) = w' := by
  go_enter Try.func42, Try.ntmps42
  go_wp2
  go_ret
  simp

/-- What a read hands back: the value v; the reader is left as (l, bad). -/
def RPost (v : Value) (l : List UInt8) (bad : Bool) (w : World) (g : Nat) (F : Nat → Prop) (e : Ending) (w' : World) : Prop :=
  e = .returned v ∧ RdAt w' g F l bad ∧ Touch (fun k => k = g) w w'

theorem num_any (g : Nat) (F : Nat → Prop) (bad : Bool) (most : Nat) (l : List UInt8) (w : World) (h : RdAt w g F l bad) :
    Calls Try.prog 65 #[.pointer (some ⟨g, 0, none⟩), .int .u64 most] w
      (RPost (.int .u64 ((rdNum most false bad l).val : Int)) (rdNum most false bad l).left (rdNum most false bad l).bad w g F) := by
  have H := number_any g F bad most false l w h
  generalize rdNum most false bad l = R at *
  have H := Lib.hid H
  clear h
  go_enter Try.func65, Try.ntmps65
  go_wp2_with (go_at_call 103; refine H.out.mono ?_; rintro e w' ⟨rfl, h1, h2⟩)
  go_ret
  exact ⟨rfl, h1, h2⟩

def rdInt (bad : Bool) (l : List UInt8) : Int := if (rdNum 9223372036854775807 true bad l).mark then -1 - ((rdNum 9223372036854775807 true bad l).val : Int) else ((rdNum 9223372036854775807 true bad l).val : Int)

theorem rdNum_le (most : Nat) (m bad : Bool) (l : List UInt8) : (rdNum most m bad l).val ≤ most := by
  unfold rdNum
  split
  · simp [rdFail]
  · split
    · split
      · assumption
      · simp [rdFail]
    · simp [rdFail]

theorem int_any (g : Nat) (F : Nat → Prop) (bad : Bool) (l : List UInt8) (w : World) (h : RdAt w g F l bad) :
    Calls Try.prog 68 #[.pointer (some ⟨g, 0, none⟩)] w
      (RPost (.int .i64 (rdInt bad l)) (rdNum 9223372036854775807 true bad l).left (rdNum 9223372036854775807 true bad l).bad w g F) := by
  have H := number_any g F bad 9223372036854775807 true l w h
  have hle := rdNum_le 9223372036854775807 true bad l
  unfold rdInt
  generalize rdNum 9223372036854775807 true bad l = R at *
  have H := Lib.hid H
  clear h
  obtain ⟨x, mk, l', b'⟩ := R
  simp only at hle ⊢
  cases mk
  · go_enter Try.func68, Try.ntmps68
    go_wp2_with (go_at_call 103; refine H.out.mono ?_; rintro e w' ⟨rfl, h1, h2⟩)
    go_ret
    exact ⟨by simp, h1, h2⟩
  · go_enter Try.func68, Try.ntmps68
    go_wp2_with (go_at_call 103; refine H.out.mono ?_; rintro e w' ⟨rfl, h1, h2⟩)
    go_ret
    exact ⟨by simp, h1, h2⟩

end Go.Proofs.Ytcblbjhhlnmkjaa
end
