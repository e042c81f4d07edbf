/- What the reference's Reached, within, and both Nears do. -/
import Derived.Test.YtecmbmfcooonnaaMemH
namespace Go.Proofs.Ytecmbmfcooonnaa
open Go.RowKit
set_option maxHeartbeats 4000000
set_option maxRecDepth 100000
set_option linter.unusedVariables false

theorem within_any (s : Nat) (hs : s < 18446744073709551616) (w : World) : Calls Try.prog 32 #[.int .u64 s] w (NewSl w ((Row.ofN s).map I64)) := by
  obtain ⟨i0, hi, hz0, hz1, hz2⟩ := info_parts infoI
  go_enter Try.func32, Try.ntmps32
  go_wp2_with fail
  go_loopw [3, 5] (fun v i wr => ∃ j : Nat, j ≤ 7 ∧ i = .int .i64 j ∧ (∃ r, Own wr 3 1 v r (Row.ofK s j).length ((Row.ofK s j).map I64) ∧ ∀ k, r = some k → w.heap.size ≤ k) ∧ Touch (fun _ => False) w wr) (fun _ i _ => 7 - (intOf i).toNat)
  case atStart => exact ⟨0, by omega, rfl, ⟨none, Own.nil _ _ _, fun k e => by cases e⟩, Touch.refl _ _⟩
  case round =>
    obtain ⟨j, hj, rfl, hM, hT⟩ := hrel
    have HM := Lib.hid hM
    have HT := Lib.hid hT
    obtain ⟨r, ho, hrk⟩ := hM
    obtain ⟨A0, c0, rfl, -, -⟩ := ho.form
    have HO := Lib.hid ho
    have HR := Lib.hid hrk
    clear ho hT HM hrk
    by_cases hjk : j < 7
    · have HU := Lib.hid (Row.ofK_succ s j)
      have hbv : s / 2 ^ j % 2 = if s.testBit j then 1 else 0 := by
        rw [Nat.testBit_eq_decide_div_mod_eq]
        by_cases h : s / 2 ^ j % 2 = 1
        · simp [h]
        · simp [h]; omega
      have hand := bit_and' s j hs
      rw [hbv] at hand
      have hol := Row.ofK_len s j
      by_cases hb : s.testBit j
      · rw [if_pos hb] at HU hand
        have hx : bits .and .u64 ((s : Int) / 2 ^ j) 1 = 1 := hand
        clear hand hbv hb
        have HTl := Lib.hid ((Touch.refl (fun _ => False) wr).alloc (.cells #[.int .i64 (j : Int)] 3))
        have HB := Lib.hid (Blk.new wr 3 #[.int .i64 (j : Int)])
        go_wp2_with (
          at_builtin
          go_must (refine wpList_own_append rfl _ _ 22 22 rfl 3 i0 (.int .i64 0) 1 8 Try.underlying22 hi hz0 hz1 hz2 rfl _ r (Row.ofK s j).length ((Row.ofK s j).map I64) rfl (by exact HO.out.touch HTl.out (fun _ _ e => e)) _ 1 [.int .i64 (j : Int)] rfl (by exact Src.lit Try.underlying22 wr.heap.size 1 1 3 #[.int .i64 (j : Int)] HB.out rfl (fun u hu => by simp at hu; subst hu; rfl)) (by simp only [maxLen]; omega) (by omega) ?_)
          intro v1 r1 w1 ho1 ht1 hr1
          have HR1 := Lib.hid (And.intro ho1 (And.intro ht1 hr1))
          clear ho1 ht1 hr1)
        go_roundw
        case rel =>
          obtain ⟨ho1, ht1, hr1⟩ := HR1.out
          have hs := HT.out.size
          refine ⟨j + 1, by omega, by go_num, ⟨r1, ?_, ?_⟩, (HT.out.trans HTl.out (fun _ _ e => e)).trans ht1 (fun q hq e => by have := HR.out q e; omega)⟩
          · rw [HU.out, List.length_append, List.map_append]; exact ho1
          · intro k e
            rcases hr1 with e' | ⟨q, e', hq⟩
            · exact HR.out k (e'.symm.trans e)
            · rw [e'] at e; injection e with e; simp at hq; omega
        case measure => simp [intOf]; omega
      · rw [if_neg hb] at HU hand
        have hx : bits .and .u64 ((s : Int) / 2 ^ j) 1 = 0 := hand
        clear hand hbv hb
        go_wp2_with fail
        go_roundw
        case rel => exact ⟨j + 1, by omega, by go_num, ⟨r, by rw [HU.out, List.append_nil]; exact HO.out, HR.out⟩, HT.out⟩
        case measure => simp [intOf]; omega
    · obtain rfl : j = 7 := by omega
      go_wp2
      go_ret
      obtain ⟨A1, c1, hv, hc1, hc2, _, hr⟩ := HO.out.rd
      injection hv with hv1 hv2 hv3
      subst hv1 hv3
      rw [Row.ofK_7] at hc1 hr
      exact ⟨A0, c0, by rw [List.length_map]; rfl, by simpa using hc1, hc2, by rw [List.length_map]; exact hr.mono fun k hk => HR.out k hk, HT.out⟩


theorem rreached_any (F F' : Nat → Prop) (A A' : Option Addr) (c c' : Nat) (l S : List Int) (w : World) (hr : Rd w F A l.length (l.map I64)) (hr' : Rd w F' A' S.length (S.map I64)) (hsm : l.length ≤ 1000000) (hsm' : S.length ≤ 1000000) :
    Calls Try.prog 31 #[.slice A l.length c, .slice A' S.length c'] w fun e w' => e = .returned (.bool (Row.soundB l && decide (l.length < 2 * l.countP (fun x => S.contains x)))) ∧ Touch (fun _ => False) w w' := by
  have Hr := Lib.hid hr
  have HHas := Lib.hid (fun x => rhas_any F' A' c' S x w hr' hsm')
  have HSd := Lib.hid (rsound_any F A c l w hr hsm)
  clear hr hr'
  go_enter Try.func31, Try.ntmps31
  go_wp2_with fail
  go_loopw [5, 6] (fun v i wr => ∃ j : Nat, j ≤ l.length ∧ i = .int .i64 j ∧ v = .int .i64 ((l.take j).countP (fun x => S.contains x) : Nat) ∧ wr = w) (fun _ i _ => l.length - (intOf i).toNat)
  case atStart => exact ⟨0, by omega, rfl, by simp, rfl⟩
  case round =>
    obtain ⟨j, hj, rfl, rfl, rfl⟩ := hrel
    have hcl : (l.take j).countP (fun x => S.contains x) ≤ j := Nat.le_trans List.countP_le_length (by simp; omega)
    by_cases hjk : j < l.length
    · obtain ⟨a, off, rfl, _, _, hc⟩ := Hr.out.2 (by omega)
      have hcj := hc j _ (get_I64 hjk)
      simp only [I64] at hcj
      have HE := Lib.hid (Row.count_take (fun x => S.contains x) l j hjk)
      generalize l.getD j 0 = x at *
      have HC := Lib.hid (HHas.out x)
      generalize List.countP (fun (x : Int) => S.contains x) (List.take j l) = k at *
      clear hc
      cases hbt : S.contains x
      · rw [hbt] at HC HE
        clear hbt
        go_wp2_with (go_at_call 23; go_must (refine HC.out.mono ?_); rintro e w3 ⟨rfl, rfl⟩)
        go_roundw
        case rel => exact ⟨j + 1, by omega, by go_num, by rw [HE.out]; simp, trivial⟩
        case measure => simp [intOf]; omega
      · rw [hbt] at HC HE
        clear hbt
        go_wp2_with (go_at_call 23; go_must (refine HC.out.mono ?_); rintro e w3 ⟨rfl, rfl⟩)
        go_roundw
        case rel => exact ⟨j + 1, by omega, by go_num, by rw [HE.out]; congr 1, trivial⟩
        case measure => simp [intOf]; omega
    · obtain rfl : j = l.length := by omega
      have HE := Lib.hid (show (l.take l.length).countP (fun x => S.contains x) = l.countP (fun x => S.contains x) by rw [List.take_length])
      generalize List.countP (fun (x : Int) => S.contains x) (List.take l.length l) = k at *
      cases hb : Row.soundB l
      · rw [hb] at HSd
        have HBo := Lib.hid hb
        clear hb
        go_wp2_with (go_at_call 21; go_must (refine HSd.out.mono ?_); rintro e w1 ⟨rfl, t1⟩; have HT1 := Lib.hid t1; clear t1)
        go_ret
        exact ⟨ret_bool (by rw [HBo.out]; rfl), HT1.out⟩
      · rw [hb] at HSd
        have HBo := Lib.hid hb
        clear hb
        go_wp2_with (go_at_call 21; go_must (refine HSd.out.mono ?_); rintro e w1 ⟨rfl, t1⟩; have HT1 := Lib.hid t1; clear t1)
        go_ret
        refine ⟨ret_bool ?_, HT1.out⟩
        rw [HBo.out, ← HE.out, Bool.true_and, decide_eq_decide]
        omega

def nearB (a b : List Int) : Bool := Row.soundB a && Row.soundB b && Row.nearN (Row.setN a ^^^ Row.setN b)
theorem nearN_z (x : Nat) : Row.nearN x = decide (x &&& (if x = 0 then 18446744073709551615 else x - 1) = 0) := by
  rw [Row.nearN]
  by_cases h : x = 0
  · subst h; rfl
  · rw [if_neg h]; rfl

theorem mnear_any (F F' : Nat → Prop) (A A' : Option Addr) (c c' : Nat) (a b : List Int) (w : World) (hr : Rd w F A a.length (a.map I64)) (hr' : Rd w F' A' b.length (b.map I64)) (hsm : a.length ≤ 1000000) (hsm' : b.length ≤ 1000000) :
    Calls Try.prog 27 #[.slice A a.length c, .slice A' b.length c'] w fun e w' => e = .returned (.bool (nearB a b)) ∧ Touch (fun _ => False) w w' := by
  have Hr := Lib.hid hr
  have Hr' := Lib.hid hr'
  have HA := Lib.hid (mset_any F A c a w hr hsm)
  have HB := Lib.hid (mset_any F' A' c' b w hr' hsm')
  have HSA := Lib.hid (msound_any F A c a w hr hsm)
  have HSB := Lib.hid (fun w1 (h : Rd w1 F' A' b.length (b.map I64)) => msound_any F' A' c' b w1 h hsm')
  have hx := u64_xor_nat (Row.setN a) (Row.setN b) (by have := Row.setN_lt a; omega) (by have := Row.setN_lt b; omega)
  have hxl : Row.setN a ^^^ Row.setN b < 128 := Nat.xor_lt_two_pow (n := 7) (Row.setN_lt a) (Row.setN_lt b)
  have HN := Lib.hid (show nearB a b = (Row.soundB a && Row.soundB b && Row.nearN (Row.setN a ^^^ Row.setN b)) from rfl)
  clear hr hr'
  generalize Row.setN a = s at *
  generalize Row.setN b = t at *
  generalize s ^^^ t = x at *
  rw [nearN_z] at HN
  have hsub : IntKind.u64.wrap ((x : Int) - 1) = (((if x = 0 then 18446744073709551615 else x - 1) : Nat) : Int) := by
    rw [IntKind.wrap_u64]; split <;> omega
  have hyl : (if x = 0 then 18446744073709551615 else x - 1) < 18446744073709551616 := by split <;> omega
  generalize (if x = 0 then 18446744073709551615 else x - 1) = y at *
  have hand := u64_and_nat x y (by omega) hyl
  generalize x &&& y = z at *
  cases ha : Row.soundB a
  · rw [ha] at HSA HN
    clear ha
    go_enter Try.func27, Try.ntmps27
    go_wp2_with (first
      | (go_at_call 71; have HM2 := HM1; refine HB.out.mono ?_; rintro e w1 ⟨rfl, rfl⟩)
      | (go_at_call 71; refine HA.out.mono ?_; rintro e w1 ⟨rfl, rfl⟩; have HM1 := Lib.hid trivial)
      | (go_at_call 20; refine HSA.out.mono ?_; rintro e w1 ⟨rfl, t1⟩; have HT1 := Lib.hid t1; clear t1))
    go_ret
    exact ⟨ret_bool (by rw [HN.out]; rfl), HT1.out⟩
  · cases hb : Row.soundB b
    · rw [ha, hb] at HN
      rw [ha] at HSA
      rw [hb] at HSB
      clear ha hb
      go_enter Try.func27, Try.ntmps27
      go_wp2_with (first
        | (go_at_call 71; have HM2 := HM1; refine HB.out.mono ?_; rintro e w1 ⟨rfl, rfl⟩)
        | (go_at_call 71; refine HA.out.mono ?_; rintro e w1 ⟨rfl, rfl⟩; have HM1 := Lib.hid trivial)
        | (go_at_call 20; have HM3 := HT1; refine (HSB.out _ (by exact Hr'.out.touch HT1.out (fun _ _ e => e))).mono ?_; rintro e w2 ⟨rfl, t2⟩; have HT2 := Lib.hid (HT1.out.trans t2 (fun _ _ e => e)); clear t2)
        | (go_at_call 20; refine HSA.out.mono ?_; rintro e w1 ⟨rfl, t1⟩; have HT1 := Lib.hid t1; clear t1))
      go_ret
      exact ⟨ret_bool (by rw [HN.out]; rfl), HT2.out⟩
    · rw [ha, hb] at HN
      rw [ha] at HSA
      rw [hb] at HSB
      clear ha hb
      go_enter Try.func27, Try.ntmps27
      go_wp2_with (first
        | (go_at_call 71; have HM2 := HM1; refine HB.out.mono ?_; rintro e w1 ⟨rfl, rfl⟩)
        | (go_at_call 71; refine HA.out.mono ?_; rintro e w1 ⟨rfl, rfl⟩; have HM1 := Lib.hid trivial)
        | (go_at_call 20; have HM3 := HT1; refine (HSB.out _ (by exact Hr'.out.touch HT1.out (fun _ _ e => e))).mono ?_; rintro e w2 ⟨rfl, t2⟩; have HT2 := Lib.hid (HT1.out.trans t2 (fun _ _ e => e)); clear t2)
        | (go_at_call 20; refine HSA.out.mono ?_; rintro e w1 ⟨rfl, t1⟩; have HT1 := Lib.hid t1; clear t1))
      go_ret
      refine ⟨ret_bool ?_, HT2.out⟩
      rw [HN.out, Bool.eq_iff_iff]
      simp only [Bool.true_and, beq_iff_eq, decide_eq_true_eq]
      omega

theorem rnear_any (F F' : Nat → Prop) (A A' : Option Addr) (c c' : Nat) (a b : List Int) (w : World) (hr : Rd w F A a.length (a.map I64)) (hr' : Rd w F' A' b.length (b.map I64)) (hsm : a.length ≤ 1000000) (hsm' : b.length ≤ 1000000) :
    Calls Try.prog 28 #[.slice A a.length c, .slice A' b.length c'] w fun e w' => e = .returned (.bool (nearB a b)) ∧ Touch (fun _ => False) w w' := by
  have Hr := Lib.hid hr
  have Hr' := Lib.hid hr'
  have HSA := Lib.hid (rsound_any F A c a w hr hsm)
  have HSB := Lib.hid (fun w1 (h : Rd w1 F' A' b.length (b.map I64)) => rsound_any F' A' c' b w1 h hsm')
  have HHA := Lib.hid (fun x => rhas_any F A c a x w hr hsm)
  have HHB := Lib.hid (fun x => rhas_any F' A' c' b x w hr' hsm')
  have HN := Lib.hid (show nearB a b = (Row.soundB a && Row.soundB b && decide (Row.aloneK a b 7 ≤ 1)) by rw [nearB, Row.near_eq, Row.aloneK_7])
  clear hr hr'
  go_enter Try.func28, Try.ntmps28
  go_wp2_with fail
  go_loopw [5, 6] (fun v i wr => ∃ j : Nat, j ≤ 7 ∧ i = .int .i64 j ∧ v = .int .i64 (Row.aloneK a b j : Nat) ∧ wr = w) (fun _ i _ => 7 - (intOf i).toNat)
  case atStart => exact ⟨0, by omega, rfl, rfl, rfl⟩
  case round =>
    obtain ⟨j, hj, rfl, rfl, rfl⟩ := hrel
    have hal := Row.aloneK_le a b j
    by_cases hjk : j < 7
    · have HE := Lib.hid (Row.aloneK_succ a b j)
      have HCA := Lib.hid (HHA.out (j : Int))
      have HCB := Lib.hid (HHB.out (j : Int))
      generalize Row.aloneK a b j = k at *
      generalize a.contains (j : Int) = p at *
      generalize b.contains (j : Int) = q at *
      cases p <;> cases q
      all_goals (
        go_wp2_with (first
          | (go_at_call 23; have HM2 := HM1; refine HCB.out.mono ?_; rintro e w3 ⟨rfl, rfl⟩)
          | (go_at_call 23; refine HCA.out.mono ?_; rintro e w3 ⟨rfl, rfl⟩; have HM1 := Lib.hid trivial))
        go_roundw
        case rel => exact ⟨j + 1, by omega, by go_num, by rw [HE.out]; rfl, trivial⟩
        case measure => simp [intOf]; omega)
    · obtain rfl : j = 7 := by omega
      generalize Row.aloneK a b 7 = k at *
      cases ha : Row.soundB a
      · rw [ha] at HSA HN
        clear ha
        go_wp2_with (go_at_call 21; refine HSA.out.mono ?_; rintro e w1 ⟨rfl, t1⟩; have HT1 := Lib.hid t1; clear t1)
        go_ret
        exact ⟨ret_bool (by rw [HN.out]; rfl), HT1.out⟩
      · cases hb : Row.soundB b
        all_goals (
          rw [ha, hb] at HN
          rw [ha] at HSA
          rw [hb] at HSB
          clear ha hb
          go_wp2_with (first
            | (go_at_call 21; have HM3 := HT1; refine (HSB.out _ (by exact Hr'.out.touch HT1.out (fun _ _ e => e))).mono ?_; rintro e w2 ⟨rfl, t2⟩; have HT2 := Lib.hid (HT1.out.trans t2 (fun _ _ e => e)); clear t2)
            | (go_at_call 21; refine HSA.out.mono ?_; rintro e w1 ⟨rfl, t1⟩; have HT1 := Lib.hid t1; clear t1))
          go_ret
          refine ⟨ret_bool ?_, HT2.out⟩
          rw [HN.out]
          try simp
          try omega)
end Go.Proofs.Ytecmbmfcooonnaa
