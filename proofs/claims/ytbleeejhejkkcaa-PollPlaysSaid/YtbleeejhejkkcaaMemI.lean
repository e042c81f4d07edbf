/- What the reference's Reached, within, and both Nears do. -/
import Derived.Test.YtbleeejhejkkcaaMemH
namespace Go.Proofs.Ytbleeejhejkkcaa
open Go.RowKit
set_option maxHeartbeats 4000000
set_option maxRecDepth 100000
set_option linter.unusedVariables false

theorem rreached_any (F F' : Nat → Prop) (A A' : Option Addr) (c c' : Nat) (l S : List Int) (w : World) (hr : Rd w F A l.length (l.map I64)) (hr' : Rd w F' A' S.length (S.map I64)) (hsm : l.length ≤ 1000000) (hsm' : S.length ≤ 1000000) :
    Calls Try.prog 46 #[.slice A l.length c, .slice A' S.length c'] w fun e w' => e = .returned (.bool (Row.soundB l && decide (l.length < 2 * l.countP (fun x => S.contains x)))) ∧ Touch (fun _ => False) w w' := by
  have Hr := Lib.hid hr
  have HHas := Lib.hid (fun x => rhas_any F' A' c' S x w hr' (by omega))
  have HSd := Lib.hid (rsound_any F A c l w hr (by omega))
  clear hr hr'
  go_enter Try.func46, Try.ntmps46
  go_wp2_with fail
  go_loopw [5, 6] (fun v i wr => ∃ j : Nat, j ≤ l.length ∧ i = .int .i64 j ∧ v = .int .i64 ((l.take j).countP (fun x => S.contains x) : Nat) ∧ wr = w) (fun _ i _ => l.length - (intOf i).toNat)
  case atStart => exact ⟨0, by omega, rfl, by simp, rfl⟩
  case round =>
    obtain ⟨j, hj, rfl, rfl, rfl⟩ := hrel
    have hcl : (l.take j).countP (fun x => S.contains x) ≤ j := Nat.le_trans List.countP_le_length (by simp; omega)
    by_cases hjk : j < l.length
    · obtain ⟨a, off, rfl, _, _, hc⟩ := Hr.out.2 (by omega)
      have hcj := hc j _ (get_I64 hjk)
      simp only [I64] at hcj
      have HE := Lib.hid (Row.count_take (fun x => S.contains x) l j hjk)
      generalize l.getD j 0 = x at *
      have HC := Lib.hid (HHas.out x)
      generalize List.countP (fun (x : Int) => S.contains x) (List.take j l) = k at *
      clear hc
      cases hbt : S.contains x
      · rw [hbt] at HC HE
        clear hbt
        go_wp2_with (go_at_call 41; go_must (refine HC.out.mono ?_); rintro e w3 ⟨rfl, rfl⟩)
        go_roundw
        case rel => exact ⟨j + 1, by omega, by go_num, by rw [HE.out]; simp, trivial⟩
        case measure => simp [intOf]; omega
      · rw [hbt] at HC HE
        clear hbt
        go_wp2_with (go_at_call 41; go_must (refine HC.out.mono ?_); rintro e w3 ⟨rfl, rfl⟩)
        go_roundw
        case rel => exact ⟨j + 1, by omega, by go_num, by rw [HE.out]; congr 1, trivial⟩
        case measure => simp [intOf]; omega
    · obtain rfl : j = l.length := by omega
      have HE := Lib.hid (show (l.take l.length).countP (fun x => S.contains x) = l.countP (fun x => S.contains x) by rw [List.take_length])
      generalize List.countP (fun (x : Int) => S.contains x) (List.take l.length l) = k at *
      cases hb : Row.soundB l
      · rw [hb] at HSd
        have HBo := Lib.hid hb
        clear hb
        go_wp2_with (go_at_call 12; go_must (refine HSd.out.mono ?_); rintro e w1 ⟨rfl, t1⟩; have HT1 := Lib.hid t1; clear t1)
        go_ret
        exact ⟨ret_bool (by rw [HBo.out]; rfl), HT1.out⟩
      · rw [hb] at HSd
        have HBo := Lib.hid hb
        clear hb
        go_wp2_with (go_at_call 12; go_must (refine HSd.out.mono ?_); rintro e w1 ⟨rfl, t1⟩; have HT1 := Lib.hid t1; clear t1)
        go_ret
        refine ⟨ret_bool ?_, HT1.out⟩
        rw [HBo.out, ← HE.out, Bool.true_and, decide_eq_decide]
        omega

def nearB (a b : List Int) : Bool := Row.soundB a && Row.soundB b && Row.nearN (Row.setN a ^^^ Row.setN b)
theorem nearN_z (x : Nat) : Row.nearN x = decide (x &&& (if x = 0 then 18446744073709551615 else x - 1) = 0) := by
  rw [Row.nearN]
  by_cases h : x = 0
  · subst h; rfl
  · rw [if_neg h]; rfl

theorem rnear_any (F F' : Nat → Prop) (A A' : Option Addr) (c c' : Nat) (a b : List Int) (w : World) (hr : Rd w F A a.length (a.map I64)) (hr' : Rd w F' A' b.length (b.map I64)) (hsm : a.length ≤ 9223372036854775807) (hsm' : b.length ≤ 9223372036854775807) :
    Calls Try.prog 20 #[.slice A a.length c, .slice A' b.length c'] w fun e w' => e = .returned (.bool (nearB a b)) ∧ Touch (fun _ => False) w w' := by
  have Hr := Lib.hid hr
  have Hr' := Lib.hid hr'
  have HSA := Lib.hid (rsound_any F A c a w hr hsm)
  have HSB := Lib.hid (fun w1 (h : Rd w1 F' A' b.length (b.map I64)) => rsound_any F' A' c' b w1 h hsm')
  have HHA := Lib.hid (fun x => rhas_any F A c a x w hr hsm)
  have HHB := Lib.hid (fun x => rhas_any F' A' c' b x w hr' hsm')
  have HN := Lib.hid (show nearB a b = (Row.soundB a && Row.soundB b && decide (Row.aloneK a b 7 ≤ 1)) by rw [nearB, Row.near_eq, Row.aloneK_7])
  clear hr hr'
  go_enter Try.func20, Try.ntmps20
  go_wp2_with fail
  go_loopw [5, 6] (fun v i wr => ∃ j : Nat, j ≤ 7 ∧ i = .int .i64 j ∧ v = .int .i64 (Row.aloneK a b j : Nat) ∧ wr = w) (fun _ i _ => 7 - (intOf i).toNat)
  case atStart => exact ⟨0, by omega, rfl, rfl, rfl⟩
  case round =>
    obtain ⟨j, hj, rfl, rfl, rfl⟩ := hrel
    have hal := Row.aloneK_le a b j
    by_cases hjk : j < 7
    · have HE := Lib.hid (Row.aloneK_succ a b j)
      have HCA := Lib.hid (HHA.out (j : Int))
      have HCB := Lib.hid (HHB.out (j : Int))
      generalize Row.aloneK a b j = k at *
      generalize a.contains (j : Int) = p at *
      generalize b.contains (j : Int) = q at *
      cases p <;> cases q
      all_goals (
        go_wp2_with (first
          | (go_at_call 41; have HM2 := HM1; refine HCB.out.mono ?_; rintro e w3 ⟨rfl, rfl⟩)
          | (go_at_call 41; refine HCA.out.mono ?_; rintro e w3 ⟨rfl, rfl⟩; have HM1 := Lib.hid trivial))
        go_roundw
        case rel => exact ⟨j + 1, by omega, by go_num, by rw [HE.out]; rfl, trivial⟩
        case measure => simp [intOf]; omega)
    · obtain rfl : j = 7 := by omega
      generalize Row.aloneK a b 7 = k at *
      cases ha : Row.soundB a
      · rw [ha] at HSA HN
        clear ha
        go_wp2_with (go_at_call 12; refine HSA.out.mono ?_; rintro e w1 ⟨rfl, t1⟩; have HT1 := Lib.hid t1; clear t1)
        go_ret
        exact ⟨ret_bool (by rw [HN.out]; rfl), HT1.out⟩
      · cases hb : Row.soundB b
        all_goals (
          rw [ha, hb] at HN
          rw [ha] at HSA
          rw [hb] at HSB
          clear ha hb
          go_wp2_with (first
            | (go_at_call 12; have HM3 := HT1; refine (HSB.out _ (by exact Hr'.out.touch HT1.out (fun _ _ e => e))).mono ?_; rintro e w2 ⟨rfl, t2⟩; have HT2 := Lib.hid (HT1.out.trans t2 (fun _ _ e => e)); clear t2)
            | (go_at_call 12; refine HSA.out.mono ?_; rintro e w1 ⟨rfl, t1⟩; have HT1 := Lib.hid t1; clear t1))
          go_ret
          refine ⟨ret_bool ?_, HT2.out⟩
          rw [HN.out]
          try simp
          try omega)
end Go.Proofs.Ytbleeejhejkkcaa
