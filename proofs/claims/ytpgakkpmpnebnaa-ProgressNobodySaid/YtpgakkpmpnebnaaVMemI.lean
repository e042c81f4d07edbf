/- The walk of MemberSteps. What Reached and Near do. What the reference's Reached, within, and both Nears do. -/
import Derived.Test.YtpgakkpmpnebnaaVMemF
import Derived.Test.YtpgakkpmpnebnaaArgs
import Derived.Test.YtpgakkpmpnebnaaVMemM
section
namespace Go.Proofs.Ytpgakkpmpnebnaa
open Go.RowKit Go.ChangeShapes Go.WideShapes Go.Deep
set_option maxHeartbeats 4000000
set_option maxRecDepth 100000
set_option linter.unusedVariables false

theorem bd_i64 {n : Int} (h : (Lit.int .i64 n).wf = true) : -9223372036854775808 ≤ n ∧ n ≤ 9223372036854775807 := by
  simp [Lit.wf, IntKind.min, IntKind.max, IntKind.signed, IntKind.bits] at h; omega
section
variable {H : Type} {enc : TypeId × Value → H} {P : Program} {w : World} {spare : Nat → Bool} {held : Bool}
theorem elem_i64 {e : TypeId} (he : P.underlying e = some (.int .i64)) {fuel : Nat} {cs : List Value} {x : DataW H × List MemPlace} (h : DataW.trod enc P w 0 spare held fuel e cs = some x) :
    ∃ c : Int, cs = [I64 c] ∧ (-9223372036854775808 ≤ c ∧ c ≤ 9223372036854775807) := by
  obtain ⟨n, rfl, _, hw⟩ := DataW.trod_int he h
  exact ⟨n, rfl, bd_i64 hw⟩
/-- A []int. -/
theorem open_i64s {t e : TypeId} {v : Value} {d : DataW H} {ps : List MemPlace} (ht : P.underlying t = some (.slice e)) (he : P.underlying e = some (.int .i64)) (hsz : P.cellsOf e = 1)
    (A : Option Addr) (n c : Nat) (hv : v = .slice A n c) (h : DataW.Trod enc P w 0 spare held t v d ps) :
    ∃ l : List Int, l.length = n ∧ (∀ x ∈ l, -9223372036854775808 ≤ x ∧ x ≤ 9223372036854775807) ∧ (A = none → c = 0) ∧ n ≤ c ∧ c ≤ maxLen ∧ Rd w (fun k => k < w.heap.size) A n (l.map I64) := by
  obtain ⟨l, h1, ho, _, h2, h3, h4, h5⟩ := open_list (fun c => [I64 c]) _ ht hsz (by decide) (fun _ _ _ hx => elem_i64 he hx) A n c hv h
  rw [flat_map1] at h5
  exact ⟨l, h1, ho, h2, h3, h4, h5.rd⟩
end

theorem rowOf_len (p : Nat → Bool) : (Row.rowOf p).length ≤ 7 := by
  rw [Row.rowOf, List.length_map]
  exact Nat.le_trans (List.length_filter_le _ _) (by simp)
theorem withL_len (l : List Int) (n : Int) : (withL l n).length ≤ 7 := by
  unfold withL; split
  · exact rowOf_len _
  · simp
theorem lessL_len (l : List Int) (n : Int) : (lessL l n).length ≤ 7 := by
  unfold lessL; split
  · exact rowOf_len _
  · simp

end Go.Proofs.Ytpgakkpmpnebnaa
end

section
namespace Go.Proofs.Ytpgakkpmpnebnaa
open Go.RowKit
set_option maxHeartbeats 4000000
set_option maxRecDepth 100000
set_option linter.unusedVariables false

theorem bit_and' (s j : Nat) (hs : s < 18446744073709551616) : bits .and .u64 ((s : Int) / 2 ^ j) 1 = ((s / 2 ^ j % 2 : Nat) : Int) := by
  have e : ((s : Int) / 2 ^ j) = ((s / 2 ^ j : Nat) : Int) := by rw [Int.natCast_ediv, Int.natCast_pow]; rfl
  rw [e, show (1 : Int) = ((1 : Nat) : Int) from rfl, u64_and_nat _ _ (Nat.lt_of_le_of_lt (Nat.div_le_self _ _) (by omega)) (by omega), Nat.and_one_is_mod]
theorem bit_val (s j : Nat) : (if s.testBit j then 1 else 0) = s / 2 ^ j % 2 := by
  rw [Nat.testBit_eq_decide_div_mod_eq]
  by_cases h : s / 2 ^ j % 2 = 1
  · simp [h]
  · simp [h]; omega
theorem mreached_nil (A : Option Addr) (n c : Nat) (w : World) :
    Calls Try.prog 73 #[.slice A n c, Value.nilFunc] w fun e w' => e = .returned (.bool false) ∧ w = w' := by
  have hfn : ∀ (w : World), (binOp .eql 127 .nilFunc .nilFunc).run Try.prog w = .ok (.bool true) w := fun _ => rfl
  go_enter Try.func73, Try.ntmps73
  go_wp2
  go_ret
  exact ⟨rfl, rfl⟩
end Go.Proofs.Ytpgakkpmpnebnaa
end

section
namespace Go.Proofs.Ytpgakkpmpnebnaa
open Go.RowKit
set_option maxHeartbeats 4000000
set_option maxRecDepth 100000
set_option linter.unusedVariables false

theorem rreached_any (F F' : Nat → Prop) (A A' : Option Addr) (c c' : Nat) (l S : List Int) (w : World) (hr : Rd w F A l.length (l.map I64)) (hr' : Rd w F' A' S.length (S.map I64)) (hsm : l.length ≤ 1000000) (hsm' : S.length ≤ 1000000) :
    Calls Try.prog 99 #[.slice A l.length c, .slice A' S.length c'] w fun e w' => e = .returned (.bool (Row.soundB l && decide (l.length < 2 * l.countP (fun x => S.contains x)))) ∧ Touch (fun _ => False) w w' := by
  have Hr := Lib.hid hr
  have HHas := Lib.hid (fun x => rhas_any F' A' c' S x w hr' (by omega))
  have HSd := Lib.hid (rsound_any F A c l w hr (by omega))
  clear hr hr'
  go_enter Try.func99, Try.ntmps99
  go_wp2_with fail
  go_loopw [5, 6] (fun v i wr => ∃ j : Nat, j ≤ l.length ∧ i = .int .i64 j ∧ v = .int .i64 ((l.take j).countP (fun x => S.contains x) : Nat) ∧ wr = w) (fun _ i _ => l.length - (intOf i).toNat)
  case atStart => exact ⟨0, by omega, rfl, by simp, rfl⟩
  case round =>
    obtain ⟨j, hj, rfl, rfl, rfl⟩ := hrel
    have hcl : (l.take j).countP (fun x => S.contains x) ≤ j := Nat.le_trans List.countP_le_length (by simp; omega)
    by_cases hjk : j < l.length
    · obtain ⟨a, off, rfl, _, _, hc⟩ := Hr.out.2 (by omega)
      have hcj := hc j _ (get_I64 hjk)
      simp only [I64] at hcj
      have HE := Lib.hid (Row.count_take (fun x => S.contains x) l j hjk)
      generalize l.getD j 0 = x at *
      have HC := Lib.hid (HHas.out x)
      generalize List.countP (fun (x : Int) => S.contains x) (List.take j l) = k at *
      clear hc
      cases hbt : S.contains x
      · rw [hbt] at HC HE
        clear hbt
        go_wp2_with (go_at_call 61; go_must (refine HC.out.mono ?_); rintro e w3 ⟨rfl, rfl⟩)
        go_roundw
        case rel => exact ⟨j + 1, by omega, by go_num, by rw [HE.out]; simp, trivial⟩
        case measure => simp [intOf]; omega
      · rw [hbt] at HC HE
        clear hbt
        go_wp2_with (go_at_call 61; go_must (refine HC.out.mono ?_); rintro e w3 ⟨rfl, rfl⟩)
        go_roundw
        case rel => exact ⟨j + 1, by omega, by go_num, by rw [HE.out]; congr 1, trivial⟩
        case measure => simp [intOf]; omega
    · obtain rfl : j = l.length := by omega
      have HE := Lib.hid (show (l.take l.length).countP (fun x => S.contains x) = l.countP (fun x => S.contains x) by rw [List.take_length])
      generalize List.countP (fun (x : Int) => S.contains x) (List.take l.length l) = k at *
      cases hb : Row.soundB l
      · rw [hb] at HSd
        have HBo := Lib.hid hb
        clear hb
        go_wp2_with (go_at_call 12; go_must (refine HSd.out.mono ?_); rintro e w1 ⟨rfl, t1⟩; have HT1 := Lib.hid t1; clear t1)
        go_ret
        exact ⟨ret_bool (by rw [HBo.out]; rfl), HT1.out⟩
      · rw [hb] at HSd
        have HBo := Lib.hid hb
        clear hb
        go_wp2_with (go_at_call 12; go_must (refine HSd.out.mono ?_); rintro e w1 ⟨rfl, t1⟩; have HT1 := Lib.hid t1; clear t1)
        go_ret
        refine ⟨ret_bool ?_, HT1.out⟩
        rw [HBo.out, ← HE.out, Bool.true_and, decide_eq_decide]
        omega

def nearB (a b : List Int) : Bool := Row.soundB a && Row.soundB b && Row.nearN (Row.setN a ^^^ Row.setN b)
theorem nearN_z (x : Nat) : Row.nearN x = decide (x &&& (if x = 0 then 18446744073709551615 else x - 1) = 0) := by
  rw [Row.nearN]
  by_cases h : x = 0
  · subst h; rfl
  · rw [if_neg h]; rfl

end Go.Proofs.Ytpgakkpmpnebnaa
end
