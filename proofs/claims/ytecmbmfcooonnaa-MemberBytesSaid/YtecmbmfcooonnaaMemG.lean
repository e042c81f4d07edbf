/- The walk of MemberSteps. -/
import Derived.Test.YtecmbmfcooonnaaMemF
import Derived.Test.YtecmbmfcooonnaaArgs
namespace Go.Proofs.Ytecmbmfcooonnaa
open Go.RowKit Go.ChangeShapes Go.WideShapes Go.Deep
set_option maxHeartbeats 4000000
set_option maxRecDepth 100000
set_option linter.unusedVariables false

theorem bd_i64 {n : Int} (h : (Lit.int .i64 n).wf = true) : -9223372036854775808 ≤ n ∧ n ≤ 9223372036854775807 := by
  simp [Lit.wf, IntKind.min, IntKind.max, IntKind.signed, IntKind.bits] at h; omega
section
variable {H : Type} {enc : TypeId × Value → H} {P : Program} {w : World} {spare : Nat → Bool} {held : Bool}
theorem elem_i64 {e : TypeId} (he : P.underlying e = some (.int .i64)) {fuel : Nat} {cs : List Value} {x : DataW H × List MemPlace} (h : DataW.trod enc P w 0 spare held fuel e cs = some x) :
    ∃ c : Int, cs = [I64 c] ∧ (-9223372036854775808 ≤ c ∧ c ≤ 9223372036854775807) := by
  obtain ⟨n, rfl, _, hw⟩ := DataW.trod_int he h
  exact ⟨n, rfl, bd_i64 hw⟩
/-- A []int. -/
theorem open_i64s {t e : TypeId} {v : Value} {d : DataW H} {ps : List MemPlace} (ht : P.underlying t = some (.slice e)) (he : P.underlying e = some (.int .i64)) (hsz : P.cellsOf e = 1)
    (A : Option Addr) (n c : Nat) (hv : v = .slice A n c) (h : DataW.Trod enc P w 0 spare held t v d ps) :
    ∃ l : List Int, l.length = n ∧ (∀ x ∈ l, -9223372036854775808 ≤ x ∧ x ≤ 9223372036854775807) ∧ (A = none → c = 0) ∧ n ≤ c ∧ c ≤ maxLen ∧ Rd w (fun k => k < w.heap.size) A n (l.map I64) := by
  obtain ⟨l, h1, ho, _, h2, h3, h4, h5⟩ := open_list (fun c => [I64 c]) _ ht hsz (by decide) (fun _ _ _ hx => elem_i64 he hx) A n c hv h
  rw [flat_map1] at h5
  exact ⟨l, h1, ho, h2, h3, h4, h5.rd⟩
end

theorem light29_any (A A' : Option Addr) (n n' c c' : Nat) (w : World) :
    Calls Try.prog 13 #[.slice A n c, .slice A' n' c'] w fun e w' => e = .returned (.bool (decide (n ≤ 100) && decide (n' ≤ 100))) ∧ w = w' := by
  by_cases h : n ≤ 100
  · by_cases h' : n' ≤ 100
    · have hx : (n : Int) ≤ 100 := by omega
      have hx' : (n' : Int) ≤ 100 := by omega
      go_enter Try.func13, Try.ntmps13
      go_wp2
      go_ret
      simp; omega
    · have hx : (n : Int) ≤ 100 := by omega
      have hx' : ¬ (n' : Int) ≤ 100 := by omega
      go_enter Try.func13, Try.ntmps13
      go_wp2
      go_ret
      simp
  · have hx : ¬ (n : Int) ≤ 100 := by omega
    go_enter Try.func13, Try.ntmps13
    go_wp2
    go_ret
    simp

theorem rowOf_len (p : Nat → Bool) : (Row.rowOf p).length ≤ 7 := by
  rw [Row.rowOf, List.length_map]
  exact Nat.le_trans (List.length_filter_le _ _) (by simp)
theorem withL_len (l : List Int) (n : Int) : (withL l n).length ≤ 7 := by
  unfold withL; split
  · exact rowOf_len _
  · simp
theorem lessL_len (l : List Int) (n : Int) : (lessL l n).length ≤ 7 := by
  unfold lessL; split
  · exact rowOf_len _
  · simp

theorem walk_MemberSteps {w : World} (A0 : Option Addr) (n0 c0 : Nat) (l0 : List Int) (e0 : l0.length = n0) (o0 : ∀ x ∈ l0, -9223372036854775808 ≤ x ∧ x ≤ 9223372036854775807) (g0 : A0 = none → c0 = 0) (u0 : n0 ≤ c0) (m0 : c0 ≤ maxLen) (s0 : Rd w (fun k => k < w.heap.size) A0 n0 (l0.map I64))
    (a1 : Int) (k1 : -9223372036854775808 ≤ a1 ∧ a1 ≤ 9223372036854775807) :
    Calls Try.prog 3 #[.slice A0 n0 c0, .int .i64 a1] w fun e w' => e = .returned (.bool true) ∧ Below w.heap.size w w' := by
  subst e0
  clear o0 g0 u0 m0
  by_cases hbig : l0.length ≤ 100
  · have hd := decide_eq_true hbig
    have HR := Lib.hid s0
    have hsm : l0.length ≤ 1000000 := by omega
    have H1 := Lib.hid (fun w1 h => mwith_any (fun k => k < w.heap.size) A0 c0 l0 a1 w1 h hsm)
    have H2 := Lib.hid (fun w1 h => rwith_any (fun k => k < w.heap.size) A0 c0 l0 a1 w1 h hsm)
    have H3 := Lib.hid (fun w1 h => mless_any (fun k => k < w.heap.size) A0 c0 l0 a1 w1 h hsm)
    have H4 := Lib.hid (fun w1 h => rless_any (fun k => k < w.heap.size) A0 c0 l0 a1 w1 h hsm)
    have hX := withL_len l0 a1
    have hY := lessL_len l0 a1
    generalize withL l0 a1 = X at *
    generalize lessL l0 a1 = Y at *
    generalize withE l0 a1 = XE at *
    generalize lessE l0 a1 = YE at *
    clear s0 k1
    go_enter Try.func3, Try.ntmps3
    go_wp2_with (first
      | (go_at_call 13; go_must (refine (light29_any _ _ _ _ _ _ _).mono ?_); rintro e w1 ⟨rfl, rfl⟩; rw [hd])
      | (go_at_call 15; go_must (refine (H1.out _ (by exact HR.out)).mono ?_)
         rintro e w1 ⟨A1, c1, rfl, q1, q2, hr1, t1⟩
         rw [List.length_map] at q1 hr1 ⊢
         have HR1 := Lib.hid hr1
         have HT1 := Lib.hid t1
         clear q1 q2 hr1 t1)
      | (go_at_call 16; go_must (refine (H2.out _ (by exact HR.out.touch HT1.out (fun _ _ e => e))).mono ?_)
         rintro e w2 ⟨A2, c2, rfl, q1, q2, hr2, t2⟩
         rw [List.length_map] at q1 hr2 ⊢
         have HR2 := Lib.hid hr2
         have HT2 := Lib.hid t2
         clear q1 q2 hr2 t2)
      | (go_at_call 17; go_must (refine (H3.out _ (by exact HR.out.touch (HT1.out.trans HT2.out (fun _ _ e => e)) (fun _ _ e => e))).mono ?_)
         rintro e w3 ⟨A3, c3, rfl, q1, q2, hr3, t3⟩
         rw [List.length_map] at q1 hr3 ⊢
         have HR3 := Lib.hid hr3
         have HT3 := Lib.hid t3
         clear q1 q2 hr3 t3)
      | (go_at_call 18; go_must (refine (H4.out _ (by exact HR.out.touch ((HT1.out.trans HT2.out (fun _ _ e => e)).trans HT3.out (fun _ _ e => e)) (fun _ _ e => e))).mono ?_)
         rintro e w4 ⟨A4, c4, rfl, q1, q2, hr4, t4⟩
         rw [List.length_map] at q1 hr4 ⊢
         have HR4 := Lib.hid hr4
         have HT4 := Lib.hid t4
         clear q1 q2 hr4 t4)
      | (go_at_call 19; refine (rsame_any _ _ A3 A4 c3 c4 Y Y w5 (by exact HR3.out.touch (HT4.out.trans HT5.out (fun _ _ e => e)) (fun _ _ e => e)) (by exact HR4.out.touch HT5.out (fun _ _ e => e)) (by omega)).mono ?_
         rintro e w6 ⟨rfl, t6⟩
         have HT6 := Lib.hid t6
         clear t6)
      | (go_at_call 19; refine (rsame_any _ _ A1 A2 c1 c2 X X w4 (by exact HR1.out.touch ((HT2.out.trans HT3.out (fun _ _ e => e)).trans HT4.out (fun _ _ e => e)) (fun _ _ e => e)) (by exact HR2.out.touch (HT3.out.trans HT4.out (fun _ _ e => e)) (fun _ _ e => e)) (by omega)).mono ?_
         rintro e w5 ⟨rfl, t5⟩
         have HT5 := Lib.hid t5
         clear t5)
      | (go_at_call 14; go_must (refine (lives29_any _).mono ?_)
         rintro e w7 ⟨rfl, t7⟩
         have HT7 := Lib.hid t7
         clear t7))
    go_ret
    exact ⟨rfl, ((((((HT1.out.trans HT2.out (fun _ _ e => e)).trans HT3.out (fun _ _ e => e)).trans HT4.out (fun _ _ e => e)).trans HT5.out (fun _ _ e => e)).trans HT6.out (fun _ _ e => e)).trans HT7.out (fun _ _ e => e)).below⟩
  · have hd := decide_eq_false hbig
    clear s0 k1
    go_enter Try.func3, Try.ntmps3
    go_wp2_with (first
      | (go_at_call 13; go_must (refine (light29_any _ _ _ _ _ _ _).mono ?_); rintro e w1 ⟨rfl, rfl⟩; rw [hd])
      | (go_at_call 14; go_must (refine (lives29_any _).mono ?_)
         rintro e w7 ⟨rfl, t7⟩
         have HT7 := Lib.hid t7
         clear t7))
    go_ret
    exact ⟨rfl, HT7.out.below⟩
end Go.Proofs.Ytecmbmfcooonnaa
