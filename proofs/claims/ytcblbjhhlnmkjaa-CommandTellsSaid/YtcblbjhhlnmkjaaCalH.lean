/- Package span: Right, Row, common, Cut. -/
import Derived.Test.YtcblbjhhlnmkjaaCalE
namespace Go.Proofs.Ytcblbjhhlnmkjaa
open Go.RowKit Cal
set_option maxHeartbeats 4000000
set_option maxRecDepth 100000
set_option linter.unusedVariables false
attribute [local irreducible] wpPlan

theorem right_any (a b : Int) (w : World) : Calls Try.prog 124 #[.agg #[.int .i64 a, .int .i64 b]] w fun e w' => e = .returned (.bool (rightB ⟨a, b⟩)) ∧ Touch (fun _ => False) w w' := by
  have HT := Lib.hid ((Touch.refl (fun _ => False) w).alloc (.cells #[.int .i64 a, .int .i64 b] 165))
  go_enter Try.func124, Try.ntmps124
  go_wp2
  all_goals go_ret
  all_goals exact ⟨ret_bool (by simp only [rightB]; simp <;> omega), HT.out⟩
theorem row_any (F : Nat → Prop) (A : Option Addr) (c : Nat) (l : List Sp) (w : World) (hr : SpR w F A l.length l) (hsm : l.length ≤ 1000000) :
    Calls Try.prog 113 #[.slice A l.length c] w fun e w' => e = .returned (.int .i64 (rowE l)) ∧ Touch (fun _ => False) w w' := by
  have HR := Lib.hid hr
  clear hr
  by_cases hlong : 32 < l.length
  · have HV := Lib.hid (show rowE l = 21 by unfold rowE; rw [if_pos hlong])
    have hd : decide ((32 : Int) < (l.length : Int)) = true := by simp; omega
    go_enter Try.func113, Try.ntmps113
    go_wp2
    go_ret
    exact ⟨ret_int HV.out.symm, Touch.refl _ _⟩
  · have HV := Lib.hid (show rowE l = rowsE 0 l by unfold rowE; rw [if_neg hlong])
    have hd : ¬ (32 : Int) < (l.length : Int) := by omega
    go_enter Try.func113, Try.ntmps113
    go_wp2_with fail
    go_loopw [3, 11] (fun x i wr => ∃ j : Nat, j ≤ l.length ∧ i = .int .i64 j ∧ x = .int .i64 (endAt l j) ∧ rowsE (endAt l j) (l.drop j) = rowE l ∧ Touch (fun _ => False) w wr) (fun _ i _ => l.length - (intOf i).toNat)
    case atStart => exact ⟨0, by omega, rfl, rfl, by rw [HV.out]; rfl, Touch.refl _ _⟩
    case round =>
      clear HV
      obtain ⟨j, hj, rfl, rfl, hv, hT⟩ := hrel
      have HV := Lib.hid hv
      have HT := Lib.hid hT
      clear hv hT
      by_cases hjk : j < l.length
      · have ha : l[j]? = some (l[j]'hjk) := List.getElem?_eq_getElem _
        obtain ⟨g, off, rfl, hg, -, hc0, hc1⟩ := (HR.out.touch HT.out (fun _ _ e => e)).at_ ha
        have HD := Lib.hid (rows_drop l (endAt l j) j _ ha)
        have HE := Lib.hid (endAt_succ l j _ ha)
        generalize endAt l j = x at *
        generalize l[j]'hjk = s at *
        obtain ⟨f, t⟩ := s
        simp only at hc0 hc1 HE
        have HTb := Lib.hid ((Touch.refl (fun _ => False) wr).alloc (.cells #[.int .i64 f, .int .i64 t] 165))
        have HBb := Lib.hid (Blk.new wr 165 #[.int .i64 f, .int .i64 t])
        clear ha
        cases hb : rightB ⟨f, t⟩
        · have HB := Lib.hid hb
          have HV2 := Lib.hid (show rowE l = 2 by rw [← HV.out, HD.out, hb]; simp)
          clear hb
          go_wp2_with (go_at_call 124; go_must (refine (right_any _ _ _).mono ?_); rintro e w1 ⟨rfl, t1⟩; rw [HB.out]; have HT2 := Lib.hid ((HT.out.trans HTb.out (fun _ _ e => e)).trans t1 (fun _ _ e => e)); clear t1)
          go_ret
          exact ⟨ret_int HV2.out.symm, HT2.out⟩
        · have HB := Lib.hid hb
          by_cases hx : f < x
          · have HV2 := Lib.hid (show rowE l = 2 by rw [← HV.out, HD.out, hb]; simp [hx])
            clear hb
            go_wp2_with (go_at_call 124; go_must (refine (right_any _ _ _).mono ?_); rintro e w1 ⟨rfl, t1⟩; rw [HB.out]; have HT2 := Lib.hid ((HT.out.trans HTb.out (fun _ _ e => e)).trans t1 (fun _ _ e => e)); have q0 := (t1.blk HBb.out (fun e => e)).cell 0; have q1 := (t1.blk HBb.out (fun e => e)).cell 1; simp at q0 q1; clear t1)
            go_ret
            exact ⟨ret_int HV2.out.symm, HT2.out⟩
          · have HV2 := Lib.hid (show rowsE t (l.drop (j + 1)) = rowE l by rw [← HV.out, HD.out, hb]; simp [hx])
            clear hb
            go_wp2_with (go_at_call 124; go_must (refine (right_any _ _ _).mono ?_); rintro e w1 ⟨rfl, t1⟩; rw [HB.out]; have HT2 := Lib.hid ((HT.out.trans HTb.out (fun _ _ e => e)).trans t1 (fun _ _ e => e)); have q0 := (t1.blk HBb.out (fun e => e)).cell 0; have q1 := (t1.blk HBb.out (fun e => e)).cell 1; simp at q0 q1; clear t1)
            go_roundw
            case rel => exact ⟨j + 1, by omega, by go_num, by rw [HE.out], by rw [HE.out]; exact HV2.out, HT2.out⟩
            case measure => simp [intOf]; omega
      · obtain rfl : j = l.length := by omega
        have HV2 := Lib.hid (show rowE l = 0 by rw [← HV.out, List.drop_length]; rfl)
        go_wp2
        go_ret
        exact ⟨ret_int HV2.out.symm, HT.out⟩
theorem common_any (f t a b : Int) (w : World) : Calls Try.prog 147 #[.agg #[.int .i64 f, .int .i64 t], .int .i64 a, .int .i64 b] w fun e w' =>
    e = .returned (.agg #[.int .i64 (max f a), .int .i64 (min t b)]) ∧ Touch (fun _ => False) w w' := by
  go_enter Try.func147, Try.ntmps147
  go_wp2
  all_goals
    refine bodyPost_ret (v := .agg #[.int .i64 (max f a), .int .i64 (min t b)]) ?_ rfl ⟨rfl, ((Touch.refl _ w).alloc _).alloc _⟩
    rw [show max f a = _ from by first | exact Int.max_eq_left (by omega) | exact Int.max_eq_right (by omega), show min t b = _ from by first | exact Int.min_eq_left (by omega) | exact Int.min_eq_right (by omega)]
    simp [results, Try.results147, go_sem]
theorem cut_any (F : Nat → Prop) (A : Option Addr) (c : Nat) (l : List Sp) (a b : Int) (w : World) (hr : SpR w F A l.length l) (hrow : rowE l = 0) :
    Calls Try.prog 136 #[.slice A l.length c, .int .i64 a, .int .i64 b] w (NewSpan w (cutL l a b)) := by
  have hlen := (rowE_row hrow).2
  have HR := Lib.hid hr
  have HRow := Lib.hid hrow
  have HF := Lib.hid (row_any F A c l w hr (by omega))
  rw [hrow] at HF
  clear hr hrow
  obtain ⟨i0, hi, hz0, hz1, hz2⟩ := info_parts infoS
  go_enter Try.func136, Try.ntmps136
  go_wp2_with (go_at_call 113; go_must (refine HF.out.mono ?_); rintro e w0 ⟨rfl, t0⟩; have HT0 := Lib.hid t0; clear t0)
  clear HF
  go_loopw [6, 15] (fun o i wr => ∃ j : Nat, j ≤ l.length ∧ i = .int .i64 j ∧ Gath w wr o (cutL (l.take j) a b)) (fun _ i _ => l.length - (intOf i).toNat)
  case atStart => exact ⟨0, by omega, rfl, none, Own.nil _ _ _, (fun k e => by cases e), HT0.out⟩
  case round =>
    clear HT0
    obtain ⟨j, hj, rfl, r, ho, hk, hT⟩ := hrel
    obtain ⟨A0, c0, rfl, -, -⟩ := ho.form
    have HO := Lib.hid ho
    have HK := Lib.hid hk
    have HT := Lib.hid hT
    clear ho hk hT
    by_cases hjk : j < l.length
    · have ha : l[j]? = some (l[j]'hjk) := List.getElem?_eq_getElem _
      obtain ⟨g, off, rfl, hg, -, hc0, hc1⟩ := (HR.out.touch HT.out (fun _ _ e => e)).at_ ha
      have HN := Lib.hid (cutL_take l a b j _ ha)
      have hLl : (cutL (l.take j) a b).length ≤ 32 := Nat.le_trans (cutL_len _ _ _) (by simp; omega)
      generalize cutL (l.take j) a b = L at *
      generalize l[j]'hjk = s at *
      obtain ⟨f, t⟩ := s
      simp only at hc0 hc1
      have HP := Lib.hid (common_any f t a b)
      have HT1 := Lib.hid ((Touch.refl (fun _ => False) wr).alloc (.cells #[.int .i64 f, .int .i64 t] 165))
      clear ha
      by_cases hxy : max f a < min t b
      · rw [if_pos hxy] at HN
        generalize max f a = x at *
        generalize min t b = y at *
        go_wp2_with (first
          | (go_at_call 147
             go_must (refine (HP.out _).mono ?_)
             rintro e w1 ⟨rfl, t1⟩
             have HT1 := Lib.hid ((((HT1.out.trans t1 (fun _ _ e => e)).alloc (.cells #[.int .i64 x, .int .i64 y] 165)).alloc (.cells #[.int .i64 x, .int .i64 y] 165)))
             have HB1 := Lib.hid (show Blk _ (w1.heap.size + 1) _ _ by simpa using Blk.new (w1.alloc (.cells #[.int .i64 x, .int .i64 y] 165)) 165 #[.int .i64 x, .int .i64 y])
             clear t1)
          | (at_builtin
             go_must (refine wpList_own_append rfl _ _ 23 23 rfl 165 i0 (.agg #[.int .i64 0, .int .i64 0]) 2 16 Try.underlying23 hi hz0 hz1 hz2 rfl _ r L.length (L.flatMap spC) rfl (by exact HO.out.touch HT1.out (fun _ _ e => e)) _ 1 [.int .i64 x, .int .i64 y] rfl (by exact Src.lit Try.underlying23 _ 1 1 165 #[.int .i64 x, .int .i64 y] HB1.out rfl (fun u hu => by simp at hu; rcases hu with rfl | rfl <;> rfl)) (by simp only [maxLen]; omega) (by omega) ?_)
             intro v1 r1 w2 ho1 ht1 hr1
             have HR1 := Lib.hid (And.intro ho1 (And.intro ht1 hr1))
             clear ho1 ht1 hr1))
        go_roundw
        case rel =>
          obtain ⟨ho1, ht1, hr1⟩ := HR1.out
          refine ⟨j + 1, by omega, by go_num, ?_⟩
          rw [HN.out]
          exact Gath.next HK.out (HT.out.trans HT1.out (fun _ _ e => e)) ho1 ht1 hr1
        case measure => simp [intOf]; omega
      · rw [if_neg hxy, List.append_nil] at HN
        generalize max f a = x at *
        generalize min t b = y at *
        go_wp2_with (go_at_call 147; go_must (refine (HP.out _).mono ?_); rintro e w1 ⟨rfl, t1⟩; have HT1 := Lib.hid ((HT1.out.trans t1 (fun _ _ e => e)).alloc (.cells #[.int .i64 x, .int .i64 y] 165)); clear t1)
        go_roundw
        case rel => exact ⟨j + 1, by omega, by go_num, by rw [HN.out]; exact ⟨r, HO.out.touch HT1.out (fun _ _ e => e), HK.out, HT.out.trans HT1.out (fun _ _ e => e)⟩⟩
        case measure => simp [intOf]; omega
    · obtain rfl : j = l.length := by omega
      rw [List.take_length] at HO ⊢
      generalize cutL l a b = L at *
      go_wp2
      go_ret
      exact Gath.new ⟨r, HO.out, HK.out, HT.out⟩
end Go.Proofs.Ytcblbjhhlnmkjaa
