/- What the reference's functions of chapter 29 do. -/
import Derived.Test.YtpgakkpmpnebnaaVMemA
namespace Go.Proofs.Ytpgakkpmpnebnaa
open Go.RowKit
set_option maxHeartbeats 2000000
set_option maxRecDepth 100000
attribute [local irreducible] wpPlan

theorem rhas_any (F : Nat → Prop) (A : Option Addr) (c : Nat) (l : List Int) (x : Int) (w : World) (hr : Rd w F A l.length (l.map I64)) (hsm : l.length ≤ 9223372036854775807) :
    Calls Try.prog 61 #[.slice A l.length c, .int .i64 x] w fun e w' => e = .returned (.bool (l.contains x)) ∧ w = w' := by
  have Hr := Lib.hid hr
  clear hr
  go_enter Try.func61, Try.ntmps61
  go_wp2_with fail
  go_loopw [5] (fun i wr => ∃ j : Nat, j ≤ l.length ∧ i = .int .i64 j ∧ (l.take j).contains x = false ∧ wr = w) (fun i _ => l.length - (intOf i).toNat)
  case atStart => exact ⟨0, by omega, rfl, by simp, rfl⟩
  case round =>
    obtain ⟨j, hj, rfl, hno, rfl⟩ := hrel
    have HN := Lib.hid hno
    clear hno
    by_cases hjk : j < l.length
    · obtain ⟨a, off, rfl, _, _, hc⟩ := Hr.out.2 (by omega)
      have hcj := hc j _ (get_I64 hjk)
      simp only [I64] at hcj
      have HE := Lib.hid (Row.has_take l j hjk x)
      generalize l.getD j 0 = y at *
      clear hc
      by_cases hx : y = x
      · subst hx
        go_wp2_with fail
        go_ret
        refine ⟨ret_bool ?_, rfl⟩
        have h1 : (l.take (j + 1)).contains y = true := by rw [HE.out]; simp
        have h2 : y ∈ l := List.mem_of_mem_take (by simpa using h1)
        simp [h2]
      · go_wp2_with fail
        go_roundw
        case rel => exact ⟨j + 1, by omega, by go_num, by rw [HE.out, HN.out]; simp [Ne.symm hx], trivial⟩
        case measure => simp [intOf]; omega
    · obtain rfl : j = l.length := by omega
      go_wp2
      go_ret
      refine ⟨ret_bool ?_, rfl⟩
      have := HN.out
      rw [List.take_length] at this
      exact this.symm

theorem rsame_any (F F' : Nat → Prop) (A A' : Option Addr) (c c' : Nat) (a b : List Int) (w : World) (hr : Rd w F A a.length (a.map I64)) (hr' : Rd w F' A' b.length (b.map I64)) (hsm : a.length ≤ 1000000) :
    Calls Try.prog 62 #[.slice A a.length c, .slice A' b.length c'] w fun e w' => e = .returned (.bool (decide (a = b))) ∧ Touch (fun _ => False) w w' := by
  have Hr := Lib.hid hr
  have Hr' := Lib.hid hr'
  clear hr hr'
  by_cases hlen : a.length = b.length
  · go_enter Try.func62, Try.ntmps62
    rw [← hlen] at Hr' ⊢
    have HL := Lib.hid hlen
    clear hlen
    go_wp2_with fail
    go_loopw [5] (fun i wr => ∃ j : Nat, j ≤ a.length ∧ i = .int .i64 j ∧ a.take j = b.take j ∧ Touch (fun _ => False) w wr) (fun i _ => a.length - (intOf i).toNat)
    case atStart => exact ⟨0, by omega, rfl, rfl, Touch.refl _ _⟩
    case round =>
      obtain ⟨j, hj, rfl, hno, hT⟩ := hrel
      have HN := Lib.hid hno
      have HT := Lib.hid hT
      clear hno hT
      by_cases hjk : j < a.length
      · obtain ⟨g, off, rfl, _, _, hc⟩ := (Hr.out.touch HT.out (fun _ _ e => e)).2 (by omega)
        obtain ⟨g', off', rfl, _, _, hc'⟩ := (Hr'.out.touch HT.out (fun _ _ e => e)).2 (by omega)
        have hcj := hc j _ (get_I64 hjk)
        have hcj' := hc' j _ (get_I64 (by rw [← HL.out]; exact hjk))
        simp only [I64] at hcj hcj'
        have HE := Lib.hid (Row.eq_take a b HL.out j hjk)
        generalize a.getD j 0 = x at *
        generalize b.getD j 0 = y at *
        clear hc hc'
        by_cases hx : x = y
        · subst hx
          go_wp2_with fail
          refine wp_region_plan [(0, 0), (0, 1), (0, 2), (0, 3), (0, 4), (0, 5), (0, 6), (0, 7), (0, 8)] (fun _ => False) (by kernel_rfl) (by kernel_rfl) (fun c a d v w h => by cases d <;> exact h) ?_
          iterate 9
            first
              | (refine plan_s1 rfl (by rfl) (fun Kc hKc => ?_)
                 go_simp
                 first
                   | (refine hKc _ ?_)
                 clear hKc Kc)
              | (refine plan_s0 rfl (by rfl) ?_; go_frame)
          refine plan_done ?_
          go_wp2
          go_roundw
          case rel => exact ⟨j + 1, by omega, by go_num, HE.out.2 ⟨HN.out, trivial⟩, HT.out.drew⟩
          case measure => simp [intOf]; omega
        · go_wp2_with fail
          refine wp_region_plan [(0, 0), (0, 1), (0, 2), (0, 3), (0, 4), (0, 5), (0, 6), (0, 7), (0, 8)] (fun _ => False) (by kernel_rfl) (by kernel_rfl) (fun c a d v w h => by cases d <;> exact h) ?_
          iterate 9
            first
              | (refine plan_s1 rfl (by rfl) (fun Kc hKc => ?_)
                 go_simp
                 first
                   | (refine hKc _ ?_)
                 clear hKc Kc)
              | (refine plan_s0 rfl (by rfl) ?_; go_frame)
          refine plan_done ?_
          go_wp2
          go_ret
          refine ⟨ret_bool ?_, HT.out.drew⟩
          simp only [Bool.false_eq, decide_eq_false_iff_not]
          rintro rfl
          exact hx (HE.out.1 rfl).2
      · obtain rfl : j = a.length := by omega
        go_wp2
        go_ret
        refine ⟨ret_bool ?_, HT.out⟩
        have := HN.out
        rw [List.take_length, HL.out, List.take_length] at this
        simp [this]
  · go_enter Try.func62, Try.ntmps62
    have hl2 : ¬ ((a.length : Int) = b.length) := by omega
    go_wp2
    go_ret
    refine ⟨ret_bool ?_, Touch.refl _ _⟩
    simp only [Bool.false_eq, decide_eq_false_iff_not]
    rintro rfl
    exact hlen rfl
/-- The numbers of a row, one after another. -/
theorem rmembers_any (F : Nat → Prop) (A : Option Addr) (c : Nat) (l : List Int) (w : World) (hr : Rd w F A l.length (l.map I64)) (hsm : l.length ≤ 9223372036854775807) :
    Calls Try.prog 53 #[.slice A l.length c] w fun e w' => e = .returned (.bool (Row.soundB l)) ∧ Touch (fun _ => False) w w' := by
  have Hr := Lib.hid hr
  have HS := Lib.hid (Row.sound_ref l)
  clear hr
  by_cases h1 : (l.length : Int) < 1
  · go_enter Try.func53, Try.ntmps53
    go_wp2
    go_ret
    refine ⟨ret_bool ?_, Touch.refl _ _⟩
    rw [HS.out]; simp; omega
  by_cases h7 : 7 < (l.length : Int)
  · go_enter Try.func53, Try.ntmps53
    go_wp2
    go_ret
    refine ⟨ret_bool ?_, Touch.refl _ _⟩
    rw [HS.out]; simp; omega
  go_enter Try.func53, Try.ntmps53
  go_wp2_with fail
  go_loopw [3] (fun i wr => ∃ j : Nat, j ≤ l.length ∧ i = .int .i64 j ∧ Row.rowOk l j = true ∧ Touch (fun _ => False) w wr) (fun i _ => l.length - (intOf i).toNat)
  case atStart => exact ⟨0, by omega, rfl, rfl, Touch.refl _ _⟩
  case round =>
    obtain ⟨j, hj, rfl, hno, hT⟩ := hrel
    have HN := Lib.hid hno
    have HT := Lib.hid hT
    clear hno hT
    by_cases hjk : j < l.length
    · obtain ⟨g, off, rfl, _, _, hc⟩ := (Hr.out.touch HT.out (fun _ _ e => e)).2 (by omega)
      have hcj := hc j _ (get_I64 hjk)
      have hcp := fun h : 0 < j => hc (j - 1) _ (get_I64 (show j - 1 < l.length by omega))
      simp only [I64] at hcj hcp
      have HE := Lib.hid (show Row.rowOk l (j + 1) = (decide (0 ≤ l.getD j 0) && decide (l.getD j 0 ≤ 6) && (decide (j = 0) || decide (l.getD (j - 1) 0 < l.getD j 0))) by rw [Row.rowOk, HN.out, Bool.true_and])
      generalize l.getD j 0 = x at *
      generalize l.getD (j - 1) 0 = y at *
      have HX : Hid (Row.rowOk l (j + 1) = false → Row.soundB l = false) := Lib.hid fun h => by
        rw [HS.out]
        cases hb : Row.rowOk l l.length
        · simp
        · exfalso
          have := Row.rowOk_mono hb (show j + 1 ≤ l.length by omega)
          rw [h] at this; cases this
      clear hc
      by_cases hx0 : x < 0
      · clear hcp
        go_wp2_with fail
        refine wp_region_plan [(0, 0), (0, 1), (0, 2), (0, 3), (0, 4), (0, 5), (0, 6), (0, 7), (0, 8), (0, 9), (0, 10), (0, 11), (0, 12), (0, 13), (0, 14), (0, 15), (0, 16), (0, 17), (0, 18), (0, 19), (0, 20), (0, 21), (0, 22), (0, 23), (0, 24), (0, 25), (0, 26), (0, 27)] (fun _ => False) (by kernel_rfl) (by kernel_rfl) (fun c a d v w h => by cases d <;> exact h) ?_
        iterate 28
          refine plan_s rfl fun Kc hKc => ?_
          go_simp
          first
            | (refine hKc _ ?_)
          clear hKc Kc
        refine plan_done ?_
        go_wp2
        go_ret
        refine ⟨ret_bool ?_, HT.out.drew⟩
        exact (HX.out (by rw [HE.out]; simp; omega)).symm
      by_cases hx6 : 6 < x
      · clear hcp
        go_wp2_with fail
        refine wp_region_plan [(0, 0), (0, 1), (0, 2), (0, 3), (0, 4), (0, 5), (0, 6), (0, 7), (0, 8), (0, 9), (0, 10), (0, 11), (0, 12), (0, 13), (0, 14), (0, 15), (0, 16), (0, 17), (0, 18), (0, 19), (0, 20), (0, 21), (0, 22), (0, 23), (0, 24), (0, 25), (0, 26), (0, 27)] (fun _ => False) (by kernel_rfl) (by kernel_rfl) (fun c a d v w h => by cases d <;> exact h) ?_
        iterate 28
          refine plan_s rfl fun Kc hKc => ?_
          go_simp
          first
            | (refine hKc _ ?_)
          clear hKc Kc
        refine plan_done ?_
        go_wp2
        go_ret
        refine ⟨ret_bool ?_, HT.out.drew⟩
        exact (HX.out (by rw [HE.out]; simp; omega)).symm
      rcases Nat.eq_zero_or_pos j with rfl | hjp
      · clear hcp
        rw [Nat.add_zero] at hcj
        go_wp2_with fail
        refine wp_region_plan [(0, 0), (0, 1), (0, 2), (0, 3), (0, 4), (0, 5), (0, 6), (0, 7), (0, 8), (0, 9), (0, 10), (0, 11), (0, 12), (0, 13), (0, 14), (0, 15), (0, 16), (0, 17), (0, 18), (0, 19), (0, 20), (0, 21), (0, 22), (0, 23), (0, 24), (0, 25), (0, 26), (0, 27)] (fun _ => False) (by kernel_rfl) (by kernel_rfl) (fun c a d v w h => by cases d <;> exact h) ?_
        iterate 28
          refine plan_s rfl fun Kc hKc => ?_
          go_simp
          first
            | (refine hKc _ ?_)
          clear hKc Kc
        refine plan_done ?_
        go_wp2
        go_roundw
        case rel => exact ⟨1, by omega, by go_num, by rw [HE.out]; simp; omega, HT.out.drew⟩
        case measure => simp [intOf]; omega
      have hcq := hcp hjp
      clear hcp
      obtain ⟨m, rfl⟩ : ∃ m, j = m + 1 := ⟨j - 1, by omega⟩
      rw [Nat.add_sub_cancel] at hcq
      have hm0 : (0 : Int) ≤ (m : Int) + 1 := by omega
      have hmw : IntKind.i64.wrap (m : Int) = m := IntWalk.i64_in (m : Int) (by omega)
      have hml : (m : Int) < l.length := by omega
      by_cases hxy : x ≤ y
      · go_wp2_with fail
        refine wp_region_plan [(0, 0), (0, 1), (0, 2), (0, 3), (0, 4), (0, 5), (0, 6), (0, 7), (0, 8), (0, 9), (0, 10), (0, 11), (0, 12), (0, 13), (0, 14), (0, 15), (0, 16), (0, 17), (0, 18), (0, 19), (0, 20), (0, 21), (0, 22), (0, 23), (0, 24), (0, 25), (0, 26), (0, 27)] (fun _ => False) (by kernel_rfl) (by kernel_rfl) (fun c a d v w h => by cases d <;> exact h) ?_
        iterate 28
          refine plan_s rfl fun Kc hKc => ?_
          go_simp
          first
            | (refine hKc _ ?_)
          clear hKc Kc
        refine plan_done ?_
        go_wp2
        go_ret
        refine ⟨ret_bool ?_, HT.out.drew⟩
        exact (HX.out (by rw [HE.out]; simp; omega)).symm
      · go_wp2_with fail
        refine wp_region_plan [(0, 0), (0, 1), (0, 2), (0, 3), (0, 4), (0, 5), (0, 6), (0, 7), (0, 8), (0, 9), (0, 10), (0, 11), (0, 12), (0, 13), (0, 14), (0, 15), (0, 16), (0, 17), (0, 18), (0, 19), (0, 20), (0, 21), (0, 22), (0, 23), (0, 24), (0, 25), (0, 26), (0, 27)] (fun _ => False) (by kernel_rfl) (by kernel_rfl) (fun c a d v w h => by cases d <;> exact h) ?_
        iterate 28
          refine plan_s rfl fun Kc hKc => ?_
          go_simp
          first
            | (refine hKc _ ?_)
          clear hKc Kc
        refine plan_done ?_
        go_wp2
        go_roundw
        case rel => exact ⟨m + 1 + 1, by omega, by go_num, by rw [HE.out]; simp; omega, HT.out.drew⟩
        case measure => simp [intOf]; omega
    · obtain rfl : j = l.length := by omega
      go_wp2
      go_ret
      refine ⟨ret_bool ?_, HT.out⟩
      rw [HS.out, HN.out]
      simp; omega

theorem rsound_any (F : Nat → Prop) (A : Option Addr) (c : Nat) (l : List Int) (w : World) (hr : Rd w F A l.length (l.map I64)) (hsm : l.length ≤ 9223372036854775807) :
    Calls Try.prog 12 #[.slice A l.length c] w fun e w' => e = .returned (.bool (Row.soundB l)) ∧ Touch (fun _ => False) w w' := by
  have HS := Lib.hid (rmembers_any F A c l w hr hsm)
  clear hr
  go_enter Try.func12, Try.ntmps12
  go_wp2_with (go_at_call 53; go_must (refine HS.out.mono ?_); rintro e w1 ⟨rfl, t1⟩; have HT1 := Lib.hid t1; clear t1)
  go_ret
  exact ⟨rfl, HT1.out⟩
theorem rquorum_any (F : Nat → Prop) (A : Option Addr) (c : Nat) (l : List Int) (w : World) (hr : Rd w F A l.length (l.map I64)) (hsm : l.length ≤ 1000000) :
    Calls Try.prog 66 #[.slice A l.length c] w fun e w' => e = .returned (.int .i64 (if Row.soundB l then (l.length / 2 + 1 : Nat) else 0 : Int)) ∧ Touch (fun _ => False) w w' := by
  have HS := Lib.hid (rsound_any F A c l w hr (by omega))
  clear hr
  by_cases hb : Row.soundB l = true
  · rw [hb] at HS ⊢
    clear hb
    go_enter Try.func66, Try.ntmps66
    go_wp2_with (go_at_call 12; go_must (refine HS.out.mono ?_); rintro e w1 ⟨rfl, t1⟩; have HT1 := Lib.hid t1; clear t1)
    go_ret
    exact ⟨ret_int (by simp), HT1.out⟩
  · simp only [Bool.not_eq_true] at hb
    rw [hb] at HS ⊢
    clear hb
    go_enter Try.func66, Try.ntmps66
    go_wp2_with (go_at_call 12; go_must (refine HS.out.mono ?_); rintro e w1 ⟨rfl, t1⟩; have HT1 := Lib.hid t1; clear t1)
    go_ret
    exact ⟨rfl, HT1.out⟩

end Go.Proofs.Ytpgakkpmpnebnaa
