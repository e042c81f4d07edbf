/- What With and Without do, the program's and the reference's. -/
import Derived.Test.YtecmbmfcooonnaaMemC
namespace Go.Proofs.Ytecmbmfcooonnaa
open Go.RowKit
set_option maxHeartbeats 4000000
set_option maxRecDepth 100000
set_option linter.unusedVariables false

theorem or_lt7 (s k : Nat) (hs : s < 128) (hk : k < 7) : s ||| 1 <<< k < 128 := by
  refine Nat.or_lt_two_pow (n := 7) hs ?_
  rw [Nat.one_shiftLeft]
  exact Nat.pow_lt_pow_right (by omega) hk
theorem andNot_bits : ∀ s, s < 128 → ∀ k, k < 7 → (s &&& (18446744073709551615 - 1 <<< k) < 128 ∧ ∀ i, i < 7 → (s &&& (18446744073709551615 - 1 <<< k)).testBit i = (s.testBit i && !decide (k = i))) := by decide +kernel
theorem bit_andNot (s k : Nat) (c : Int) (hs : s < 128) (hk : k < 7) (hc : c = ((1 <<< k : Nat) : Int)) : bits .andNot .u64 (s : Int) c = ((s &&& (18446744073709551615 - 1 <<< k) : Nat) : Int) := by
  subst hc
  refine u64_andNot_nat _ _ (by omega) ?_
  rw [Nat.one_shiftLeft]
  exact Nat.lt_of_lt_of_le (Nat.pow_lt_pow_right (by omega) hk) (by decide)
theorem with_of (l : List Int) (k : Nat) (h1 : Row.soundB l = true) (h2 : k < 7) (h3 : l.contains (k : Int) = false) : withL l k = Row.ofN (Row.setN l ||| 1 <<< k) ∧ withE l k = 0 := by
  rw [Row.with_row]
  constructor
  · rw [withL, if_pos ⟨h1, by omega, h3⟩]; rfl
  · rw [withE, if_pos ⟨h1, by omega⟩, h3]; rfl
theorem less_of (l : List Int) (k : Nat) (h1 : Row.soundB l = true) (h2 : k < 7) (h3 : l.contains (k : Int) = true) (h4 : l.length ≠ 1) : lessL l k = Row.ofN (Row.setN l &&& (18446744073709551615 - 1 <<< k)) ∧ lessE l k = 0 := by
  rw [Row.without_row l k _ (andNot_bits _ (Row.setN_lt l) k h2).2]
  constructor
  · rw [lessL, if_pos ⟨h1, by omega, h3, h4⟩]; rfl
  · rw [lessE, if_pos ⟨h1, by omega⟩, if_pos h3, if_neg h4]

theorem mwith_any (F : Nat → Prop) (A : Option Addr) (c : Nat) (l : List Int) (n : Int) (w : World) (hr : Rd w F A l.length (l.map I64)) (hsm : l.length ≤ 1000000) :
    Calls Try.prog 15 #[.slice A l.length c, .int .i64 n] w (NewTwo w ((withL l n).map I64) (.int .i64 (withE l n))) := by
  have Hr := Lib.hid hr
  have HS := Lib.hid (msound_any F A c l w hr hsm)
  clear hr
  by_cases hb : Row.soundB l = true
  · rw [hb] at HS
    by_cases hn : 0 ≤ n ∧ n < 7
    · have hd : decide (0 ≤ n ∧ n < 7) = true := decide_eq_true hn
      by_cases hh : l.contains n = true
      · have HW := Lib.hid (show withL l n = [] ∧ withE l n = 32 from by simp only [withL, withE, hb, hh]; simp [hn])
        obtain ⟨hn0, hn7⟩ := hn
        go_enter Try.func15, Try.ntmps15
        go_wp2_with (first
          | (go_at_call 20; go_must (refine HS.out.mono ?_); rintro e w1 ⟨rfl, t1⟩; have HT1 := Lib.hid t1; have HR1 := Lib.hid (Hr.out.touch t1 (fun _ _ e => e)); clear t1)
          | (go_at_call 69; go_must (refine (mnode_any _ _).mono ?_); rintro e w2 ⟨rfl, rfl⟩; rw [hd])
          | (go_at_call 22; go_must (refine (mhas_any F A c l n w1 (by exact HR1.out) hsm).mono ?_); rintro e w3 ⟨rfl, rfl⟩; rw [hh]))
        go_ret2
        rw [HW.out.1, HW.out.2]
        exact NewTwo.none HT1.out
      · have hh : l.contains n = false := by simpa using hh
        obtain ⟨k, rfl⟩ := Int.eq_ofNat_of_zero_le hn.1
        have hk7 : k < 7 := by omega
        have HW := Lib.hid (with_of l k hb hk7 hh)
        have hs := Row.setN_lt l
        have ht := or_lt7 (Row.setN l) k hs hk7
        have HOR := Lib.hid (fun c hc => bit_or (Row.setN l) k c hs hk7 hc)
        generalize hz : Row.setN l ||| 1 <<< k = z at *
        have HSet := Lib.hid (fun w1 (h : Rd w1 F A l.length (l.map I64)) => mset_any F A c l w1 h hsm)
        generalize Row.setN l = s at *
        clear hz hn
        by_cases hk0 : k = 0
        · subst hk0
          have hor := HOR.out 1 rfl
          have hwr : IntKind.u64.wrap 1 = 1 := IntWalk.u64_in _ (by decide)
          have hh : l.contains (0 : Int) = _ := hh
          clear hk7
          go_enter Try.func15, Try.ntmps15
          go_wp2_with (first
            | (go_at_call 20; go_must (refine HS.out.mono ?_); rintro e w1 ⟨rfl, t1⟩; have HT1 := Lib.hid t1; have HR1 := Lib.hid (Hr.out.touch t1 (fun _ _ e => e)); clear t1)
            | (go_at_call 69; go_must (refine (mnode_any _ _).mono ?_); rintro e w2 ⟨rfl, rfl⟩; rw [show decide ((0 : Int) ≤ 0 ∧ (0 : Int) < 7) = true from rfl])
            | (go_at_call 22; go_must (refine (mhas_any F A c l (0 : Int) w1 (by exact HR1.out) hsm).mono ?_); rintro e w3 ⟨rfl, rfl⟩; rw [hh]))
          refine wp_region_plan [(0, 0), (0, 1), (0, 2), (0, 3), (0, 4), (2, 5), (0, 6), (0, 7)] (fun _ => False) (by kernel_rfl) (by kernel_rfl) (fun c a d v w h => by cases d <;> exact h) ?_
          iterate 5
            first
              | (refine plan_s1 rfl (by rfl) (fun Kc hKc => ?_)
                 go_simp
                 first
                   | (refine hKc _ ?_)
                   | (refine ⟨_, calls_flip (HSet.out _ (by exact HR1.out)), hKc _ ?_⟩)
                 clear hKc Kc)
              | (refine plan_s0 rfl (by rfl) ?_; go_frame)
          refine plan_a1 rfl (by rfl) (fun Kc hKc => ?_)
          go_simp
          refine (mof_any z ht _).mono ?_
          rintro e w4 ⟨A4, c4, rfl, q1, q2, hr4, t4⟩
          refine hKc _ _ ⟨t4, ?_⟩
          clear hKc Kc
          have HQ := Lib.hid (And.intro q1 (And.intro q2 (And.intro hr4 t4)))
          clear q1 q2 hr4 t4
          iterate 2
            first
              | (refine plan_s1 rfl (by rfl) (fun Kc hKc => ?_)
                 go_simp
                 first
                   | (refine hKc _ ?_)
                 clear hKc Kc)
              | (refine plan_s0 rfl (by rfl) ?_; go_frame)
          refine plan_done ?_
          go_wp2
          go_ret2
          rw [HW.out.1, HW.out.2]
          obtain ⟨q1, q2, hr4, t4⟩ := HQ.out
          exact NewTwo.of (HT1.out.drew) (by rw [List.length_map]; rfl) (by simpa using q1) q2 (by simpa using hr4) t4
        by_cases hk1 : k = 1
        · subst hk1
          have hor := HOR.out 2 rfl
          have hwr : IntKind.u64.wrap 2 = 2 := IntWalk.u64_in _ (by decide)
          have hh : l.contains (1 : Int) = _ := hh
          clear hk7
          go_enter Try.func15, Try.ntmps15
          go_wp2_with (first
            | (go_at_call 20; go_must (refine HS.out.mono ?_); rintro e w1 ⟨rfl, t1⟩; have HT1 := Lib.hid t1; have HR1 := Lib.hid (Hr.out.touch t1 (fun _ _ e => e)); clear t1)
            | (go_at_call 69; go_must (refine (mnode_any _ _).mono ?_); rintro e w2 ⟨rfl, rfl⟩; rw [show decide ((0 : Int) ≤ 1 ∧ (1 : Int) < 7) = true from rfl])
            | (go_at_call 22; go_must (refine (mhas_any F A c l (1 : Int) w1 (by exact HR1.out) hsm).mono ?_); rintro e w3 ⟨rfl, rfl⟩; rw [hh]))
          refine wp_region_plan [(0, 0), (0, 1), (0, 2), (0, 3), (0, 4), (2, 5), (0, 6), (0, 7)] (fun _ => False) (by kernel_rfl) (by kernel_rfl) (fun c a d v w h => by cases d <;> exact h) ?_
          iterate 5
            first
              | (refine plan_s1 rfl (by rfl) (fun Kc hKc => ?_)
                 go_simp
                 first
                   | (refine hKc _ ?_)
                   | (refine ⟨_, calls_flip (HSet.out _ (by exact HR1.out)), hKc _ ?_⟩)
                 clear hKc Kc)
              | (refine plan_s0 rfl (by rfl) ?_; go_frame)
          refine plan_a1 rfl (by rfl) (fun Kc hKc => ?_)
          go_simp
          refine (mof_any z ht _).mono ?_
          rintro e w4 ⟨A4, c4, rfl, q1, q2, hr4, t4⟩
          refine hKc _ _ ⟨t4, ?_⟩
          clear hKc Kc
          have HQ := Lib.hid (And.intro q1 (And.intro q2 (And.intro hr4 t4)))
          clear q1 q2 hr4 t4
          iterate 2
            first
              | (refine plan_s1 rfl (by rfl) (fun Kc hKc => ?_)
                 go_simp
                 first
                   | (refine hKc _ ?_)
                 clear hKc Kc)
              | (refine plan_s0 rfl (by rfl) ?_; go_frame)
          refine plan_done ?_
          go_wp2
          go_ret2
          rw [HW.out.1, HW.out.2]
          obtain ⟨q1, q2, hr4, t4⟩ := HQ.out
          exact NewTwo.of (HT1.out.drew) (by rw [List.length_map]; rfl) (by simpa using q1) q2 (by simpa using hr4) t4
        by_cases hk2 : k = 2
        · subst hk2
          have hor := HOR.out 4 rfl
          have hwr : IntKind.u64.wrap 4 = 4 := IntWalk.u64_in _ (by decide)
          have hh : l.contains (2 : Int) = _ := hh
          clear hk7
          go_enter Try.func15, Try.ntmps15
          go_wp2_with (first
            | (go_at_call 20; go_must (refine HS.out.mono ?_); rintro e w1 ⟨rfl, t1⟩; have HT1 := Lib.hid t1; have HR1 := Lib.hid (Hr.out.touch t1 (fun _ _ e => e)); clear t1)
            | (go_at_call 69; go_must (refine (mnode_any _ _).mono ?_); rintro e w2 ⟨rfl, rfl⟩; rw [show decide ((0 : Int) ≤ 2 ∧ (2 : Int) < 7) = true from rfl])
            | (go_at_call 22; go_must (refine (mhas_any F A c l (2 : Int) w1 (by exact HR1.out) hsm).mono ?_); rintro e w3 ⟨rfl, rfl⟩; rw [hh]))
          refine wp_region_plan [(0, 0), (0, 1), (0, 2), (0, 3), (0, 4), (2, 5), (0, 6), (0, 7)] (fun _ => False) (by kernel_rfl) (by kernel_rfl) (fun c a d v w h => by cases d <;> exact h) ?_
          iterate 5
            first
              | (refine plan_s1 rfl (by rfl) (fun Kc hKc => ?_)
                 go_simp
                 first
                   | (refine hKc _ ?_)
                   | (refine ⟨_, calls_flip (HSet.out _ (by exact HR1.out)), hKc _ ?_⟩)
                 clear hKc Kc)
              | (refine plan_s0 rfl (by rfl) ?_; go_frame)
          refine plan_a1 rfl (by rfl) (fun Kc hKc => ?_)
          go_simp
          refine (mof_any z ht _).mono ?_
          rintro e w4 ⟨A4, c4, rfl, q1, q2, hr4, t4⟩
          refine hKc _ _ ⟨t4, ?_⟩
          clear hKc Kc
          have HQ := Lib.hid (And.intro q1 (And.intro q2 (And.intro hr4 t4)))
          clear q1 q2 hr4 t4
          iterate 2
            first
              | (refine plan_s1 rfl (by rfl) (fun Kc hKc => ?_)
                 go_simp
                 first
                   | (refine hKc _ ?_)
                 clear hKc Kc)
              | (refine plan_s0 rfl (by rfl) ?_; go_frame)
          refine plan_done ?_
          go_wp2
          go_ret2
          rw [HW.out.1, HW.out.2]
          obtain ⟨q1, q2, hr4, t4⟩ := HQ.out
          exact NewTwo.of (HT1.out.drew) (by rw [List.length_map]; rfl) (by simpa using q1) q2 (by simpa using hr4) t4
        by_cases hk3 : k = 3
        · subst hk3
          have hor := HOR.out 8 rfl
          have hwr : IntKind.u64.wrap 8 = 8 := IntWalk.u64_in _ (by decide)
          have hh : l.contains (3 : Int) = _ := hh
          clear hk7
          go_enter Try.func15, Try.ntmps15
          go_wp2_with (first
            | (go_at_call 20; go_must (refine HS.out.mono ?_); rintro e w1 ⟨rfl, t1⟩; have HT1 := Lib.hid t1; have HR1 := Lib.hid (Hr.out.touch t1 (fun _ _ e => e)); clear t1)
            | (go_at_call 69; go_must (refine (mnode_any _ _).mono ?_); rintro e w2 ⟨rfl, rfl⟩; rw [show decide ((0 : Int) ≤ 3 ∧ (3 : Int) < 7) = true from rfl])
            | (go_at_call 22; go_must (refine (mhas_any F A c l (3 : Int) w1 (by exact HR1.out) hsm).mono ?_); rintro e w3 ⟨rfl, rfl⟩; rw [hh]))
          refine wp_region_plan [(0, 0), (0, 1), (0, 2), (0, 3), (0, 4), (2, 5), (0, 6), (0, 7)] (fun _ => False) (by kernel_rfl) (by kernel_rfl) (fun c a d v w h => by cases d <;> exact h) ?_
          iterate 5
            first
              | (refine plan_s1 rfl (by rfl) (fun Kc hKc => ?_)
                 go_simp
                 first
                   | (refine hKc _ ?_)
                   | (refine ⟨_, calls_flip (HSet.out _ (by exact HR1.out)), hKc _ ?_⟩)
                 clear hKc Kc)
              | (refine plan_s0 rfl (by rfl) ?_; go_frame)
          refine plan_a1 rfl (by rfl) (fun Kc hKc => ?_)
          go_simp
          refine (mof_any z ht _).mono ?_
          rintro e w4 ⟨A4, c4, rfl, q1, q2, hr4, t4⟩
          refine hKc _ _ ⟨t4, ?_⟩
          clear hKc Kc
          have HQ := Lib.hid (And.intro q1 (And.intro q2 (And.intro hr4 t4)))
          clear q1 q2 hr4 t4
          iterate 2
            first
              | (refine plan_s1 rfl (by rfl) (fun Kc hKc => ?_)
                 go_simp
                 first
                   | (refine hKc _ ?_)
                 clear hKc Kc)
              | (refine plan_s0 rfl (by rfl) ?_; go_frame)
          refine plan_done ?_
          go_wp2
          go_ret2
          rw [HW.out.1, HW.out.2]
          obtain ⟨q1, q2, hr4, t4⟩ := HQ.out
          exact NewTwo.of (HT1.out.drew) (by rw [List.length_map]; rfl) (by simpa using q1) q2 (by simpa using hr4) t4
        by_cases hk4 : k = 4
        · subst hk4
          have hor := HOR.out 16 rfl
          have hwr : IntKind.u64.wrap 16 = 16 := IntWalk.u64_in _ (by decide)
          have hh : l.contains (4 : Int) = _ := hh
          clear hk7
          go_enter Try.func15, Try.ntmps15
          go_wp2_with (first
            | (go_at_call 20; go_must (refine HS.out.mono ?_); rintro e w1 ⟨rfl, t1⟩; have HT1 := Lib.hid t1; have HR1 := Lib.hid (Hr.out.touch t1 (fun _ _ e => e)); clear t1)
            | (go_at_call 69; go_must (refine (mnode_any _ _).mono ?_); rintro e w2 ⟨rfl, rfl⟩; rw [show decide ((0 : Int) ≤ 4 ∧ (4 : Int) < 7) = true from rfl])
            | (go_at_call 22; go_must (refine (mhas_any F A c l (4 : Int) w1 (by exact HR1.out) hsm).mono ?_); rintro e w3 ⟨rfl, rfl⟩; rw [hh]))
          refine wp_region_plan [(0, 0), (0, 1), (0, 2), (0, 3), (0, 4), (2, 5), (0, 6), (0, 7)] (fun _ => False) (by kernel_rfl) (by kernel_rfl) (fun c a d v w h => by cases d <;> exact h) ?_
          iterate 5
            first
              | (refine plan_s1 rfl (by rfl) (fun Kc hKc => ?_)
                 go_simp
                 first
                   | (refine hKc _ ?_)
                   | (refine ⟨_, calls_flip (HSet.out _ (by exact HR1.out)), hKc _ ?_⟩)
                 clear hKc Kc)
              | (refine plan_s0 rfl (by rfl) ?_; go_frame)
          refine plan_a1 rfl (by rfl) (fun Kc hKc => ?_)
          go_simp
          refine (mof_any z ht _).mono ?_
          rintro e w4 ⟨A4, c4, rfl, q1, q2, hr4, t4⟩
          refine hKc _ _ ⟨t4, ?_⟩
          clear hKc Kc
          have HQ := Lib.hid (And.intro q1 (And.intro q2 (And.intro hr4 t4)))
          clear q1 q2 hr4 t4
          iterate 2
            first
              | (refine plan_s1 rfl (by rfl) (fun Kc hKc => ?_)
                 go_simp
                 first
                   | (refine hKc _ ?_)
                 clear hKc Kc)
              | (refine plan_s0 rfl (by rfl) ?_; go_frame)
          refine plan_done ?_
          go_wp2
          go_ret2
          rw [HW.out.1, HW.out.2]
          obtain ⟨q1, q2, hr4, t4⟩ := HQ.out
          exact NewTwo.of (HT1.out.drew) (by rw [List.length_map]; rfl) (by simpa using q1) q2 (by simpa using hr4) t4
        by_cases hk5 : k = 5
        · subst hk5
          have hor := HOR.out 32 rfl
          have hwr : IntKind.u64.wrap 32 = 32 := IntWalk.u64_in _ (by decide)
          have hh : l.contains (5 : Int) = _ := hh
          clear hk7
          go_enter Try.func15, Try.ntmps15
          go_wp2_with (first
            | (go_at_call 20; go_must (refine HS.out.mono ?_); rintro e w1 ⟨rfl, t1⟩; have HT1 := Lib.hid t1; have HR1 := Lib.hid (Hr.out.touch t1 (fun _ _ e => e)); clear t1)
            | (go_at_call 69; go_must (refine (mnode_any _ _).mono ?_); rintro e w2 ⟨rfl, rfl⟩; rw [show decide ((0 : Int) ≤ 5 ∧ (5 : Int) < 7) = true from rfl])
            | (go_at_call 22; go_must (refine (mhas_any F A c l (5 : Int) w1 (by exact HR1.out) hsm).mono ?_); rintro e w3 ⟨rfl, rfl⟩; rw [hh]))
          refine wp_region_plan [(0, 0), (0, 1), (0, 2), (0, 3), (0, 4), (2, 5), (0, 6), (0, 7)] (fun _ => False) (by kernel_rfl) (by kernel_rfl) (fun c a d v w h => by cases d <;> exact h) ?_
          iterate 5
            first
              | (refine plan_s1 rfl (by rfl) (fun Kc hKc => ?_)
                 go_simp
                 first
                   | (refine hKc _ ?_)
                   | (refine ⟨_, calls_flip (HSet.out _ (by exact HR1.out)), hKc _ ?_⟩)
                 clear hKc Kc)
              | (refine plan_s0 rfl (by rfl) ?_; go_frame)
          refine plan_a1 rfl (by rfl) (fun Kc hKc => ?_)
          go_simp
          refine (mof_any z ht _).mono ?_
          rintro e w4 ⟨A4, c4, rfl, q1, q2, hr4, t4⟩
          refine hKc _ _ ⟨t4, ?_⟩
          clear hKc Kc
          have HQ := Lib.hid (And.intro q1 (And.intro q2 (And.intro hr4 t4)))
          clear q1 q2 hr4 t4
          iterate 2
            first
              | (refine plan_s1 rfl (by rfl) (fun Kc hKc => ?_)
                 go_simp
                 first
                   | (refine hKc _ ?_)
                 clear hKc Kc)
              | (refine plan_s0 rfl (by rfl) ?_; go_frame)
          refine plan_done ?_
          go_wp2
          go_ret2
          rw [HW.out.1, HW.out.2]
          obtain ⟨q1, q2, hr4, t4⟩ := HQ.out
          exact NewTwo.of (HT1.out.drew) (by rw [List.length_map]; rfl) (by simpa using q1) q2 (by simpa using hr4) t4
        by_cases hk6 : k = 6
        · subst hk6
          have hor := HOR.out 64 rfl
          have hwr : IntKind.u64.wrap 64 = 64 := IntWalk.u64_in _ (by decide)
          have hh : l.contains (6 : Int) = _ := hh
          clear hk7
          go_enter Try.func15, Try.ntmps15
          go_wp2_with (first
            | (go_at_call 20; go_must (refine HS.out.mono ?_); rintro e w1 ⟨rfl, t1⟩; have HT1 := Lib.hid t1; have HR1 := Lib.hid (Hr.out.touch t1 (fun _ _ e => e)); clear t1)
            | (go_at_call 69; go_must (refine (mnode_any _ _).mono ?_); rintro e w2 ⟨rfl, rfl⟩; rw [show decide ((0 : Int) ≤ 6 ∧ (6 : Int) < 7) = true from rfl])
            | (go_at_call 22; go_must (refine (mhas_any F A c l (6 : Int) w1 (by exact HR1.out) hsm).mono ?_); rintro e w3 ⟨rfl, rfl⟩; rw [hh]))
          refine wp_region_plan [(0, 0), (0, 1), (0, 2), (0, 3), (0, 4), (2, 5), (0, 6), (0, 7)] (fun _ => False) (by kernel_rfl) (by kernel_rfl) (fun c a d v w h => by cases d <;> exact h) ?_
          iterate 5
            first
              | (refine plan_s1 rfl (by rfl) (fun Kc hKc => ?_)
                 go_simp
                 first
                   | (refine hKc _ ?_)
                   | (refine ⟨_, calls_flip (HSet.out _ (by exact HR1.out)), hKc _ ?_⟩)
                 clear hKc Kc)
              | (refine plan_s0 rfl (by rfl) ?_; go_frame)
          refine plan_a1 rfl (by rfl) (fun Kc hKc => ?_)
          go_simp
          refine (mof_any z ht _).mono ?_
          rintro e w4 ⟨A4, c4, rfl, q1, q2, hr4, t4⟩
          refine hKc _ _ ⟨t4, ?_⟩
          clear hKc Kc
          have HQ := Lib.hid (And.intro q1 (And.intro q2 (And.intro hr4 t4)))
          clear q1 q2 hr4 t4
          iterate 2
            first
              | (refine plan_s1 rfl (by rfl) (fun Kc hKc => ?_)
                 go_simp
                 first
                   | (refine hKc _ ?_)
                 clear hKc Kc)
              | (refine plan_s0 rfl (by rfl) ?_; go_frame)
          refine plan_done ?_
          go_wp2
          go_ret2
          rw [HW.out.1, HW.out.2]
          obtain ⟨q1, q2, hr4, t4⟩ := HQ.out
          exact NewTwo.of (HT1.out.drew) (by rw [List.length_map]; rfl) (by simpa using q1) q2 (by simpa using hr4) t4
        omega
    · have hd : decide (0 ≤ n ∧ n < 7) = false := decide_eq_false hn
      have HW := Lib.hid (show withL l n = [] ∧ withE l n = 2 from by simp only [withL, withE, hb]; simp [hn])
      go_enter Try.func15, Try.ntmps15
      go_wp2_with (first
        | (go_at_call 20; go_must (refine HS.out.mono ?_); rintro e w1 ⟨rfl, t1⟩; have HT1 := Lib.hid t1; have HR1 := Lib.hid (Hr.out.touch t1 (fun _ _ e => e)); clear t1)
        | (go_at_call 69; go_must (refine (mnode_any _ _).mono ?_); rintro e w2 ⟨rfl, rfl⟩; rw [hd]))
      go_ret2
      rw [HW.out.1, HW.out.2]
      exact NewTwo.none HT1.out
  · have hb : Row.soundB l = false := by simpa using hb
    have HW := Lib.hid (show withL l n = [] ∧ withE l n = 2 from by simp [withL, withE, hb])
    rw [hb] at HS
    go_enter Try.func15, Try.ntmps15
    go_wp2_with (first
      | (go_at_call 20; go_must (refine HS.out.mono ?_); rintro e w1 ⟨rfl, t1⟩; have HT1 := Lib.hid t1; have HR1 := Lib.hid (Hr.out.touch t1 (fun _ _ e => e)); clear t1))
    go_ret2
    rw [HW.out.1, HW.out.2]
    exact NewTwo.none HT1.out
theorem rwith_any (F : Nat → Prop) (A : Option Addr) (c : Nat) (l : List Int) (n : Int) (w : World) (hr : Rd w F A l.length (l.map I64)) (hsm : l.length ≤ 1000000) :
    Calls Try.prog 16 #[.slice A l.length c, .int .i64 n] w (NewTwo w ((withL l n).map I64) (.int .i64 (withE l n))) := by
  have Hr := Lib.hid hr
  have HS := Lib.hid (rsound_any F A c l w hr hsm)
  clear hr
  by_cases hb : Row.soundB l = true
  · rw [hb] at HS
    by_cases hn : 0 ≤ n ∧ n < 7
    · have hd : decide (0 ≤ n ∧ n < 7) = true := decide_eq_true hn
      by_cases hh : l.contains n = true
      · have HW := Lib.hid (show withL l n = [] ∧ withE l n = 32 from by simp only [withL, withE, hb, hh]; simp [hn])
        obtain ⟨hn0, hn7⟩ := hn
        go_enter Try.func16, Try.ntmps16
        go_wp2_with (first
          | (go_at_call 21; go_must (refine HS.out.mono ?_); rintro e w1 ⟨rfl, t1⟩; have HT1 := Lib.hid t1; have HR1 := Lib.hid (Hr.out.touch t1 (fun _ _ e => e)); clear t1)
          | (go_at_call 23; go_must (refine (rhas_any F A c l n w1 (by exact HR1.out) hsm).mono ?_); rintro e w3 ⟨rfl, rfl⟩; rw [hh]))
        go_ret2
        rw [HW.out.1, HW.out.2]
        exact NewTwo.none HT1.out
      · have hh : l.contains n = false := by simpa using hh
        have HW := Lib.hid (show withL l n = Row.rowOf (rowB l (-1) n) ∧ withE l n = 0 from by simp only [withL, withE, hb, hh]; simp [hn])
        obtain ⟨hn0, hn7⟩ := hn
        go_enter Try.func16, Try.ntmps16
        go_wp2_with (first
          | (go_at_call 21; go_must (refine HS.out.mono ?_); rintro e w1 ⟨rfl, t1⟩; have HT1 := Lib.hid t1; have HR1 := Lib.hid (Hr.out.touch t1 (fun _ _ e => e)); clear t1)
          | (go_at_call 23; go_must (refine (rhas_any F A c l n w1 (by exact HR1.out) hsm).mono ?_); rintro e w3 ⟨rfl, rfl⟩; rw [hh])
          | (go_at_call 72; go_must (refine (rrow_any F A c l (-1) n w1 HR1.out hsm).mono ?_); rintro e w4 ⟨A4, c4, rfl, q1, q2, hr4, t4⟩; have HQ := Lib.hid (And.intro q1 (And.intro q2 (And.intro hr4 t4))); clear q1 q2 hr4 t4))
        go_ret2
        rw [HW.out.1, HW.out.2]
        obtain ⟨q1, q2, hr4, t4⟩ := HQ.out
        exact NewTwo.of HT1.out (by rw [List.length_map]; rfl) (by simpa using q1) q2 (by simpa using hr4) t4
    · have hd : decide (0 ≤ n ∧ n < 7) = false := decide_eq_false hn
      have HW := Lib.hid (show withL l n = [] ∧ withE l n = 2 from by simp only [withL, withE, hb]; simp [hn])
      by_cases hn0 : n < 0
      · clear hn hd
        go_enter Try.func16, Try.ntmps16
        go_wp2_with (first
          | (go_at_call 21; go_must (refine HS.out.mono ?_); rintro e w1 ⟨rfl, t1⟩; have HT1 := Lib.hid t1; have HR1 := Lib.hid (Hr.out.touch t1 (fun _ _ e => e)); clear t1))
        go_ret2
        rw [HW.out.1, HW.out.2]
        exact NewTwo.none HT1.out
      · have hn6 : 6 < n := by omega
        clear hn hd
        go_enter Try.func16, Try.ntmps16
        go_wp2_with (first
          | (go_at_call 21; go_must (refine HS.out.mono ?_); rintro e w1 ⟨rfl, t1⟩; have HT1 := Lib.hid t1; have HR1 := Lib.hid (Hr.out.touch t1 (fun _ _ e => e)); clear t1))
        go_ret2
        rw [HW.out.1, HW.out.2]
        exact NewTwo.none HT1.out
  · have hb : Row.soundB l = false := by simpa using hb
    have HW := Lib.hid (show withL l n = [] ∧ withE l n = 2 from by simp [withL, withE, hb])
    rw [hb] at HS
    go_enter Try.func16, Try.ntmps16
    go_wp2_with (first
      | (go_at_call 21; go_must (refine HS.out.mono ?_); rintro e w1 ⟨rfl, t1⟩; have HT1 := Lib.hid t1; have HR1 := Lib.hid (Hr.out.touch t1 (fun _ _ e => e)); clear t1))
    go_ret2
    rw [HW.out.1, HW.out.2]
    exact NewTwo.none HT1.out
end Go.Proofs.Ytecmbmfcooonnaa
