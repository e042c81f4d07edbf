/- What package member's functions do, and the reference's: who stands in a row. -/
import Derived.Test.YtpgakkpmpnebnaaMemL
import Derived.Test.YtpgakkpmpnebnaaVQuillY
import Derived.Test.YtpgakkpmpnebnaaPlan
namespace Go.Proofs.Ytpgakkpmpnebnaa
open Go.RowKit
set_option maxHeartbeats 2000000
set_option maxRecDepth 100000

theorem mnode_any (n : Int) (w : World) : Calls Try.prog 135 #[.int .i64 n] w fun e w' => e = .returned (.bool (decide (0 ≤ n ∧ n < 7))) ∧ w = w' := by
  by_cases h0 : 0 ≤ n
  · by_cases h7 : n < 7
    · go_enter Try.func135, Try.ntmps135
      go_wp2
      go_ret
      simp [h7]; omega
    · go_enter Try.func135, Try.ntmps135
      go_wp2
      go_ret
      simp; omega
  · go_enter Try.func135, Try.ntmps135
    go_wp2
    go_ret
    simp; omega

theorem get_I64 {l : List Int} {j : Nat} (hj : j < l.length) : (l.map I64)[j]? = some (I64 (l.getD j 0)) := by simp [List.getD, List.getElem?_eq_getElem hj]

theorem bit_or (s k : Nat) (c : Int) (hs : s < 128) (hk : k < 7) (hc : c = ((1 <<< k : Nat) : Int)) : bits .or .u64 (s : Int) c = ((s ||| 1 <<< k : Nat) : Int) := by
  subst hc
  refine u64_or_nat _ _ (by omega) ?_
  rw [Nat.one_shiftLeft]
  exact Nat.lt_of_lt_of_le (Nat.pow_lt_pow_right (by omega) hk) (by decide)

theorem mset_any (F : Nat → Prop) (A : Option Addr) (c : Nat) (l : List Int) (w : World) (hr : Rd w F A l.length (l.map I64)) (hsm : l.length ≤ 1000000) :
    Calls Try.prog 121 #[.slice A l.length c] w fun e w' => e = .returned (.int .u64 (Row.setN l : Nat)) ∧ w = w' := by
  have Hr := Lib.hid hr
  clear hr
  go_enter Try.func121, Try.ntmps121
  go_wp2_with fail
  go_loopw [2, 7] (fun s i wr => ∃ j : Nat, j ≤ l.length ∧ i = .int .i64 j ∧ s = .int .u64 (Row.setN (l.take j) : Nat) ∧ wr = w) (fun _ i _ => l.length - (intOf i).toNat)
  case atStart => exact ⟨0, by omega, rfl, rfl, rfl⟩
  case round =>
    obtain ⟨j, hj, rfl, rfl, rfl⟩ := hrel
    by_cases hjk : j < l.length
    · obtain ⟨a, off, rfl, _, _, hc⟩ := Hr.out.2 (by omega)
      have hcj := hc j _ (get_I64 hjk)
      simp only [I64] at hcj
      have HE := Lib.hid (Row.setN_take l j hjk)
      have hs := Row.setN_lt (l.take j)
      generalize l.getD j 0 = x at *
      have HS := Lib.hid (Eq.refl (Row.setN (l.take j)))
      generalize hsg : Row.setN (l.take j) = s at *
      clear hc hsg
      by_cases hx : 0 ≤ x ∧ x < 7
      · rw [if_pos hx] at HE
        obtain ⟨k, rfl⟩ := Int.eq_ofNat_of_zero_le hx.1
        rw [Int.toNat_natCast] at HE
        have hk : k = 0 ∨ k = 1 ∨ k = 2 ∨ k = 3 ∨ k = 4 ∨ k = 5 ∨ k = 6 := by omega
        rcases hk with rfl | rfl | rfl | rfl | rfl | rfl | rfl
        all_goals (
          go_wp2_with (go_at_call 135; go_must (refine (mnode_any _ _).mono ?_); rintro e w1 ⟨rfl, rfl⟩)
          go_roundw
          case rel => exact ⟨j + 1, by omega, by go_num, by rw [HE.out]; exact congrArg (Value.int .u64) (bit_or s _ _ hs (by decide) (by decide)), trivial⟩
          case measure => simp [intOf]; omega)
      · rw [if_neg hx] at HE
        go_wp2_with (go_at_call 135; go_must (refine (mnode_any _ _).mono ?_); rintro e w1 ⟨rfl, rfl⟩)
        go_roundw
        case rel => exact ⟨j + 1, by omega, by go_num, by rw [HE.out], trivial⟩
        case measure => simp [intOf]; omega
    · obtain rfl : j = l.length := by omega
      go_wp2
      go_ret
      rw [List.take_length]
      exact ⟨rfl, rfl⟩
theorem infoI : (Try.prog.info? 3).map (fun i => (i.zero, i.size, i.bytes)) = some (some (.int .i64 0), 1, 8) := by kernel_rfl
theorem I64_one (l : List Int) : ∀ u ∈ l.map I64, u.oneCell' = true := by
  intro u hu
  obtain ⟨c, _, rfl⟩ := List.mem_map.1 hu
  rfl
theorem bit_and (s j : Nat) (hs : s < 128) : bits .and .u64 ((s : Int) / 2 ^ j) 1 = ((s / 2 ^ j % 2 : Nat) : Int) := by
  have e : ((s : Int) / 2 ^ j) = ((s / 2 ^ j : Nat) : Int) := by rw [Int.natCast_ediv, Int.natCast_pow]; rfl
  rw [e, show (1 : Int) = ((1 : Nat) : Int) from rfl, u64_and_nat _ _ (Nat.lt_of_le_of_lt (Nat.div_le_self _ _) (by omega)) (by omega), Nat.and_one_is_mod]

theorem mof_any (s : Nat) (hs : s < 128) (w : World) : Calls Try.prog 120 #[.int .u64 s] w (NewSl w ((Row.ofN s).map I64)) := by
  obtain ⟨i0, hi, hz0, hz1, hz2⟩ := info_parts infoI
  go_enter Try.func120, Try.ntmps120
  go_wp2_with fail
  go_loopw [2, 4] (fun v i wr => ∃ j : Nat, j ≤ 7 ∧ i = .int .i64 j ∧ (∃ r, Own wr 3 1 v r (Row.ofK s j).length ((Row.ofK s j).map I64) ∧ ∀ k, r = some k → w.heap.size ≤ k) ∧ Touch (fun _ => False) w wr) (fun _ i _ => 7 - (intOf i).toNat)
  case atStart => exact ⟨0, by omega, rfl, ⟨none, Own.nil _ _ _, fun k e => by cases e⟩, Touch.refl _ _⟩
  case round =>
    obtain ⟨j, hj, rfl, hM, hT⟩ := hrel
    have HM := Lib.hid hM
    have HT := Lib.hid hT
    obtain ⟨r, ho, hrk⟩ := hM
    obtain ⟨A0, c0, rfl, -, -⟩ := ho.form
    have HO := Lib.hid ho
    have HR := Lib.hid hrk
    clear ho hT HM hrk
    by_cases hjk : j < 7
    · have HU := Lib.hid (Row.ofK_succ s j)
      have hbv : s / 2 ^ j % 2 = if s.testBit j then 1 else 0 := by
        rw [Nat.testBit_eq_decide_div_mod_eq]
        by_cases h : s / 2 ^ j % 2 = 1
        · simp [h]
        · simp [h]; omega
      have hand := bit_and s j hs
      rw [hbv] at hand
      have hol := Row.ofK_len s j
      by_cases hb : s.testBit j
      · rw [if_pos hb] at HU hand
        have hx : bits .and .u64 ((s : Int) / 2 ^ j) 1 = 1 := hand
        clear hand hbv hb
        have HTl := Lib.hid ((Touch.refl (fun _ => False) wr).alloc (.cells #[.int .i64 (j : Int)] 3))
        have HB := Lib.hid (Blk.new wr 3 #[.int .i64 (j : Int)])
        go_wp2_with (
          at_builtin
          go_must (refine wpList_own_append rfl _ _ 23 23 rfl 3 i0 (.int .i64 0) 1 8 Try.underlying23 hi hz0 hz1 hz2 rfl _ r (Row.ofK s j).length ((Row.ofK s j).map I64) rfl (by exact HO.out.touch HTl.out (fun _ _ e => e)) _ 1 [.int .i64 (j : Int)] rfl (by exact Src.lit Try.underlying23 wr.heap.size 1 1 3 #[.int .i64 (j : Int)] HB.out rfl (fun u hu => by simp at hu; subst hu; rfl)) (by simp only [maxLen]; omega) (by omega) ?_)
          intro v1 r1 w1 ho1 ht1 hr1
          have HR1 := Lib.hid (And.intro ho1 (And.intro ht1 hr1))
          clear ho1 ht1 hr1)
        go_roundw
        case rel =>
          obtain ⟨ho1, ht1, hr1⟩ := HR1.out
          have hs := HT.out.size
          refine ⟨j + 1, by omega, by go_num, ⟨r1, ?_, ?_⟩, (HT.out.trans HTl.out (fun _ _ e => e)).trans ht1 (fun q hq e => by have := HR.out q e; omega)⟩
          · rw [HU.out, List.length_append, List.map_append]; exact ho1
          · intro k e
            rcases hr1 with e' | ⟨q, e', hq⟩
            · exact HR.out k (e'.symm.trans e)
            · rw [e'] at e; injection e with e; simp at hq; omega
        case measure => simp [intOf]; omega
      · rw [if_neg hb] at HU hand
        have hx : bits .and .u64 ((s : Int) / 2 ^ j) 1 = 0 := hand
        clear hand hbv hb
        go_wp2_with fail
        go_roundw
        case rel => exact ⟨j + 1, by omega, by go_num, ⟨r, by rw [HU.out, List.append_nil]; exact HO.out, HR.out⟩, HT.out⟩
        case measure => simp [intOf]; omega
    · obtain rfl : j = 7 := by omega
      go_wp2
      go_ret
      obtain ⟨A1, c1, hv, hc1, hc2, _, hr⟩ := HO.out.rd
      injection hv with hv1 hv2 hv3
      subst hv1 hv3
      rw [Row.ofK_7] at hc1 hr
      exact ⟨A0, c0, by rw [List.length_map]; rfl, by simpa using hc1, hc2, by rw [List.length_map]; exact hr.mono fun k hk => HR.out k hk, HT.out⟩

theorem mindex_any (F : Nat → Prop) (A : Option Addr) (c : Nat) (l : List Int) (x : Int) (w : World) (hr : Rd w F A l.length (l.map I64)) (hsm : l.length ≤ 1000000) :
    Calls Try.prog 126 #[.slice A l.length c, .int .i64 x] w fun e w' => (∃ r : Int, e = .returned (.int .i64 r) ∧ decide (0 ≤ r) = l.contains x) ∧ w = w' := by
  have Hr := Lib.hid hr
  clear hr
  go_enter Try.func126, Try.ntmps126
  go_wp2_with fail
  go_loopw [8] (fun i wr => ∃ j : Nat, j ≤ l.length ∧ i = .int .i64 j ∧ (l.take j).contains x = false ∧ wr = w) (fun i _ => l.length - (intOf i).toNat)
  case atStart => exact ⟨0, by omega, rfl, by simp, rfl⟩
  case round =>
    obtain ⟨j, hj, rfl, hno, rfl⟩ := hrel
    have HN := Lib.hid hno
    clear hno
    by_cases hjk : j < l.length
    · obtain ⟨a, off, rfl, _, _, hc⟩ := Hr.out.2 (by omega)
      have hcj := hc j _ (get_I64 hjk)
      simp only [I64] at hcj
      have HE := Lib.hid (Row.has_take l j hjk x)
      generalize l.getD j 0 = y at *
      clear hc
      by_cases hx : x = y
      · subst hx
        go_wp2_with fail
        go_ret
        refine ⟨⟨j, rfl, ?_⟩, rfl⟩
        have h1 : (l.take (j + 1)).contains x = true := by rw [HE.out]; simp
        have h2 : x ∈ l := List.mem_of_mem_take (by simpa using h1)
        simp [h2]
      · go_wp2_with fail
        go_roundw
        case rel => exact ⟨j + 1, by omega, by go_num, by rw [HE.out, HN.out]; simp [hx], trivial⟩
        case measure => simp [intOf]; omega
    · obtain rfl : j = l.length := by omega
      go_wp2
      go_ret
      refine ⟨⟨-1, rfl, ?_⟩, rfl⟩
      have := HN.out
      rw [List.take_length] at this
      rw [this]; rfl

theorem mhas_any (F : Nat → Prop) (A : Option Addr) (c : Nat) (l : List Int) (x : Int) (w : World) (hr : Rd w F A l.length (l.map I64)) (hsm : l.length ≤ 1000000) :
    Calls Try.prog 72 #[.slice A l.length c, .int .i64 x] w fun e w' => e = .returned (.bool (l.contains x)) ∧ w = w' := by
  have HC := Lib.hid (mindex_any F A c l x w hr hsm)
  clear hr
  have HC2 : Hid (Calls Try.prog 106 #[.slice A l.length c, .int .i64 x] w fun e w' => e = .returned (.bool (l.contains x)) ∧ w = w') := by
    refine Lib.hid ?_
    go_enter Try.func106, Try.ntmps106
    go_wp2_with (go_at_call 126; go_must (refine HC.out.mono ?_); rintro e w1 ⟨⟨r, rfl, hx⟩, rfl⟩; have HX := Lib.hid hx; clear hx)
    go_ret
    exact ⟨ret_bool HX.out, rfl⟩
  clear HC
  go_enter Try.func72, Try.ntmps72
  go_wp2_with (go_at_call 106; go_must (refine HC2.out.mono ?_); rintro e w1 ⟨rfl, rfl⟩)
  go_ret
  exact ⟨ret_bool (by simp), rfl⟩

theorem mequal_any (F F' : Nat → Prop) (A A' : Option Addr) (c c' : Nat) (a b : List Int) (w : World) (hr : Rd w F A a.length (a.map I64)) (hr' : Rd w F' A' b.length (b.map I64)) (hsm : a.length ≤ 1000000) :
    Calls Try.prog 134 #[.slice A a.length c, .slice A' b.length c'] w fun e w' => e = .returned (.bool (decide (a = b))) ∧ Touch (fun _ => False) w w' := by
  have Hr := Lib.hid hr
  have Hr' := Lib.hid hr'
  clear hr hr'
  by_cases hlen : a.length = b.length
  · go_enter Try.func134, Try.ntmps134
    rw [← hlen] at Hr' ⊢
    have HL := Lib.hid hlen
    clear hlen
    go_wp2_with fail
    go_loopw [13] (fun i wr => ∃ j : Nat, j ≤ a.length ∧ i = .int .i64 j ∧ a.take j = b.take j ∧ Touch (fun _ => False) w wr) (fun i _ => a.length - (intOf i).toNat)
    case atStart => exact ⟨0, by omega, rfl, rfl, Touch.refl _ _⟩
    case round =>
      obtain ⟨j, hj, rfl, hno, hT⟩ := hrel
      have HN := Lib.hid hno
      have HT := Lib.hid hT
      clear hno hT
      by_cases hjk : j < a.length
      · obtain ⟨g, off, rfl, _, _, hc⟩ := (Hr.out.touch HT.out (fun _ _ e => e)).2 (by omega)
        obtain ⟨g', off', rfl, _, _, hc'⟩ := (Hr'.out.touch HT.out (fun _ _ e => e)).2 (by omega)
        have hcj := hc j _ (get_I64 hjk)
        have hcj' := hc' j _ (get_I64 (by rw [← HL.out]; exact hjk))
        simp only [I64] at hcj hcj'
        have HE := Lib.hid (Row.eq_take a b HL.out j hjk)
        generalize a.getD j 0 = x at *
        generalize b.getD j 0 = y at *
        clear hc hc'
        by_cases hx : x = y
        · subst hx
          go_wp2_with fail
          refine wp_region_plan [(0, 0), (0, 1), (0, 2), (0, 3), (0, 4), (0, 5), (0, 6), (0, 7), (0, 8)] (fun _ => False) (by kernel_rfl) (by kernel_rfl) (fun c a d v w h => by cases d <;> exact h) ?_
          iterate 9
            first
              | (refine plan_s1 rfl (by rfl) (fun Kc hKc => ?_)
                 go_simp
                 first
                   | (refine hKc _ ?_)
                 clear hKc Kc)
              | (refine plan_s0 rfl (by rfl) ?_; go_frame)
          refine plan_done ?_
          go_wp2
          go_roundw
          case rel => exact ⟨j + 1, by omega, by go_num, HE.out.2 ⟨HN.out, trivial⟩, HT.out.drew⟩
          case measure => simp [intOf]; omega
        · go_wp2_with fail
          refine wp_region_plan [(0, 0), (0, 1), (0, 2), (0, 3), (0, 4), (0, 5), (0, 6), (0, 7), (0, 8)] (fun _ => False) (by kernel_rfl) (by kernel_rfl) (fun c a d v w h => by cases d <;> exact h) ?_
          iterate 9
            first
              | (refine plan_s1 rfl (by rfl) (fun Kc hKc => ?_)
                 go_simp
                 first
                   | (refine hKc _ ?_)
                 clear hKc Kc)
              | (refine plan_s0 rfl (by rfl) ?_; go_frame)
          refine plan_done ?_
          go_wp2
          go_ret
          refine ⟨ret_bool ?_, HT.out.drew⟩
          simp only [Bool.false_eq, decide_eq_false_iff_not]
          rintro rfl
          exact hx (HE.out.1 rfl).2
      · obtain rfl : j = a.length := by omega
        go_wp2
        go_ret
        refine ⟨ret_bool ?_, HT.out⟩
        have := HN.out
        rw [List.take_length, HL.out, List.take_length] at this
        simp [this]
  · go_enter Try.func134, Try.ntmps134
    have hl2 : ¬ ((a.length : Int) = b.length) := by omega
    go_wp2
    go_ret
    refine ⟨ret_bool ?_, Touch.refl _ _⟩
    simp only [Bool.false_eq, decide_eq_false_iff_not]
    rintro rfl
    exact hlen rfl
theorem msame_any (F F' : Nat → Prop) (A A' : Option Addr) (c c' : Nat) (a b : List Int) (w : World) (hr : Rd w F A a.length (a.map I64)) (hr' : Rd w F' A' b.length (b.map I64)) (hsm : a.length ≤ 1000000) :
    Calls Try.prog 119 #[.slice A a.length c, .slice A' b.length c'] w fun e w' => e = .returned (.bool (decide (a = b))) ∧ Touch (fun _ => False) w w' := by
  have HC := Lib.hid (mequal_any F F' A A' c c' a b w hr hr' hsm)
  clear hr hr'
  go_enter Try.func119, Try.ntmps119
  go_wp2_with (go_at_call 134; go_must (refine HC.out.mono ?_); rintro e w1 ⟨rfl, t1⟩; have HT := Lib.hid t1; clear t1)
  go_ret
  exact ⟨rfl, HT.out⟩

/-- Sound. -/
theorem msound_any (F : Nat → Prop) (A : Option Addr) (c : Nat) (l : List Int) (w : World) (hr : Rd w F A l.length (l.map I64)) (hsm : l.length ≤ 1000000) :
    Calls Try.prog 100 #[.slice A l.length c] w fun e w' => e = .returned (.bool (Row.soundB l)) ∧ Touch (fun _ => False) w w' := by
  have Hr := Lib.hid hr
  have HS := Lib.hid (mset_any F A c l w hr hsm)
  have hsl := Row.setN_lt l
  clear hr
  by_cases h0 : 0 < l.length
  · have HB := Lib.hid (Row.sound_pos h0)
    go_enter Try.func100, Try.ntmps100
    go_wp2_with (first
      | (go_at_call 121; go_must (refine HS.out.mono ?_); rintro e w1 ⟨rfl, rfl⟩)
      | (go_at_call 120; go_must (refine (mof_any (Row.setN l) hsl _).mono ?_); rintro e w1 ⟨A1, c1, rfl, -, -, hr1, t1⟩; rw [List.length_map] at hr1 ⊢; have HR1 := Lib.hid hr1; have HT1 := Lib.hid t1; clear hr1 t1)
      | (go_at_call 119; go_must (refine (msame_any F _ A A1 c c1 l (Row.ofN (Row.setN l)) w1 (by exact Hr.out.touch HT1.out (fun _ _ e => e)) (by exact HR1.out) hsm).mono ?_); rintro e w2 ⟨rfl, t2⟩; have HT2 := Lib.hid t2; clear t2))
    go_ret
    exact ⟨ret_bool (by rw [HB.out]), HT1.out.trans HT2.out (fun _ _ e => e)⟩
  · have h00 : l.length = 0 := by omega
    rw [h00]
    go_enter Try.func100, Try.ntmps100
    go_wp2
    go_ret
    refine ⟨ret_bool ?_, Touch.refl _ _⟩
    rw [List.eq_nil_of_length_eq_zero h00]; rfl
theorem mquorum_any (F : Nat → Prop) (A : Option Addr) (c : Nat) (l : List Int) (w : World) (hr : Rd w F A l.length (l.map I64)) (hsm : l.length ≤ 1000000) :
    Calls Try.prog 102 #[.slice A l.length c] w fun e w' => e = .returned (.int .i64 (if Row.soundB l then (l.length / 2 + 1 : Nat) else 0 : Int)) ∧ Touch (fun _ => False) w w' := by
  have HS := Lib.hid (msound_any F A c l w hr hsm)
  clear hr
  by_cases hb : Row.soundB l = true
  · rw [hb] at HS ⊢
    clear hb
    go_enter Try.func102, Try.ntmps102
    go_wp2_with (go_at_call 100; go_must (refine HS.out.mono ?_); rintro e w1 ⟨rfl, t1⟩; have HT1 := Lib.hid t1; clear t1)
    go_ret
    exact ⟨ret_int (by simp), HT1.out⟩
  · simp only [Bool.not_eq_true] at hb
    rw [hb] at HS ⊢
    clear hb
    go_enter Try.func102, Try.ntmps102
    go_wp2_with (go_at_call 100; go_must (refine HS.out.mono ?_); rintro e w1 ⟨rfl, t1⟩; have HT1 := Lib.hid t1; clear t1)
    go_ret
    exact ⟨rfl, HT1.out⟩
end Go.Proofs.Ytpgakkpmpnebnaa
