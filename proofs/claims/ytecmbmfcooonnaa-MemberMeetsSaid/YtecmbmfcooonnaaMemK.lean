/- The walk of MemberMeets. -/
import Derived.Test.YtecmbmfcooonnaaMemI
import Derived.Test.YtecmbmfcooonnaaMemN
namespace Go.Proofs.Ytecmbmfcooonnaa
open Go.RowKit
set_option maxHeartbeats 4000000
set_option maxRecDepth 100000
set_option linter.unusedVariables false

theorem walk_MemberMeets {w : World} (A0 : Option Addr) (n0 c0 : Nat) (l0 : List Int) (e0 : l0.length = n0) (o0 : ∀ x ∈ l0, -9223372036854775808 ≤ x ∧ x ≤ 9223372036854775807) (g0 : A0 = none → c0 = 0) (u0 : n0 ≤ c0) (m0 : c0 ≤ maxLen) (s0 : Rd w (fun k => k < w.heap.size) A0 n0 (l0.map I64))
    (A1 : Option Addr) (n1 c1 : Nat) (l1 : List Int) (e1 : l1.length = n1) (o1 : ∀ x ∈ l1, -9223372036854775808 ≤ x ∧ x ≤ 9223372036854775807) (g1 : A1 = none → c1 = 0) (u1 : n1 ≤ c1) (m1 : c1 ≤ maxLen) (s1 : Rd w (fun k => k < w.heap.size) A1 n1 (l1.map I64))
    (a2 : Int) (k2 : 0 ≤ a2 ∧ a2 ≤ 18446744073709551615) (a3 : Int) (k3 : 0 ≤ a3 ∧ a3 ≤ 18446744073709551615) :
    Calls Try.prog 5 #[.slice A0 n0 c0, .slice A1 n1 c1, .int .u64 a2, .int .u64 a3] w fun e w' => e = .returned (.bool true) ∧ Below w.heap.size w w' := by
  subst e0 e1
  clear o0 o1 g0 g1 u0 u1 m0 m1
  obtain ⟨x, rfl⟩ := Int.eq_ofNat_of_zero_le k2.1
  obtain ⟨y, rfl⟩ := Int.eq_ofNat_of_zero_le k3.1
  have hx : x < 18446744073709551616 := by omega
  have hy : y < 18446744073709551616 := by omega
  have HB0 := Lib.hid (((Touch.refl (fun _ => False) w).alloc (.cells #[.int .u64 (x : Int)] 31)).alloc (.cells #[.int .u64 (y : Int)] 31))
  have HT := Lib.hid (Touch.refl (fun _ => False) ((w.alloc (.cells #[.int .u64 (x : Int)] 31)).alloc (.cells #[.int .u64 (y : Int)] 31)))
  have HBx := Lib.hid ((Blk.new w 31 #[.int .u64 (x : Int)]).alloc (.cells #[.int .u64 (y : Int)] 31))
  have HBy : Blk ((w.alloc (.cells #[.int .u64 (x : Int)] 31)).alloc (.cells #[.int .u64 (y : Int)] 31)) (w.heap.size + 1) 31 #[.int .u64 (y : Int)] := by
    have := Blk.new (w.alloc (.cells #[.int .u64 (x : Int)] 31)) 31 #[.int .u64 (y : Int)]
    simpa using this
  have HBy := Lib.hid HBy
  have HRa := Lib.hid (s0.touch HB0.out (fun _ _ e => e))
  have HRb := Lib.hid (s1.touch HB0.out (fun _ _ e => e))
  clear s0 s1 k2 k3
  by_cases hbig : ¬ (l0.length ≤ 100 ∧ l1.length ≤ 100)
  · have hd : (decide (l0.length ≤ 100) && decide (l1.length ≤ 100)) = false := by
      rw [Bool.eq_false_iff]; intro h; simp at h; exact hbig h
    clear hbig
    go_enter Try.func5, Try.ntmps5
    go_wp2_with (first
      | (go_at_call 13; go_must (refine (light29_any _ _ _ _ _ _ _).mono ?_); rintro e w1 ⟨rfl, rfl⟩; rw [hd])
      | (go_at_call 14; go_must (refine (lives29_any _).mono ?_); rintro e w1 ⟨rfl, t1⟩; have HT := Lib.hid (HT.out.trans t1 (fun _ _ e => e)); clear t1))
    go_ret
    exact ⟨rfl, (HB0.out.trans HT.out (fun _ _ e => e)).below⟩
  have hbig : l0.length ≤ 100 ∧ l1.length ≤ 100 := by omega
  have hd : (decide (l0.length ≤ 100) && decide (l1.length ≤ 100)) = true := by simp [hbig]
  have hsm : l0.length ≤ 1000000 := by omega
  have hsm1 : l1.length ≤ 1000000 := by omega
  clear hbig
  cases hnb : nearB l0 l1
  · go_enter Try.func5, Try.ntmps5
    go_wp2_with (first
      | (go_at_call 13; go_must (refine (light29_any _ _ _ _ _ _ _).mono ?_); rintro e w1 ⟨rfl, rfl⟩; rw [hd])
      | (go_at_call 27; go_must (refine (mnear_any _ _ A0 A1 c0 c1 l0 l1 _ (by exact HRa.out.touch HT.out (fun _ _ e => e)) (by exact HRb.out.touch HT.out (fun _ _ e => e)) hsm hsm1).mono ?_); rintro e w1 ⟨rfl, t1⟩; rw [hnb]; have HT := Lib.hid (HT.out.trans t1 (fun _ _ e => e)); clear t1)
      | (go_at_call 14; go_must (refine (lives29_any _).mono ?_); rintro e w1 ⟨rfl, t1⟩; have HT := Lib.hid (HT.out.trans t1 (fun _ _ e => e)); clear t1))
    go_ret
    exact ⟨rfl, (HB0.out.trans HT.out (fun _ _ e => e)).below⟩
  cases hr0 : (Row.soundB l0 && decide (l0.length < 2 * l0.countP (fun n => x.testBit n.toNat)))
  · go_enter Try.func5, Try.ntmps5
    go_wp2_with (first
      | (go_at_call 13; go_must (refine (light29_any _ _ _ _ _ _ _).mono ?_); rintro e w1 ⟨rfl, rfl⟩; rw [hd])
      | (go_at_call 27; go_must (refine (mnear_any _ _ A0 A1 c0 c1 l0 l1 _ (by exact HRa.out.touch HT.out (fun _ _ e => e)) (by exact HRb.out.touch HT.out (fun _ _ e => e)) hsm hsm1).mono ?_); rintro e w1 ⟨rfl, t1⟩; rw [hnb]; have HT := Lib.hid (HT.out.trans t1 (fun _ _ e => e)); clear t1)
      | (go_at_call 29; go_must (refine (mreached_MemberMeets_1 _ A0 c0 l0 w.heap.size x _ (by exact HRa.out.touch HT.out (fun _ _ e => e)) hsm (by exact HT.out.blk HBx.out (fun e => e)) hx).mono ?_); rintro e w1 ⟨rfl, t1⟩; rw [hr0]; have HT := Lib.hid (HT.out.trans t1 (fun _ _ e => e)); clear t1; have HM1 := Lib.hid trivial)
      | (go_at_call 14; go_must (refine (lives29_any _).mono ?_); rintro e w1 ⟨rfl, t1⟩; have HT := Lib.hid (HT.out.trans t1 (fun _ _ e => e)); clear t1))
    go_ret
    exact ⟨rfl, (HB0.out.trans HT.out (fun _ _ e => e)).below⟩
  cases hr1 : (Row.soundB l1 && decide (l1.length < 2 * l1.countP (fun n => y.testBit n.toNat)))
  · go_enter Try.func5, Try.ntmps5
    go_wp2_with (first
      | (go_at_call 13; go_must (refine (light29_any _ _ _ _ _ _ _).mono ?_); rintro e w1 ⟨rfl, rfl⟩; rw [hd])
      | (go_at_call 27; go_must (refine (mnear_any _ _ A0 A1 c0 c1 l0 l1 _ (by exact HRa.out.touch HT.out (fun _ _ e => e)) (by exact HRb.out.touch HT.out (fun _ _ e => e)) hsm hsm1).mono ?_); rintro e w1 ⟨rfl, t1⟩; rw [hnb]; have HT := Lib.hid (HT.out.trans t1 (fun _ _ e => e)); clear t1)
      | (go_at_call 29; have HM2 := HM1; go_must (refine (mreached_MemberMeets_2 _ A1 c1 l1 (w.heap.size + 1) y _ (by exact HRb.out.touch HT.out (fun _ _ e => e)) hsm1 (by exact HT.out.blk HBy.out (fun e => e)) hy).mono ?_); rintro e w1 ⟨rfl, t1⟩; rw [hr1]; have HT := Lib.hid (HT.out.trans t1 (fun _ _ e => e)); clear t1)
      | (go_at_call 29; go_must (refine (mreached_MemberMeets_1 _ A0 c0 l0 w.heap.size x _ (by exact HRa.out.touch HT.out (fun _ _ e => e)) hsm (by exact HT.out.blk HBx.out (fun e => e)) hx).mono ?_); rintro e w1 ⟨rfl, t1⟩; rw [hr0]; have HT := Lib.hid (HT.out.trans t1 (fun _ _ e => e)); clear t1; have HM1 := Lib.hid trivial)
      | (go_at_call 14; go_must (refine (lives29_any _).mono ?_); rintro e w1 ⟨rfl, t1⟩; have HT := Lib.hid (HT.out.trans t1 (fun _ _ e => e)); clear t1))
    go_ret
    exact ⟨rfl, (HB0.out.trans HT.out (fun _ _ e => e)).below⟩
  have HM : l0.any (fun n => l1.contains n && (x &&& y).testBit n.toNat) = true := by
    simp only [Bool.and_eq_true, decide_eq_true_eq] at hr0 hr1
    have hnr : Row.alone l0 l1 ≤ 1 := by
      have h := hnb
      rw [nearB, Row.near_eq] at h
      simp only [Bool.and_eq_true, decide_eq_true_eq] at h
      exact h.2
    exact Row.meets hr0.1 hr1.1 hnr hr0.2 hr1.2
  have HM := Lib.hid HM
  have HS := Lib.hid (show ∀ n ∈ l0, 0 ≤ n ∧ n < 7 from by
    simp only [Bool.and_eq_true, decide_eq_true_eq] at hr0
    exact ((Row.sound_iff l0).1 hr0.1).2.2)
  go_enter Try.func5, Try.ntmps5
  go_wp2_with (first
    | (go_at_call 13; go_must (refine (light29_any _ _ _ _ _ _ _).mono ?_); rintro e w1 ⟨rfl, rfl⟩; rw [hd])
    | (go_at_call 27; go_must (refine (mnear_any _ _ A0 A1 c0 c1 l0 l1 _ (by exact HRa.out.touch HT.out (fun _ _ e => e)) (by exact HRb.out.touch HT.out (fun _ _ e => e)) hsm hsm1).mono ?_); rintro e w1 ⟨rfl, t1⟩; rw [hnb]; have HT := Lib.hid (HT.out.trans t1 (fun _ _ e => e)); clear t1)
    | (go_at_call 29; have HM2 := HM1; go_must (refine (mreached_MemberMeets_2 _ A1 c1 l1 (w.heap.size + 1) y _ (by exact HRb.out.touch HT.out (fun _ _ e => e)) hsm1 (by exact HT.out.blk HBy.out (fun e => e)) hy).mono ?_); rintro e w1 ⟨rfl, t1⟩; rw [hr1]; have HT := Lib.hid (HT.out.trans t1 (fun _ _ e => e)); clear t1)
    | (go_at_call 29; go_must (refine (mreached_MemberMeets_1 _ A0 c0 l0 w.heap.size x _ (by exact HRa.out.touch HT.out (fun _ _ e => e)) hsm (by exact HT.out.blk HBx.out (fun e => e)) hx).mono ?_); rintro e w1 ⟨rfl, t1⟩; rw [hr0]; have HT := Lib.hid (HT.out.trans t1 (fun _ _ e => e)); clear t1; have HM1 := Lib.hid trivial))
  clear hr0 hr1 hnb hd
  have hand := u64_and_nat x y hx hy
  have hz : x &&& y < 18446744073709551616 := Nat.and_lt_two_pow (n := 64) x hy
  have HBit := Lib.hid (fun n => bit_val (x &&& y) n)
  have HAnd := Lib.hid (fun n => bit_and' (x &&& y) n hz)
  generalize x &&& y = z at *
  go_loopw [35] (fun i wr => ∃ j : Nat, j ≤ l0.length ∧ i = .int .i64 j ∧ (l0.take j).any (fun n => l1.contains n && z.testBit n.toNat) = false ∧ Touch (fun _ => False) ((w.alloc (.cells #[.int .u64 (x : Int)] 31)).alloc (.cells #[.int .u64 (y : Int)] 31)) wr) (fun i _ => l0.length - (intOf i).toNat)
  case atStart => exact ⟨0, by omega, rfl, by simp, HT.out⟩
  case round =>
    obtain ⟨j, hj, rfl, hno, hT⟩ := hrel
    have HN := Lib.hid hno
    have HT := Lib.hid hT
    clear hno hT
    by_cases hjk : j < l0.length
    · obtain ⟨a, off, rfl, _, _, hc⟩ := (HRa.out.touch HT.out (fun _ _ e => e)).2 (by omega)
      have hcj := hc j _ (get_I64 hjk)
      simp only [I64] at hcj
      have HE := Lib.hid (Row.any_take (fun n => l1.contains n && z.testBit n.toNat) l0 j hjk)
      have hx7 := HS.out (l0.getD j 0) (Row.getD_mem hjk)
      generalize l0.getD j 0 = v at *
      obtain ⟨n, rfl⟩ := Int.eq_ofNat_of_zero_le hx7.1
      have hn7 : n < 7 := by omega
      have hbv := HBit.out n
      have hba := HAnd.out n
      rw [← hbv] at hba
      have hcx := (HT.out.blk HBx.out (fun e => e)).cell 0
      have hcy := (HT.out.blk HBy.out (fun e => e)).cell 0
      simp at hcx hcy
      have hu : IntKind.u64.wrap (n : Int) = n := IntWalk.u64_in _ (by omega)
      have HH := Lib.hid (mhas_any _ A1 c1 l1 (n : Int) wr (HRb.out.touch HT.out (fun _ _ e => e)) hsm1)
      clear hc hx7 hbv
      cases hh : l1.contains (n : Int)
      · rw [hh, Int.toNat_natCast] at HE
        rw [hh] at HH
        clear hh hba
        go_wp2_with (go_at_call 22; go_must (refine HH.out.mono ?_); rintro e w3 ⟨rfl, rfl⟩)
        go_roundw
        case rel => exact ⟨j + 1, by omega, by go_num, by rw [HE.out, HN.out]; rfl, HT.out⟩
        case measure => simp [intOf]; omega
      · cases hb : z.testBit n
        · rw [hh, Int.toNat_natCast, hb] at HE
          rw [hh] at HH
          rw [hb] at hba
          have hbb : bits .and .u64 ((z : Int) / 2 ^ n) 1 = 0 := hba
          clear hh hba hb
          go_wp2_with (go_at_call 22; go_must (refine HH.out.mono ?_); rintro e w3 ⟨rfl, rfl⟩)
          go_roundw
          case rel => exact ⟨j + 1, by omega, by go_num, by rw [HE.out, HN.out]; rfl, HT.out⟩
          case measure => simp [intOf]; omega
        · rw [hh] at HH
          rw [hb] at hba
          have hbb : bits .and .u64 ((z : Int) / 2 ^ n) 1 = 1 := hba
          clear hh hba hb
          go_wp2_with (first
            | (go_at_call 22; go_must (refine HH.out.mono ?_); rintro e w3 ⟨rfl, rfl⟩)
            | (go_at_call 14; go_must (refine (lives29_any _).mono ?_); rintro e w1 ⟨rfl, t1⟩; have HT := Lib.hid (HT.out.trans t1 (fun _ _ e => e)); clear t1))
          go_ret
          exact ⟨rfl, (HB0.out.trans HT.out (fun _ _ e => e)).below⟩
    · exfalso
      obtain rfl : j = l0.length := by omega
      have h1 := HN.out
      rw [List.take_length] at h1
      have h2 := HM.out
      rw [h1] at h2
      cases h2
end Go.Proofs.Ytecmbmfcooonnaa
