/- The walk of MemberSays. -/
import Derived.Test.YtecmbmfcooonnaaMemI
namespace Go.Proofs.Ytecmbmfcooonnaa
open Go.RowKit
set_option maxHeartbeats 4000000
set_option maxRecDepth 100000
set_option linter.unusedVariables false

theorem walk_MemberSays {w : World} (A0 : Option Addr) (n0 c0 : Nat) (l0 : List Int) (e0 : l0.length = n0) (o0 : ∀ x ∈ l0, -9223372036854775808 ≤ x ∧ x ≤ 9223372036854775807) (g0 : A0 = none → c0 = 0) (u0 : n0 ≤ c0) (m0 : c0 ≤ maxLen) (s0 : Rd w (fun k => k < w.heap.size) A0 n0 (l0.map I64))
    (A1 : Option Addr) (n1 c1 : Nat) (l1 : List Int) (e1 : l1.length = n1) (o1 : ∀ x ∈ l1, -9223372036854775808 ≤ x ∧ x ≤ 9223372036854775807) (g1 : A1 = none → c1 = 0) (u1 : n1 ≤ c1) (m1 : c1 ≤ maxLen) (s1 : Rd w (fun k => k < w.heap.size) A1 n1 (l1.map I64))
    (a2 : Int) (k2 : -9223372036854775808 ≤ a2 ∧ a2 ≤ 9223372036854775807) (a3 : Int) (k3 : 0 ≤ a3 ∧ a3 ≤ 18446744073709551615) :
    Calls Try.prog 4 #[.slice A0 n0 c0, .slice A1 n1 c1, .int .i64 a2, .int .u64 a3] w fun e w' => e = .returned (.bool true) ∧ Below w.heap.size w w' := by
  subst e0 e1
  clear o0 o1 g0 g1 u0 u1 m0 m1
  obtain ⟨s3, rfl⟩ := Int.eq_ofNat_of_zero_le k3.1
  have hs3 : s3 < 18446744073709551616 := by omega
  have HB0 := Lib.hid (Touch.refl (fun _ => False) w |>.alloc (.cells #[.int .u64 (s3 : Int)] 31))
  have HT := Lib.hid (Touch.refl (fun _ => False) (w.alloc (.cells #[.int .u64 (s3 : Int)] 31)))
  have HBs := Lib.hid (Blk.new w 31 #[.int .u64 (s3 : Int)])
  have HRa := Lib.hid (s0.touch HB0.out (fun _ _ e => e))
  have HRb := Lib.hid (s1.touch HB0.out (fun _ _ e => e))
  have HEq := Lib.hid (Row.count_within s3 l0)
  clear s0 s1 k2 k3
  by_cases hbig : l0.length ≤ 100 ∧ l1.length ≤ 100
  · have hd0 := decide_eq_true hbig.1
    have hd1 := decide_eq_true hbig.2
    have hsm : l0.length ≤ 1000000 := by omega
    have hsm1 : l1.length ≤ 1000000 := by omega
    clear hbig
    go_enter Try.func4, Try.ntmps4
    go_wp2_with (first
      | (go_at_call 13; go_must (refine (light29_any _ _ _ _ _ _ _).mono ?_); rintro e w1 ⟨rfl, rfl⟩; rw [hd0, hd1])
      | (go_at_call 20; go_must (refine (msound_any _ A0 c0 l0 _ (by exact HRa.out.touch HT.out (fun _ _ e => e)) hsm).mono ?_); rintro e w1 ⟨rfl, t1⟩; have HT := Lib.hid (HT.out.trans t1 (fun _ _ e => e)); clear t1)
      | (go_at_call 21; go_must (refine (rsound_any _ A0 c0 l0 _ (by exact HRa.out.touch HT.out (fun _ _ e => e)) hsm).mono ?_); rintro e w1 ⟨rfl, t1⟩; have HT := Lib.hid (HT.out.trans t1 (fun _ _ e => e)); clear t1)
      | (go_at_call 22; go_must (refine (mhas_any _ A0 c0 l0 a2 _ (by exact HRa.out.touch HT.out (fun _ _ e => e)) hsm).mono ?_); rintro e w1 ⟨rfl, rfl⟩)
      | (go_at_call 23; go_must (refine (rhas_any _ A0 c0 l0 a2 _ (by exact HRa.out.touch HT.out (fun _ _ e => e)) hsm).mono ?_); rintro e w1 ⟨rfl, rfl⟩)
      | (go_at_call 24; go_must (refine (mquorum_any _ A0 c0 l0 _ (by exact HRa.out.touch HT.out (fun _ _ e => e)) hsm).mono ?_); rintro e w1 ⟨rfl, t1⟩; have HT := Lib.hid (HT.out.trans t1 (fun _ _ e => e)); clear t1)
      | (go_at_call 25; go_must (refine (rquorum_any _ A0 c0 l0 _ (by exact HRa.out.touch HT.out (fun _ _ e => e)) hsm).mono ?_); rintro e w1 ⟨rfl, t1⟩; have HT := Lib.hid (HT.out.trans t1 (fun _ _ e => e)); clear t1)
      | (go_at_call 26; go_must (refine (msame_any _ _ A0 A1 c0 c1 l0 l1 _ (by exact HRa.out.touch HT.out (fun _ _ e => e)) (by exact HRb.out.touch HT.out (fun _ _ e => e)) hsm).mono ?_); rintro e w1 ⟨rfl, t1⟩; have HT := Lib.hid (HT.out.trans t1 (fun _ _ e => e)); clear t1)
      | (go_at_call 19; go_must (refine (rsame_any _ _ A0 A1 c0 c1 l0 l1 _ (by exact HRa.out.touch HT.out (fun _ _ e => e)) (by exact HRb.out.touch HT.out (fun _ _ e => e)) hsm).mono ?_); rintro e w1 ⟨rfl, t1⟩; have HT := Lib.hid (HT.out.trans t1 (fun _ _ e => e)); clear t1)
      | (go_at_call 27; go_must (refine (mnear_any _ _ A0 A1 c0 c1 l0 l1 _ (by exact HRa.out.touch HT.out (fun _ _ e => e)) (by exact HRb.out.touch HT.out (fun _ _ e => e)) hsm hsm1).mono ?_); rintro e w1 ⟨rfl, t1⟩; have HT := Lib.hid (HT.out.trans t1 (fun _ _ e => e)); clear t1)
      | (go_at_call 28; go_must (refine (rnear_any _ _ A0 A1 c0 c1 l0 l1 _ (by exact HRa.out.touch HT.out (fun _ _ e => e)) (by exact HRb.out.touch HT.out (fun _ _ e => e)) hsm hsm1).mono ?_); rintro e w1 ⟨rfl, t1⟩; have HT := Lib.hid (HT.out.trans t1 (fun _ _ e => e)); clear t1)
      | (go_at_call 29; have HM2 := HM1; go_must (refine (mreached_nil _ _ _ _).mono ?_); rintro e w1 ⟨rfl, rfl⟩)
      | (go_at_call 29; go_must (refine (mreached_MemberSays_1 _ A0 c0 l0 w.heap.size s3 _ (by exact HRa.out.touch HT.out (fun _ _ e => e)) hsm (by exact HT.out.blk HBs.out (fun e => e)) hs3).mono ?_); rintro e w1 ⟨rfl, t1⟩; have HT := Lib.hid (HT.out.trans t1 (fun _ _ e => e)); clear t1; have HM1 := Lib.hid trivial; have hcell := (HT.out.blk HBs.out (fun e => e)).cell 0; simp at hcell)
      | (go_at_call 32; go_must (refine (within_any s3 hs3 _).mono ?_); rintro e w1 ⟨AW, cW, rfl, q1, q2, hrw, t1⟩; rw [List.length_map] at q1 hrw ⊢; have HRw := Lib.hid hrw; have HT := Lib.hid (HT.out.trans t1 (fun _ _ e => e)); clear q1 q2 hrw t1)
      | (go_at_call 31; go_must (refine (rreached_any _ _ A0 AW c0 cW l0 (Row.ofN s3) _ (by exact HRa.out.touch HT.out (fun _ _ e => e)) (by exact HRw.out) hsm (by have := Row.ofN_len s3; omega)).mono ?_); rintro e w1 ⟨rfl, t1⟩; rw [← HEq.out]; have HT := Lib.hid (HT.out.trans t1 (fun _ _ e => e)); clear t1)
      | (go_at_call 14; go_must (refine (lives29_any _).mono ?_); rintro e w1 ⟨rfl, t1⟩; have HT := Lib.hid (HT.out.trans t1 (fun _ _ e => e)); clear t1))
    all_goals (
      go_ret
      exact ⟨ret_bool (by simp), (HB0.out.trans HT.out (fun _ _ e => e)).below⟩)
  · have hd : (decide (l0.length ≤ 100) && decide (l1.length ≤ 100)) = false := by
      rw [Bool.eq_false_iff]; intro h; simp at h; exact hbig h
    clear hbig
    go_enter Try.func4, Try.ntmps4
    go_wp2_with (first
      | (go_at_call 13; go_must (refine (light29_any _ _ _ _ _ _ _).mono ?_); rintro e w1 ⟨rfl, rfl⟩; rw [hd])
      | (go_at_call 14; go_must (refine (lives29_any _).mono ?_)
         rintro e w7 ⟨rfl, t7⟩
         have HT7 := Lib.hid t7
         clear t7))
    go_ret
    exact ⟨rfl, (HB0.out.trans HT7.out (fun _ _ e => e)).below⟩
end Go.Proofs.Ytecmbmfcooonnaa
