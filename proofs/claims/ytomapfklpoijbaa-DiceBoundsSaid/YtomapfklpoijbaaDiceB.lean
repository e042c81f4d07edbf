/- What dice do: New, Left, Below, Between; law06.lives. -/
import Derived.Test.YtomapfklpoijbaaDiceA
import Derived.Test.YtomapfklpoijbaaDiceLen
namespace Go.Proofs.Ytomapfklpoijbaa
open Go.RowKit
set_option maxHeartbeats 4000000
set_option maxRecDepth 100000
set_option linter.unusedVariables false

theorem dnew_any (F : Nat → Prop) (A : Option Addr) (c : Nat) (l : List UInt8) (w : World) (hr : Rd w F A l.length (l.map B8)) (hn : l.length ≤ 140737488355328) :
    Calls Try.prog 20 #[.slice A l.length c] w fun e w' => ∃ g, e = .returned (.pointer (some ⟨g, 0, none⟩)) ∧ w.heap.size ≤ g ∧ DAt w' g l ∧ Touch (fun _ => False) w w' := by
  have HC := Lib.hid (clone_any F A l.length c l w hr hn)
  clear hr
  go_enter Try.func20, Try.ntmps20
  go_wp2_with (go_at_call 61; go_must (refine HC.out.mono ?_); rintro e w1 ⟨A1, c1, rfl, q1, q2, hr1, t1⟩; rw [List.length_map] at q1 hr1 ⊢; have HQ := Lib.hid (And.intro q1 (And.intro q2 (And.intro hr1 t1))); clear q1 q2 hr1 t1)
  go_ret
  obtain ⟨q1, q2, hr1, t1⟩ := HQ.out
  refine ⟨w1.heap.size, rfl, t1.size, ⟨A1, c1, q1, q2, Blk.new w1 122 _, ?_⟩, t1.alloc _⟩
  have h2 := hr1.touch ((Touch.refl (fun _ => False) w1).alloc (.cells #[.slice A1 l.length c1] 122)) (fun _ _ e => e)
  refine ⟨h2.1, fun hpos => ?_⟩
  obtain ⟨g, off, e, hl, hF, hc⟩ := h2.2 hpos
  obtain ⟨g1, off1, e1, hl1, hF1, hc1⟩ := hr1.2 hpos
  rw [e] at e1
  injection e1 with e1
  injection e1 with e1
  exact ⟨g, off, e, hl, by omega, hc⟩

theorem dleft_any (g : Nat) (l : List UInt8) (w : World) (h : DAt w g l) :
    Calls Try.prog 60 #[.pointer (some ⟨g, 0, none⟩)] w fun e w' => e = .returned (.int .i64 l.length) ∧ w = w' := by
  obtain ⟨A, cap, h1, h2, hb, hr⟩ := h
  have h0 := hb.cell 0
  simp at h0
  clear hr hb
  go_enter Try.func60, Try.ntmps60
  go_wp2
  go_ret
  exact ⟨rfl, rfl⟩

/-- How many bytes a number below n takes. -/
def dsize (n : Nat) : Nat := (Lib.bitLen (n - 1) + 7) / 8
theorem dsize_le (n : Nat) (hn : n < 18446744073709551616) : dsize n ≤ 8 := by
  have := Lib.bitLen_le (n - 1) 64 (by omega) (by omega)
  unfold dsize; omega
def belowV (l : List UInt8) (n : Nat) : Nat := if n < 2 then 0 else leN (l.take (dsize n)) % n
def belowL (l : List UInt8) (n : Nat) : List UInt8 := if n < 2 then l else l.drop (dsize n)

theorem dbelow_any (g : Nat) (l : List UInt8) (n : Nat) (w : World) (h : DAt w g l) (hn : n < 18446744073709551616) :
    Calls Try.prog 21 #[.pointer (some ⟨g, 0, none⟩), .int .u64 n] w fun e w' => e = .returned (.int .u64 (belowV l n : Nat)) ∧ DAt w' g (belowL l n) ∧ Touch (fun k => k = g) w w' := by
  have H := Lib.hid h
  by_cases h2 : n < 2
  · have hn2 : (n : Int) < 2 := by omega
    have HV := Lib.hid (show belowV l n = 0 ∧ belowL l n = l from ⟨by rw [belowV, if_pos h2], by rw [belowL, if_pos h2]⟩)
    clear h h2
    go_enter Try.func21, Try.ntmps21
    go_wp2
    go_ret
    rw [HV.out.1, HV.out.2]
    exact ⟨rfl, H.out, Touch.refl _ _⟩
  · have hn2 : ¬ (n : Int) < 2 := by omega
    have HV := Lib.hid (show belowV l n = leN (l.take (dsize n)) % n ∧ belowL l n = l.drop (dsize n) from ⟨by rw [belowV, if_neg h2], by rw [belowL, if_neg h2]⟩)
    obtain ⟨m, rfl⟩ : ∃ m, n = m + 1 := ⟨n - 1, by omega⟩
    have hm1 : IntKind.u64.wrap ((m + 1 : Nat) - 1 : Int) = (m : Int) := by rw [IntKind.wrap_u64]; omega
    have hbl := Lib.bitLen_le m 64 (by omega) (by omega)
    have HL := Lib.hid (len64_any (m : Int) w (by omega) (by omega))
    rw [Int.toNat_natCast] at HL
    have HT := Lib.hid (dtake_any g l (dsize (m + 1)) w h (by have := dsize_le (m + 1) hn; omega))
    have hds := dsize_le (m + 1) hn
    have HDS := Lib.hid (show dsize (m + 1) = (Lib.bitLen m + 7) / 8 from rfl)
    generalize dsize (m + 1) = s at *
    generalize Lib.bitLen m = r at *
    clear h h2
    go_enter Try.func21, Try.ntmps21
    go_wp2_with (first
      | (go_at_call 63; go_must (refine HL.out.mono ?_); rintro e w1 ⟨rfl, rfl⟩)
      | (go_at_call 62; rw [show ((r : Int) + 7) / 8 = (s : Int) by have := HDS.out; omega]; go_must (refine HT.out.mono ?_); rintro e w2 ⟨v, rfl, hv, hle, hd, ht⟩; have HE := Lib.hid (hle hds); have HD := Lib.hid hd; have HTT := Lib.hid ht; clear hle hd ht))
    go_ret
    rw [HV.out.1, HV.out.2]
    refine ⟨ret_int ?_, HD.out, HTT.out⟩
    rw [← HE.out]
    simp
theorem belowV_lt (l : List UInt8) (n : Nat) (h : 0 < n) : belowV l n < n := by
  unfold belowV; split
  · omega
  · exact Nat.mod_lt _ h

theorem dbetween_any (g : Nat) (l : List UInt8) (low high : Int) (w : World) (h : DAt w g l) (hl : -9223372036854775808 ≤ low ∧ low ≤ 9223372036854775807) (hh : -9223372036854775808 ≤ high ∧ high ≤ 9223372036854775807) :
    Calls Try.prog 22 #[.pointer (some ⟨g, 0, none⟩), .int .i64 low, .int .i64 high] w fun e w' => ∃ y l', e = .returned (.int .i64 y) ∧ (high < low → y = low) ∧ (low ≤ high → low ≤ y ∧ y ≤ high) ∧ DAt w' g l' ∧ Touch (fun k => k = g) w w' := by
  have H := Lib.hid h
  by_cases hlt : high < low
  · clear h
    go_enter Try.func22, Try.ntmps22
    go_wp2
    go_ret
    exact ⟨low, l, rfl, fun _ => rfl, fun h => by omega, H.out, Touch.refl _ _⟩
  · obtain ⟨d, hd⟩ := Int.eq_ofNat_of_zero_le (show 0 ≤ high - low by omega)
    have hdl : d < 18446744073709551616 := by omega
    have hw1 : IntKind.u64.wrap (wrap64 (high - low)) = (d : Int) := by rw [IntKind.wrap_u64]; simp only [wrap64]; omega
    by_cases hfull : d = 18446744073709551615
    · have hw2 : IntKind.u64.wrap ((d : Int) + 1) = 0 := by rw [IntKind.wrap_u64]; omega
      have HTk := Lib.hid (dtake_any g l 8 w h (by omega))
      have HHL := Lib.hid (show low = -9223372036854775808 ∧ high = 9223372036854775807 by omega)
      have HD := Lib.hid hd
      clear h hd hfull
      go_enter Try.func22, Try.ntmps22
      go_wp2_with (go_at_call 62; go_must (refine HTk.out.mono ?_); rintro e w2 ⟨v, rfl, hv, hle, hd, ht⟩; have HDt := Lib.hid hd; have HTT := Lib.hid ht; clear hle hd ht)
      go_ret
      refine ⟨wrap64 (low + wrap64 v), _, rfl, fun h => by omega, fun _ => ?_, HDt.out, HTT.out⟩
      have := HHL.out
      simp only [wrap64]
      omega
    · obtain ⟨way, hway⟩ : ∃ way, way = d + 1 := ⟨_, rfl⟩
      have hw2 : IntKind.u64.wrap ((d : Int) + 1) = (way : Int) := by rw [IntKind.wrap_u64]; omega
      have hw0 : ((way : Int) == 0) = false := by simp; omega
      have HBl := Lib.hid (dbelow_any g l way w h (by omega))
      have hbv := belowV_lt l way (by omega)
      generalize belowV l way = v at *
      have HD := Lib.hid (And.intro hd hway)
      clear h hd hway
      go_enter Try.func22, Try.ntmps22
      go_wp2_with (go_at_call 21; go_must (refine HBl.out.mono ?_); rintro e w2 ⟨rfl, hd, ht⟩; have HDt := Lib.hid hd; have HTT := Lib.hid ht; clear hd ht)
      go_ret
      refine ⟨wrap64 (low + wrap64 v), _, rfl, fun h => by omega, fun _ => ?_, HDt.out, HTT.out⟩
      have := HD.out
      simp only [wrap64]
      omega

theorem l06_1 : belowV [5, 1, 2] 4 = 1 ∧ belowL [5, 1, 2] 4 = [1, 2] := by decide +kernel
theorem l06_2 : belowV [1, 2] 1000 = 513 ∧ belowL [1, 2] 1000 = [] := by decide +kernel
theorem lives06_any (w : World) : Calls Try.prog 19 #[] w fun e w' => e = .returned (.bool true) ∧ Touch (fun _ => False) w w' := by
  have hR : Rd (w.alloc (.cells #[.int .u8 5, .int .u8 1, .int .u8 2] 5)) (fun k => k = w.heap.size) (some ⟨w.heap.size, 0, none⟩) 3 (([5, 1, 2] : List UInt8).map B8) := Rd.lit w 5 [.int .u8 5, .int .u8 1, .int .u8 2] 3 rfl
  have HR := Lib.hid hR
  have HT0 := Lib.hid ((Touch.refl (fun _ => False) w).alloc (.cells #[.int .u8 5, .int .u8 1, .int .u8 2] 5))
  clear hR
  go_enter Try.func19, Try.ntmps19
  go_wp2_with (first
    | (go_at_call 20; go_must (refine (dnew_any (fun k => k = w.heap.size) _ 3 [5, 1, 2] _ (by exact HR.out) (by simp)).mono ?_); rintro e w1 ⟨g, rfl, hg, hd, t1⟩; have HD1 := Lib.hid hd; have HT1 := Lib.hid (HT0.out.trans t1 (fun _ _ e => e)); have hgs : w.heap.size + 1 ≤ g := by simpa using hg
       clear hd t1 hg)
    | (go_at_call 21; have HM2 := HM1; go_must (refine (dbelow_any g [1, 2] 1000 _ (by exact HD2.out) (by omega)).mono ?_); rintro e w3 ⟨rfl, hd, t1⟩; rw [l06_2.2] at hd; rw [l06_2.1]; have HD3 := Lib.hid hd; have HT3 := Lib.hid (HT2.out.trans t1 (fun q hq e => by omega)); clear hd t1)
    | (go_at_call 21; go_must (refine (dbelow_any g [5, 1, 2] 4 _ (by exact HD1.out) (by omega)).mono ?_); rintro e w2 ⟨rfl, hd, t1⟩; rw [l06_1.2] at hd; rw [l06_1.1]; have HD2 := Lib.hid hd; have HT2 := Lib.hid (HT1.out.trans t1 (fun q hq e => by omega)); have HM1 := Lib.hid trivial; clear hd t1)
    | (go_at_call 60; go_must (refine (dleft_any g [] _ (by exact HD3.out)).mono ?_); rintro e w4 ⟨rfl, rfl⟩))
  go_ret
  exact ⟨rfl, HT3.out⟩
end Go.Proofs.Ytomapfklpoijbaa
