/- What the reference's Bytes, and both Reads, do. -/
import Derived.Test.YtecmbmfcooonnaaMemI
namespace Go.Proofs.Ytecmbmfcooonnaa
open Go.RowKit
set_option maxHeartbeats 4000000
set_option maxRecDepth 100000
set_option linter.unusedVariables false

def sumK (p : Nat → Bool) : Nat → Nat
  | 0 => 0
  | k + 1 => sumK p k + if p k then 2 ^ k else 0
theorem sumK_congr {p q : Nat → Bool} : ∀ k, (∀ i, i < k → p i = q i) → sumK p k = sumK q k
  | 0, _ => rfl
  | k + 1, h => by rw [sumK, sumK, sumK_congr k fun i hi => h i (by omega), h k (by omega)]
theorem sumK_bits : ∀ s, s < 128 → sumK (fun i => s.testBit i) 7 = s := by decide +kernel
theorem sumK_set (l : List Int) : sumK (fun i => l.contains (i : Int)) 7 = Row.setN l := by
  rw [← sumK_bits (Row.setN l) (Row.setN_lt l)]
  apply sumK_congr
  intro i hi
  rw [Row.setN_bit]; simp [hi]
theorem sumK_lt (p : Nat → Bool) : ∀ k, sumK p k < 2 ^ k
  | 0 => by simp [sumK]
  | k + 1 => by
    have := sumK_lt p k
    rw [sumK, Nat.pow_succ]; split <;> omega

theorem rbytes_any (F : Nat → Prop) (A : Option Addr) (c : Nat) (l : List Int) (w : World) (hr : Rd w F A l.length (l.map I64)) (hsm : l.length ≤ 1000000) :
    Calls Try.prog 37 #[.slice A l.length c] w (NewSl w ((encN 0 (Row.setN l)).map B8)) := by
  have HH := Lib.hid (fun x => rhas_any F A c l x w hr hsm)
  have HSum := Lib.hid (sumK_set l)
  have hsl := Row.setN_lt l
  have HF := Lib.hid (fnum_any (Row.setN l) w (by omega))
  clear hr
  go_enter Try.func37, Try.ntmps37
  go_wp2_with fail
  go_loopw [3, 4, 5] (fun v b i wr => ∃ j : Nat, j ≤ 7 ∧ i = .int .i64 j ∧ b = .int .u64 (2 ^ j : Nat) ∧ v = .int .u64 (sumK (fun i => l.contains (i : Int)) j : Nat) ∧ wr = w) (fun _ _ i _ => 7 - (intOf i).toNat)
  case atStart => exact ⟨0, by omega, rfl, rfl, rfl, rfl⟩
  case round =>
    obtain ⟨j, hj, rfl, rfl, rfl, rfl⟩ := hrel
    by_cases hjk : j < 7
    · have HC := Lib.hid (HH.out (j : Int))
      have HE := Lib.hid (show sumK (fun i => l.contains (i : Int)) (j + 1) = sumK (fun i => l.contains (i : Int)) j + if l.contains (j : Int) then 2 ^ j else 0 from rfl)
      have HP := Lib.hid (Nat.pow_succ 2 j)
      have h1 := sumK_lt (fun i => l.contains (i : Int)) j
      have h2 : 2 ^ j ≤ 2 ^ 7 := Nat.pow_le_pow_right (by omega) (by omega)
      have h3 : (2 : Nat) ^ 7 = 128 := by decide
      rw [h3] at h2
      generalize sumK (fun i => l.contains (i : Int)) j = s at *
      generalize 2 ^ j = q at *
      cases hb : l.contains (j : Int)
      · rw [hb] at HC HE
        clear hb h3
        go_wp2_with (go_at_call 23; go_must (refine HC.out.mono ?_); rintro e w3 ⟨rfl, rfl⟩)
        go_roundw
        case rel => exact ⟨j + 1, by omega, by go_num, by rw [HP.out]; go_num, by rw [HE.out]; simp, trivial⟩
        case measure => simp [intOf]; omega
      · rw [hb] at HC HE
        clear hb h3
        go_wp2_with (go_at_call 23; go_must (refine HC.out.mono ?_); rintro e w3 ⟨rfl, rfl⟩)
        go_roundw
        case rel => exact ⟨j + 1, by omega, by go_num, by rw [HP.out]; go_num, by rw [HE.out]; simp, trivial⟩
        case measure => simp [intOf]; omega
    · obtain rfl : j = 7 := by omega
      rw [HSum.out]
      go_wp2_with (go_at_call 79; go_must (refine HF.out.mono ?_); rintro e w3 ⟨v, k, rfl, ho, hk, ht⟩; obtain ⟨A2, c2, rfl, hc1, hc2, _, hr2⟩ := ho.rd; have HQ := Lib.hid (And.intro hc1 (And.intro hc2 (And.intro hr2 (And.intro hk ht)))); clear ho hc1 hc2 hr2 hk ht)
      go_ret
      obtain ⟨q1, q2, q3, q4, q5⟩ := HQ.out
      exact ⟨A2, c2, by rw [List.length_map]; rfl, by rw [List.length_map]; exact q1, q2, by rw [List.length_map]; exact q3.mono (fun k' hk' => by injection hk' with hk'; omega), q5⟩

def rowRd (l : List UInt8) : RNum := rdNum 127 false false l
def readOk (l : List UInt8) : Bool := !((rowRd l).bad || !(rowRd l).left.isEmpty) && decide ((rowRd l).val ≠ 0)
def readL (l : List UInt8) : List Int := if readOk l = true then Row.ofN (rowRd l).val else []

theorem mread_any (F : Nat → Prop) (A : Option Addr) (c : Nat) (l : List UInt8) (w : World) (hr : Rd w F A l.length (l.map B8)) (hF : ∀ k, F k → k < w.heap.size) (hc1 : l.length ≤ c) (hc2 : c ≤ maxLen) :
    Calls Try.prog 36 #[.slice A l.length c] w (NewTwo w ((readL l).map I64) (.bool (readOk l))) := by
  have hR : RdAt (w.alloc (.cells #[.slice A l.length c, .bool false] 129)) w.heap.size F l false :=
    ⟨fun h => by have := hF _ h; omega, A, c, hc1, hc2, Blk.new _ _ _, hr.touch ((Touch.refl (fun _ => False) w).alloc _) (fun _ _ e => e)⟩
  have HN := Lib.hid (num_any w.heap.size F false 127 l _ hR)
  have hle := rdNum_le 127 false false l
  have HOk := Lib.hid (show readOk l = (!((rdNum 127 false false l).bad || !(rdNum 127 false false l).left.isEmpty) && decide ((rdNum 127 false false l).val ≠ 0)) from rfl)
  have HL := Lib.hid (show readL l = if readOk l = true then Row.ofN (rdNum 127 false false l).val else [] from rfl)
  have HT0 := Lib.hid ((Touch.refl (fun _ => False) w).alloc (.cells #[.slice A l.length c, .bool false] 129))
  generalize rdNum 127 false false l = R at *
  obtain ⟨val, mark, left, bad⟩ := R
  simp only at HN hle HOk HL
  have HEnd := Lib.hid (fun w1 (h : RdAt w1 w.heap.size F left bad) => end_any w.heap.size F bad left w1 h)
  clear hr hR hF hc1 hc2
  cases hE : (bad || !left.isEmpty)
  · rw [hE] at HOk HEnd
    clear hE
    by_cases h0 : val = 0
    · subst h0
      have HW := Lib.hid (show readL l = [] ∧ readOk l = false from ⟨by rw [HL.out, HOk.out]; rfl, by rw [HOk.out]; rfl⟩)
      go_enter Try.func36, Try.ntmps36
      go_wp2_with (first
        | (go_at_call 44; go_must (refine (open_any _ _ _ _).mono ?_); rintro e w1 ⟨rfl, rfl⟩)
        | (go_at_call 77; go_must (refine HN.out.mono ?_); rintro e w2 ⟨rfl, h2, t2⟩; have H2 := Lib.hid h2; have HT2 := Lib.hid t2; clear h2 t2)
        | (go_at_call 78; go_must (refine (HEnd.out _ (by exact H2.out)).mono ?_); rintro e w3 ⟨rfl, rfl⟩))
      go_ret2
      rw [HW.out.1, HW.out.2]
      exact NewTwo.none (HT0.out.trans HT2.out (fun q hq e => by omega))
    · have HW := Lib.hid (show readL l = Row.ofN val ∧ readOk l = true from ⟨by rw [HL.out, HOk.out]; simp [h0], by rw [HOk.out]; simp [h0]⟩)
      go_enter Try.func36, Try.ntmps36
      go_wp2_with (first
        | (go_at_call 44; go_must (refine (open_any _ _ _ _).mono ?_); rintro e w1 ⟨rfl, rfl⟩)
        | (go_at_call 77; go_must (refine HN.out.mono ?_); rintro e w2 ⟨rfl, h2, t2⟩; have H2 := Lib.hid h2; have HT2 := Lib.hid t2; clear h2 t2)
        | (go_at_call 78; go_must (refine (HEnd.out _ (by exact H2.out)).mono ?_); rintro e w3 ⟨rfl, rfl⟩)
        | (go_at_call 70; go_must (refine (mof_any val (by omega) _).mono ?_); rintro e w4 ⟨A4, c4, rfl, q1, q2, hr4, t4⟩; have HQ := Lib.hid (And.intro q1 (And.intro q2 (And.intro hr4 t4))); clear q1 q2 hr4 t4))
      go_ret2
      rw [HW.out.1, HW.out.2]
      obtain ⟨q1, q2, hr4, t4⟩ := HQ.out
      exact NewTwo.of (HT0.out.trans HT2.out (fun q hq e => by omega)) (by rw [List.length_map]; rfl) (by simpa using q1) q2 (by simpa using hr4) t4
  · rw [hE] at HOk HEnd
    clear hE
    have HW := Lib.hid (show readL l = [] ∧ readOk l = false from ⟨by rw [HL.out, HOk.out]; rfl, by rw [HOk.out]; rfl⟩)
    go_enter Try.func36, Try.ntmps36
    go_wp2_with (first
      | (go_at_call 44; go_must (refine (open_any _ _ _ _).mono ?_); rintro e w1 ⟨rfl, rfl⟩)
      | (go_at_call 77; go_must (refine HN.out.mono ?_); rintro e w2 ⟨rfl, h2, t2⟩; have H2 := Lib.hid h2; have HT2 := Lib.hid t2; clear h2 t2)
      | (go_at_call 78; go_must (refine (HEnd.out _ (by exact H2.out)).mono ?_); rintro e w3 ⟨rfl, rfl⟩))
    go_ret2
    rw [HW.out.1, HW.out.2]
    exact NewTwo.none (HT0.out.trans HT2.out (fun q hq e => by omega))
end Go.Proofs.Ytecmbmfcooonnaa
