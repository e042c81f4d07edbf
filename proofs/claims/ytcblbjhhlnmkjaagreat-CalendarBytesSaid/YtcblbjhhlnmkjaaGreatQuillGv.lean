/- The reference's Reader, on: Num, Int, Flag, Raw, Text, End: told by the same Lean functions as quill's. -/
import Derived.Test.YtcblbjhhlnmkjaaGreatQuillFv
namespace Go.Proofs.YtcblbjhhlnmkjaaGreat
open Go.RowKit
set_option maxHeartbeats 2000000
set_option maxRecDepth 100000

theorem rdNum_left_le (m : Nat) (mk b : Bool) (l : List UInt8) : (rdNum m mk b l).left.length ≤ l.length := by
  unfold rdNum
  split
  · simp [rdFail]
  · split
    · split
      · simp; omega
      · simp [rdFail]
    · simp [rdFail]

theorem rf_num (g : Nat) (F : Nat → Prop) (bad : Bool) (most : Nat) (l : List UInt8) (w : World) (h : RfAt w g F l bad) :
    Calls Tryz.prog 75 #[.pointer (some ⟨g, 0, none⟩), .int .u64 most] w
      (FPost (.int .u64 ((rdNum most false bad l).val : Int)) (rdNum most false bad l).left (rdNum most false bad l).bad w g F) := by
  rcases l with _ | ⟨c, t⟩
  · have HF := Lib.hid (rf_fail g F [] bad w h)
    have H1 := Lib.hid (rf_first_nil g F bad w h)
    clear h
    go_enter Tryz.func75, Tryz.ntmps75
    go_wp2_with (first
      | (go_at_call 96; refine H1.out.mono ?_; rintro e w' ⟨rfl, rfl⟩)
      | (go_at_call 65; refine HF.out.mono ?_; rintro e w' ⟨rfl, h1, h2⟩))
    go_ret
    exact ⟨rfl, h1, h2⟩
  have H1 := Lib.hid (rf_first_cons g F c t bad w h)
  have hcl := B8_lt c
  clear h
  by_cases hok : rfOk c.toNat t = true
  · by_cases hm : be (t.take c.toNat) ≤ most
    · have hX : rdNum most false bad (c :: t) = ⟨be (t.take c.toNat), false, t.drop c.toNat, bad⟩ := by
        have hk : rdOk false c t = true := hok
        simp [rdNum, hk, rdHead, rdMark, hm]
      rw [hX]
      clear hX
      go_enter Tryz.func75, Tryz.ntmps75
      go_wp2_with (first
        | (go_at_call 96; refine H1.out.mono ?_; rintro e w1 ⟨rfl, h1, h2⟩)
        | (go_at_call 97; go_must (refine (rf_number_yes g F c.toNat t bad _ h1 hok).mono ?_); rintro e w2 ⟨rfl, h3, h4⟩; generalize be (t.take c.toNat) = n at *))
      go_ret
      exact ⟨rfl, h3, h2.trans h4 (fun _ _ e => e)⟩
    · have hX : rdNum most false bad (c :: t) = rdFail := by
        simp [rdNum, rdHead, hm]
      rw [hX]
      clear hX
      go_enter Tryz.func75, Tryz.ntmps75
      go_wp2_with (first
        | (go_at_call 96; refine H1.out.mono ?_; rintro e w1 ⟨rfl, h1, h2⟩)
        | (go_at_call 97; go_must (refine (rf_number_yes g F c.toNat t bad _ h1 hok).mono ?_); rintro e w2 ⟨rfl, h3, h4⟩; generalize be (t.take c.toNat) = n at *)
        | (go_at_call 65; go_must (refine (rf_fail g F _ bad _ h3).mono ?_); rintro e w3 ⟨rfl, h5, h6⟩))
      go_ret
      exact ⟨rfl, h5, (h2.trans h4 (fun _ _ e => e)).trans h6 (fun _ _ e => e)⟩
  · have hok' : rfOk c.toNat t = false := by simpa using hok
    have hX : rdNum most false bad (c :: t) = rdFail := by
      have hk : rdOk false c t = false := hok'
      simp [rdNum, hk]
    rw [hX]
    clear hX hok
    go_enter Tryz.func75, Tryz.ntmps75
    go_wp2_with (first
      | (go_at_call 96; refine H1.out.mono ?_; rintro e w1 ⟨rfl, h1, h2⟩)
      | (go_at_call 97; go_must (refine (rf_number_no g F c.toNat t bad _ h1 hcl hok').mono ?_); rintro e w2 ⟨rfl, rfl⟩)
      | (go_at_call 65; go_must (refine (rf_fail g F _ bad _ h1).mono ?_); rintro e w3 ⟨rfl, h5, h6⟩))
    go_ret
    exact ⟨rfl, h5, h2.trans h6 (fun _ _ e => e)⟩

theorem rf_int (g : Nat) (F : Nat → Prop) (bad : Bool) (l : List UInt8) (w : World) (h : RfAt w g F l bad) :
    Calls Tryz.prog 63 #[.pointer (some ⟨g, 0, none⟩)] w
      (FPost (.int .i64 (rdInt bad l)) (rdNum 9223372036854775807 true bad l).left (rdNum 9223372036854775807 true bad l).bad w g F) := by
  rcases l with _ | ⟨c, t⟩
  · have HF := Lib.hid (rf_fail g F [] bad w h)
    have H1 := Lib.hid (rf_first_nil g F bad w h)
    clear h
    go_enter Tryz.func63, Tryz.ntmps63
    go_wp2_with (first
      | (go_at_call 96; refine H1.out.mono ?_; rintro e w' ⟨rfl, rfl⟩)
      | (go_at_call 65; refine HF.out.mono ?_; rintro e w' ⟨rfl, h1, h2⟩))
    go_ret
    exact ⟨rfl, h1, h2⟩
  have H1 := Lib.hid (rf_first_cons g F c t bad w h)
  have hcl := B8_lt c
  clear h
  by_cases hok : rfOk (c.toNat % 128) t = true
  · by_cases hm : be (t.take (c.toNat % 128)) ≤ 9223372036854775807
    · have hX : rdNum 9223372036854775807 true bad (c :: t) = ⟨be (t.take (c.toNat % 128)), decide (128 ≤ c.toNat), t.drop (c.toNat % 128), bad⟩ := by
        have hk : rdOk true c t = true := hok
        simp [rdNum, hk, rdHead, rdMark, hm]
      have hI : rdInt bad (c :: t) = if 128 ≤ c.toNat then -1 - (be (t.take (c.toNat % 128)) : Int) else (be (t.take (c.toNat % 128)) : Int) := by
        unfold rdInt; rw [hX]; simp
      rw [hX, hI]
      clear hX hI
      by_cases hc : 128 ≤ c.toNat
      · rw [if_pos hc]
        go_enter Tryz.func63, Tryz.ntmps63
        go_wp2_with (first
          | (go_at_call 96; refine H1.out.mono ?_; rintro e w1 ⟨rfl, h1, h2⟩)
          | (go_at_call 97; go_must (refine (rf_number_yes g F (c.toNat % 128) t bad _ h1 hok).mono ?_); rintro e w2 ⟨rfl, h3, h4⟩; generalize be (t.take (c.toNat % 128)) = n at *))
        go_ret
        exact ⟨rfl, h3, h2.trans h4 (fun _ _ e => e)⟩
      · rw [if_neg hc]
        go_enter Tryz.func63, Tryz.ntmps63
        go_wp2_with (first
          | (go_at_call 96; refine H1.out.mono ?_; rintro e w1 ⟨rfl, h1, h2⟩)
          | (go_at_call 97; go_must (refine (rf_number_yes g F (c.toNat % 128) t bad _ h1 hok).mono ?_); rintro e w2 ⟨rfl, h3, h4⟩; generalize be (t.take (c.toNat % 128)) = n at *))
        go_ret
        exact ⟨rfl, h3, h2.trans h4 (fun _ _ e => e)⟩
    · have hX : rdNum 9223372036854775807 true bad (c :: t) = rdFail := by
        simp [rdNum, rdHead, hm]
      have hI : rdInt bad (c :: t) = 0 := by
        unfold rdInt; rw [hX]; simp [rdFail]
      rw [hX, hI]
      clear hX hI
      go_enter Tryz.func63, Tryz.ntmps63
      go_wp2_with (first
        | (go_at_call 96; refine H1.out.mono ?_; rintro e w1 ⟨rfl, h1, h2⟩)
        | (go_at_call 97; go_must (refine (rf_number_yes g F (c.toNat % 128) t bad _ h1 hok).mono ?_); rintro e w2 ⟨rfl, h3, h4⟩; generalize be (t.take (c.toNat % 128)) = n at *)
        | (go_at_call 65; go_must (refine (rf_fail g F _ bad _ h3).mono ?_); rintro e w3 ⟨rfl, h5, h6⟩))
      go_ret
      exact ⟨rfl, h5, (h2.trans h4 (fun _ _ e => e)).trans h6 (fun _ _ e => e)⟩
  · have hok' : rfOk (c.toNat % 128) t = false := by simpa using hok
    have hX : rdNum 9223372036854775807 true bad (c :: t) = rdFail := by
      have hk : rdOk true c t = false := hok'
      simp [rdNum, hk]
    have hI : rdInt bad (c :: t) = 0 := by
      unfold rdInt; rw [hX]; simp [rdFail]
    rw [hX, hI]
    clear hX hok hI
    go_enter Tryz.func63, Tryz.ntmps63
    go_wp2_with (first
      | (go_at_call 96; refine H1.out.mono ?_; rintro e w1 ⟨rfl, h1, h2⟩)
      | (go_at_call 97; go_must (refine (rf_number_no g F (c.toNat % 128) t bad _ h1 (by omega) hok').mono ?_); rintro e w2 ⟨rfl, rfl⟩)
      | (go_at_call 65; go_must (refine (rf_fail g F _ bad _ h1).mono ?_); rintro e w3 ⟨rfl, h5, h6⟩))
    go_ret
    exact ⟨rfl, h5, h2.trans h6 (fun _ _ e => e)⟩

/-- What the reference's Raw hands back. -/
def FRaw (n : Nat) (xs l : List UInt8) (bad : Bool) (w : World) (g : Nat) (F : Nat → Prop) (e : Ending) (w' : World) : Prop :=
  ∃ A c, e = .returned (.slice A n c) ∧ n ≤ c ∧ c ≤ maxLen ∧ Rd w' (fun k => w.heap.size ≤ k) A n (xs.map B8) ∧ RfAt w' g F l bad ∧ Touch (fun k => k = g) w w'

end Go.Proofs.YtcblbjhhlnmkjaaGreat
