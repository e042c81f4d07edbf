/- slices.Sort at at most twelve uint64. slices.Sort at at most twelve uint64, nil too. -/
import Derived.Test.YtpgakkpmpnebnaaVKeyT
section
namespace Go.Proofs.Ytpgakkpmpnebnaa
open Go.RowKit
set_option maxHeartbeats 4000000
set_option maxRecDepth 100000
set_option linter.unusedVariables false

theorem len64_small (n : Nat) (hn : n ≤ 12) (w : World) : Calls Try.prog 146 #[.int .u64 n] w fun e w' => (∃ k : Int, e = .returned (.int .i64 k)) ∧ w = w' := by
  have hc : n = 0 ∨ n = 1 ∨ n = 2 ∨ n = 3 ∨ n = 4 ∨ n = 5 ∨ n = 6 ∨ n = 7 ∨ n = 8 ∨ n = 9 ∨ n = 10 ∨ n = 11 ∨ n = 12 := by omega
  rcases hc with rfl | rfl | rfl | rfl | rfl | rfl | rfl | rfl | rfl | rfl | rfl | rfl | rfl
  all_goals
    go_enter Try.func146, Try.ntmps146
    go_wp2
    go_ret
    exact ⟨⟨_, rfl⟩, rfl⟩
theorem len_small (n : Nat) (hn : n ≤ 12) (w : World) : Calls Try.prog 123 #[.int .u64 n] w fun e w' => (∃ k : Int, e = .returned (.int .i64 k)) ∧ w = w' := by
  have HL := Lib.hid (len64_small n hn w)
  go_enter Try.func123, Try.ntmps123
  go_wp2_with (go_at_call 146; go_must (refine HL.out.mono ?_); rintro e w1 ⟨⟨k, rfl⟩, rfl⟩)
  go_ret
  exact ⟨⟨_, rfl⟩, rfl⟩
theorem pdq_any (g cap n : Nat) (k : Int) (xs : List Nat) (w : World) (hl : xs.length = n) (hn : n ≤ 12) (ho : Own w 24 1 (.slice (some ⟨g, 0, none⟩) n cap) (some g) n (xs.map U64)) :
    Calls Try.prog 122 #[.slice (some ⟨g, 0, none⟩) n cap, .int .i64 0, .int .i64 n, .int .i64 k] w fun e w' => e = .returned (.tuple #[]) ∧ Own w' 24 1 (.slice (some ⟨g, 0, none⟩) n cap) (some g) n ((xs.mergeSort (fun x y => decide (x ≤ y))).map U64) ∧ Touch (fun k => k = g) w w' := by
  have HI := Lib.hid (insort_any g cap n xs w hl hn ho)
  clear hl ho
  go_enter Try.func122, Try.ntmps122
  go_wp2_with fail
  go_loopw [1, 2] (fun a b wr => a = .int .i64 0 ∧ b = .int .i64 n ∧ wr = w) (fun _ _ _ => 1)
  case atStart => exact ⟨rfl, rfl, rfl⟩
  case round =>
    obtain ⟨rfl, rfl, rfl⟩ := hrel
    have hn' : (n : Int) ≤ 12 := by omega
    go_wp2_with (go_at_call 136; go_must (refine HI.out.mono ?_); rintro e w1 ⟨rfl, ho1, t1⟩; have HO1 := Lib.hid ho1; have HT1 := Lib.hid t1; clear ho1 t1)
    exact bodyPost_ret (v := .tuple #[]) (results_none (by rfl) _ _ _) rfl ⟨rfl, HO1.out, HT1.out⟩
theorem sortU_any (g cap n : Nat) (xs : List Nat) (w : World) (hl : xs.length = n) (hn : n ≤ 12) (ho : Own w 24 1 (.slice (some ⟨g, 0, none⟩) n cap) (some g) n (xs.map U64)) :
    Calls Try.prog 101 #[.slice (some ⟨g, 0, none⟩) n cap] w fun e w' => e = .returned (.tuple #[]) ∧ Own w' 24 1 (.slice (some ⟨g, 0, none⟩) n cap) (some g) n ((xs.mergeSort (fun x y => decide (x ≤ y))).map U64) ∧ Touch (fun k => k = g) w w' := by
  have HP := Lib.hid (fun k => pdq_any g cap n k xs w hl hn ho)
  have HL := Lib.hid (len_small n hn w)
  clear hl ho
  go_enter Try.func101, Try.ntmps101
  go_wp2_with (first
    | (go_at_call 123; go_must (refine HL.out.mono ?_); rintro e w1 ⟨⟨k, rfl⟩, rfl⟩)
    | (go_at_call 122; go_must (refine (HP.out _).mono ?_); rintro e w1 ⟨rfl, ho1, t1⟩; have HO1 := Lib.hid ho1; have HT1 := Lib.hid t1; clear ho1 t1))
  go_end0
  exact ⟨rfl, HO1.out, HT1.out⟩
end Go.Proofs.Ytpgakkpmpnebnaa
end

section
namespace Go.Proofs.Ytpgakkpmpnebnaa
open Go.RowKit
set_option maxHeartbeats 4000000
set_option maxRecDepth 100000
set_option linter.unusedVariables false
theorem sortU_nil (w : World) : Calls Try.prog 101 #[.slice none 0 0] w fun e w' => e = .returned (.tuple #[]) ∧ w = w' := by
  have HI : Hid (∀ w, Calls Try.prog 136 #[.slice none 0 0, .int .i64 0, .int .i64 0] w fun e w' => e = .returned (.tuple #[]) ∧ w = w') := by
    refine Lib.hid (fun w => ?_)
    go_enter Try.func136, Try.ntmps136
    go_wp2_with fail
    go_loopw [6] (fun i wr => i = .int .i64 1 ∧ wr = w) (fun _ _ => 1)
    case atStart => exact ⟨rfl, rfl⟩
    case round =>
      obtain ⟨rfl, rfl⟩ := hrel
      go_wp2
      go_end0
      exact ⟨rfl, rfl⟩
  have HP : Hid (∀ k : Int, Calls Try.prog 122 #[.slice none 0 0, .int .i64 0, .int .i64 0, .int .i64 k] w fun e w' => e = .returned (.tuple #[]) ∧ w = w') := by
    refine Lib.hid (fun k => ?_)
    go_enter Try.func122, Try.ntmps122
    go_wp2_with fail
    go_loopw [1, 2] (fun a b wr => a = .int .i64 0 ∧ b = .int .i64 0 ∧ wr = w) (fun _ _ _ => 1)
    case atStart => exact ⟨rfl, rfl, rfl⟩
    case round =>
      obtain ⟨rfl, rfl, rfl⟩ := hrel
      go_wp2_with (go_at_call 136; go_must (refine (HI.out _).mono ?_); rintro e w1 ⟨rfl, rfl⟩)
      exact bodyPost_ret (v := .tuple #[]) (results_none (by rfl) _ _ _) rfl ⟨rfl, rfl⟩
  have HL := Lib.hid (len_small 0 (by omega) w)
  go_enter Try.func101, Try.ntmps101
  go_wp2_with (first
    | (go_at_call 123; go_must (refine HL.out.mono ?_); rintro e w1 ⟨⟨k, rfl⟩, rfl⟩)
    | (go_at_call 122; go_must (refine (HP.out _).mono ?_); rintro e w1 ⟨rfl, rfl⟩))
  go_end0
  exact ⟨rfl, rfl⟩
theorem sortKU_any (v : Value) (r : Option Nat) (xs : List Nat) (w : World) (ho : Own w 24 1 v r xs.length (xs.map U64)) (hl : xs.length ≤ 12) :
    Calls Try.prog 101 #[v] w fun e w' => e = .returned (.tuple #[]) ∧ Own w' 24 1 v r xs.length ((xs.mergeSort fun x y => decide (x ≤ y)).map U64) ∧ Touch (fun k => r = some k) w w' := by
  rcases ho.2 with ⟨hv, hn, hr⟩ | ⟨g, cap, cur, hr, hv, hb, hn, hc, hs, ht⟩
  · have hx : xs = [] := List.eq_nil_of_length_eq_zero hn
    subst hx hv hr
    refine (sortU_nil w).mono ?_
    rintro e w' ⟨rfl, rfl⟩
    exact ⟨rfl, by simpa using Own.nil _ _ _, Touch.refl _ _⟩
  · subst hr hv
    refine (sortU_any g cap xs.length xs w rfl hl ho).mono ?_
    rintro e w' ⟨rfl, h1, h2⟩
    exact ⟨rfl, h1, h2.mono (fun k _ e => by rw [e])⟩
end Go.Proofs.Ytpgakkpmpnebnaa
end
