/- calendar.Read where there is no reader; CalendarNobody walked. -/
import Derived.Test.YtkgbhopmapjjoaaCbO
namespace Go.Proofs.Ytkgbhopmapjjoaa
open Go.RowKit Cal
set_option maxHeartbeats 4000000
set_option maxRecDepth 100000
set_option linter.unusedVariables false

theorem nil_left (w : World) : Calls Try.prog 82 #[.pointer none] w fun e w' => e = .returned (.int .i64 0) ∧ w = w' := by
  go_enter Try.func82, Try.ntmps82
  go_wp2
  go_ret
  simp
theorem nil_fail (w : World) : Calls Try.prog 50 #[.pointer none] w fun e w' => e = .returned (.tuple #[]) ∧ w = w' := by
  go_enter Try.func50, Try.ntmps50
  go_wp2
  go_end0
  simp
theorem nil_number (w : World) (most : Nat) (m : Bool) : Calls Try.prog 68 #[.pointer none, .int .u64 most, .bool m] w fun e w' => e = .returned (.tuple #[.int .u64 0, .bool false]) ∧ w = w' := by
  go_enter Try.func68, Try.ntmps68
  go_wp2_with (first
    | (go_at_call 82; refine (nil_left _).mono ?_; rintro e w' ⟨rfl, rfl⟩)
    | (go_at_call 50; refine (nil_fail _).mono ?_; rintro e w' ⟨rfl, rfl⟩))
  go_ret2
  simp
theorem nil_num (w : World) (most : Nat) : Calls Try.prog 48 #[.pointer none, .int .u64 most] w fun e w' => e = .returned (.int .u64 0) ∧ w = w' := by
  go_enter Try.func48, Try.ntmps48
  go_wp2_with (go_at_call 68; refine (nil_number _ _ _).mono ?_; rintro e w' ⟨rfl, rfl⟩)
  go_ret
  simp
theorem nil_int (w : World) : Calls Try.prog 47 #[.pointer none] w fun e w' => e = .returned (.int .i64 0) ∧ w = w' := by
  go_enter Try.func47, Try.ntmps47
  go_wp2_with (go_at_call 68; refine (nil_number _ _ _).mono ?_; rintro e w' ⟨rfl, rfl⟩)
  go_ret
  simp
theorem cread_nil (w : World) : Calls Try.prog 25 #[.pointer none] w fun e w' => e = .returned (.tuple #[.agg #[.int .i64 0, .slice none 0 0, .slice none 0 0], .bool false]) ∧ Touch (fun _ => False) w w' := by
  obtain ⟨W1, hW1⟩ : ∃ W1, W1 = (w.alloc (.cells #[.int .i64 0, .slice none 0 0, .slice none 0 0] 24)).alloc (.cells #[.int .i64 0, .slice none 0 0, .slice none 0 0] 24) := ⟨_, rfl⟩
  have HT := Lib.hid (show Touch (fun _ => False) w W1 from hW1 ▸ ((Touch.refl (fun _ => False) w).alloc _).alloc _)
  have HB := Lib.hid (show Blk W1 w.heap.size 24 #[.int .i64 0, .slice none 0 0, .slice none 0 0] from hW1 ▸ (Blk.new w _ _).alloc _)
  have HNm := Lib.hid (fun w1 => nil_num w1 32)
  have HW := Lib.hid hW1
  clear hW1
  go_enter Try.func25, Try.ntmps25
  go_wp2_with (go_at_call 47; go_must (refine (nil_int _).mono ?_); rintro e w1 ⟨rfl, rfl⟩)
  try rw [← HW.out]
  go_loopw [15] (fun i wr => ∃ j : Nat, j ≤ 2 ∧ i = .int .i64 j ∧ wr = W1) (fun i _ => 2 - (intOf i).toNat)
  case atStart => exact ⟨0, by omega, rfl, rfl⟩
  case round =>
    obtain ⟨j, hj, rfl, rfl⟩ := hrel
    by_cases hjk : j < 2
    · rcases j with _ | _ | j
      · have hix : ∀ w' : World, (Instr.index 77 (.agg #[.pointer (some ⟨w.heap.size + 1, 1, none⟩), .pointer (some ⟨w.heap.size + 1, 2, none⟩)]) (.int .i64 0)).run Try.prog w' = .ok (.pointer (some ⟨w.heap.size + 1, 1, none⟩)) w' := fun _ => by kernel_rfl
        go_wp2_with (go_at_call 48; go_must (refine (HNm.out _).mono ?_); rintro e w1 ⟨rfl, rfl⟩)
        go_loopw [20] (fun i wr' => i = .int .u64 0 ∧ wr' = wr) (fun _ _ => 0)
        case atStart => exact ⟨rfl, rfl⟩
        case round =>
          obtain ⟨rfl, rfl⟩ := hrel
          go_wp2
          go_roundw
          case rel => exact ⟨1, by omega, by go_num, trivial⟩
          case measure => simp [intOf]
      · have hix : ∀ w' : World, (Instr.index 77 (.agg #[.pointer (some ⟨w.heap.size + 1, 1, none⟩), .pointer (some ⟨w.heap.size + 1, 2, none⟩)]) (.int .i64 1)).run Try.prog w' = .ok (.pointer (some ⟨w.heap.size + 1, 2, none⟩)) w' := fun _ => by kernel_rfl
        go_wp2_with (go_at_call 48; go_must (refine (HNm.out _).mono ?_); rintro e w1 ⟨rfl, rfl⟩)
        go_loopw [20] (fun i wr' => i = .int .u64 0 ∧ wr' = wr) (fun _ _ => 0)
        case atStart => exact ⟨rfl, rfl⟩
        case round =>
          obtain ⟨rfl, rfl⟩ := hrel
          go_wp2
          go_roundw
          case rel => exact ⟨2, by omega, by go_num, trivial⟩
          case measure => simp [intOf]
      · omega
    · obtain rfl : j = 2 := by omega
      have z0 := HB.out.frozen 0; have z1 := HB.out.frozen 1; have z2 := HB.out.frozen 2
      have q0 := HB.out.cell 0; have q1 := HB.out.cell 1; have q2 := HB.out.cell 2
      simp at q0 q1 q2
      go_wp2_with (go_at_call 50; go_must (refine (nil_fail _).mono ?_); rintro e w1 ⟨rfl, rfl⟩)
      have hs := ((HB.out.set_ 0 (.int .i64 0)).set_ 1 (.slice none 0 0)).set_ 2 (.slice none 0 0)
      have e0 := hs.cell 0; have e1 := hs.cell 1; have e2 := hs.cell 2
      simp at e0 e1 e2
      refine bodyPost_ret (v := .tuple #[.agg #[.int .i64 0, .slice none 0 0, .slice none 0 0], .bool false]) (by simp [results, Try.results25, go_sem, e0, e1, e2]) rfl ?_
      have ts := (((Touch.refl (fun q => q = w.heap.size) wr).set (b := w.heap.size) (o := 0) (fun _ => rfl) (.int .i64 0)).set (b := w.heap.size) (o := 1) (fun _ => rfl) (.slice none 0 0)).set (b := w.heap.size) (o := 2) (fun _ => rfl) (.slice none 0 0)
      exact ⟨rfl, HT.out.trans ts (fun q hq e => by omega)⟩
end Go.Proofs.Ytkgbhopmapjjoaa
