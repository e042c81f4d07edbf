/- The walk of PollNobody. -/
import Derived.Test.YtbleeejhejkkcaaPolE
namespace Go.Proofs.Ytbleeejhejkkcaa
open Go.RowKit
set_option maxHeartbeats 4000000
set_option maxRecDepth 100000
set_option linter.unusedVariables false

theorem nobody_walk {w : World} (k : Int) (ok : Bool) :
    Calls Try.prog 6 #[.agg #[.int .i64 k, .bool ok]] w fun e w' => e = .returned (.bool true) ∧ Below w.heap.size w w' := by
  obtain ⟨W, hW⟩ : ∃ W, W = ((w.alloc (.cells #[.int .i64 k, .bool ok] 31)).alloc (.cells #[.slice none 0 0, .map none] 46)).alloc (.cells #[.pointer none, .pointer (some ⟨w.heap.size + 1, 0, none⟩)] 25) := ⟨_, rfl⟩
  have HT := Lib.hid (show Touch (fun _ => False) w W from hW ▸ (((Touch.refl _ w).alloc _).alloc _).alloc _)
  have HS := Lib.hid (show Blk W w.heap.size 31 #[.int .i64 k, .bool ok] from hW ▸ ((Blk.new w 31 #[.int .i64 k, .bool ok]).alloc _).alloc _)
  have HP := Lib.hid (show Blk W (w.heap.size + 1) 46 #[.slice none 0 0, .map none] from hW ▸ (by simpa using (Blk.new (w.alloc (.cells #[.int .i64 k, .bool ok] 31)) 46 #[.slice none 0 0, .map none]).alloc _))
  have HR := Lib.hid (show Blk W (w.heap.size + 2) 25 #[.pointer none, .pointer (some ⟨w.heap.size + 1, 0, none⟩)] from hW ▸ (by simpa using Blk.new ((w.alloc (.cells #[.int .i64 k, .bool ok] 31)).alloc (.cells #[.slice none 0 0, .map none] 46)) 25 #[.pointer none, .pointer (some ⟨w.heap.size + 1, 0, none⟩)]))
  have HW := Lib.hid hW
  clear hW
  go_enter Try.func6, Try.ntmps6
  go_wp2_with fail
  rw [← HW.out]
  clear HW
  have s0 := HS.out.cell 0; have s1 := HS.out.cell 1
  simp at s0 s1
  have r0 := HR.out.cell 0; have r1 := HR.out.cell 1
  simp at r0 r1
  go_loopw [11] (fun i wr => ∃ j : Nat, j ≤ 2 ∧ i = .int .i64 j ∧ wr = W) (fun i _ => 2 - (intOf i).toNat)
  case atStart => exact ⟨0, by omega, rfl, rfl⟩
  case round =>
    obtain ⟨j, hj, rfl, rfl⟩ := hrel
    have hcase : j = 0 ∨ j = 1 ∨ j = 2 := by omega
    rcases hcase with rfl | rfl | rfl
    · have HN := Lib.hid (show NobAt wr (.pointer none) from .inl rfl)
      go_wp2_with (first
        | (go_at_call 14; go_must (refine (nob_note _ _ HN.out k ok).mono ?_); rintro e w1 ⟨rfl, rfl⟩)
        | (go_at_call 15; go_must (refine (nob_state _ _ HN.out).mono ?_); rintro e w1 ⟨rfl, rfl⟩)
        | (go_at_call 18; go_must (refine (nob_yes _ _ HN.out).mono ?_); rintro e w1 ⟨rfl, rfl⟩)
        | (go_at_call 19; go_must (refine (nob_no _ _ HN.out).mono ?_); rintro e w1 ⟨rfl, rfl⟩))
      go_roundw
      case rel => exact ⟨1, by omega, rfl, trivial⟩
      case measure => simp [intOf]
    · have HN := Lib.hid (show NobAt wr (.pointer (some ⟨w.heap.size + 1, 0, none⟩)) from .inr ⟨_, rfl, HP.out⟩)
      go_wp2_with (first
        | (go_at_call 14; go_must (refine (nob_note _ _ HN.out k ok).mono ?_); rintro e w1 ⟨rfl, rfl⟩)
        | (go_at_call 15; go_must (refine (nob_state _ _ HN.out).mono ?_); rintro e w1 ⟨rfl, rfl⟩)
        | (go_at_call 18; go_must (refine (nob_yes _ _ HN.out).mono ?_); rintro e w1 ⟨rfl, rfl⟩)
        | (go_at_call 19; go_must (refine (nob_no _ _ HN.out).mono ?_); rintro e w1 ⟨rfl, rfl⟩))
      go_roundw
      case rel => exact ⟨2, by omega, rfl, trivial⟩
      case measure => simp [intOf]
    · go_wp2_with (go_at_call 10; go_must (refine (lives32_any _).mono ?_); rintro e w1 ⟨rfl, t1⟩; have HT := Lib.hid (HT.out.trans t1 (fun _ _ e => e)); clear t1)
      go_ret
      exact ⟨rfl, HT.out.below⟩
end Go.Proofs.Ytbleeejhejkkcaa
