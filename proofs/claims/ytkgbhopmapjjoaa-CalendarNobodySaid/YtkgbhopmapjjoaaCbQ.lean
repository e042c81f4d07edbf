/- CalendarNobody walked. -/
import Derived.Test.YtkgbhopmapjjoaaCbP
namespace Go.Proofs.Ytkgbhopmapjjoaa
open Go.RowKit Cal
set_option maxHeartbeats 4000000
set_option maxRecDepth 100000
set_option linter.unusedVariables false

structure NbI (w wr : World) : Prop where
  t : Touch (fun _ => False) w wr
  z : Blk wr w.heap.size 50 #[.pointer none, .pointer none, .int .i64 0]
  c : Blk wr (w.heap.size + 1) 28 #[.pointer none, .pointer (some ⟨w.heap.size, 0, none⟩)]
theorem NbI.touch {w wr w' : World} (h : NbI w wr) (t : Touch (fun _ => False) wr w') : NbI w w' := ⟨h.t.trans t (fun _ _ e => e), t.blk h.z (fun e => e), t.blk h.c (fun e => e)⟩
theorem NbI.at_ {w wr : World} (h : NbI w wr) {j : Nat} (hj : j < 2) : ∃ v : Option Addr, NoCk wr v ∧ wr.cell? ⟨w.heap.size + 1, j, none⟩ = some (.pointer v) := by
  have q0 := h.c.cell 0; have q1 := h.c.cell 1
  simp at q0 q1
  rcases j with _ | _ | j
  · exact ⟨none, .inl rfl, q0⟩
  · exact ⟨_, .inr ⟨_, rfl, h.z⟩, q1⟩
  · omega
theorem walk_CalendarNobody {w : World} (a0 : Int) (h0 : -9223372036854775808 ≤ a0 ∧ a0 ≤ 9223372036854775807) (a1 : Int) (h1 : -9223372036854775808 ≤ a1 ∧ a1 ≤ 9223372036854775807) (a2 : Int) (h2 : -9223372036854775808 ≤ a2 ∧ a2 ≤ 9223372036854775807) :
    Calls Try.prog 9 #[.int .i64 a0, .int .i64 a1, .int .i64 a2] w fun e w' => e = .returned (.bool true) ∧ Below w.heap.size w w' := by
  have HS := Lib.hid (fun w1 => (sameC_self ⟨0, [], []⟩ ▸ fcsame_any (fun _ => True) (fun _ => True) none none none none 0 0 0 0 ⟨0, [], []⟩ ⟨0, [], []⟩ w1 ⟨SpR.nil _ _ _, SpR.nil _ _ _⟩ ⟨SpR.nil _ _ _, SpR.nil _ _ _⟩ (by simp) (by simp) : Calls Try.prog 18 #[.agg #[.int .i64 0, .slice none 0 0, .slice none 0 0], .agg #[.int .i64 0, .slice none 0 0, .slice none 0 0]] w1 fun e w' => e = .returned (.bool true) ∧ Touch (fun _ => False) w1 w'))
  have HI0 := Lib.hid (show NbI w ((w.alloc (.cells #[.pointer none, .pointer none, .int .i64 0] 50)).alloc (.cells #[.pointer none, .pointer (some ⟨w.heap.size, 0, none⟩)] 28)) from
    ⟨((Touch.refl _ w).alloc _).alloc _, (Blk.new w _ _).alloc _, by simpa using Blk.new (w.alloc (.cells #[.pointer none, .pointer none, .int .i64 0] 50)) 28 #[.pointer none, .pointer (some ⟨w.heap.size, 0, none⟩)]⟩)
  go_enter Try.func9, Try.ntmps9
  go_wp2_with fail
  go_loopw [23] (fun i wr => ∃ j : Nat, j ≤ 2 ∧ i = .int .i64 j ∧ NbI w wr) (fun i _ => 2 - (intOf i).toNat)
  case atStart => exact ⟨0, by omega, rfl, HI0.out⟩
  case round =>
    obtain ⟨j, hj, rfl, hI⟩ := hrel
    clear HI0
    have HI := Lib.hid hI
    by_cases hjk : j < 2
    · obtain ⟨v, hv, hc⟩ := hI.at_ hjk
      have HV := Lib.hid hv
      clear hI hv
      go_wp2_with (first
        | (go_at_call 20; go_must (refine (noelapsed_any v a1 a2 _ (by exact HV.out)).mono ?_); rintro e w1 ⟨rfl, t1⟩; have HT1 := Lib.hid t1; clear t1)
        | (go_at_call 14; go_must (refine (nodue_any v a1 a2 _ (by exact HV.out.touch HT1.out)).mono ?_); rintro e w2 ⟨rfl, t2⟩; have HT2 := Lib.hid (HT1.out.trans t2 (fun _ _ e => e)); clear t2)
        | (go_at_call 23; go_must (refine (norest_any v a1 a2 a0 _ (by exact HV.out.touch HT2.out)).mono ?_); rintro e w3 ⟨rfl, t3⟩; have HT3 := Lib.hid (HT2.out.trans t3 (fun _ _ e => e)); clear t3)
        | (go_at_call 16; go_must (refine (noopen_any v a0 _ (by exact HV.out.touch HT3.out)).mono ?_); rintro e w4 ⟨rfl, t4⟩; have HT4 := Lib.hid (HT3.out.trans t4 (fun _ _ e => e)); clear t4)
        | (go_at_call 19; go_must (refine (noplain_any v _ (by exact HV.out.touch HT4.out)).mono ?_); rintro e w5 ⟨rfl, t5⟩; have HT5 := Lib.hid (HT4.out.trans t5 (fun _ _ e => e)); clear t5)
        | (go_at_call 18; go_must (refine (HS.out _).mono ?_); rintro e w6 ⟨rfl, t6⟩; have HT6 := Lib.hid (HT5.out.trans t6 (fun _ _ e => e)); clear t6))
      go_roundw
      case rel => exact ⟨j + 1, by omega, by go_num, HI.out.touch HT6.out⟩
      case measure => simp [intOf]; omega
    · obtain rfl : j = 2 := by omega
      clear hI
      go_wp2_with (first
        | (go_at_call 25; go_must (refine (cread_nil _).mono ?_); rintro e w1 ⟨rfl, t1⟩; have HT1 := Lib.hid (t1.alloc (.cells #[.int .i64 0, .slice none 0 0, .slice none 0 0] 24)); clear t1)
        | (go_at_call 12; go_must (refine (lives10_any _).mono ?_); rintro e we ⟨rfl, te⟩; have HTe := Lib.hid (HT1.out.trans te (fun _ _ e => e)); clear te))
      go_ret
      exact ⟨rfl, (HI.out.t.trans HTe.out (fun _ _ e => e)).below⟩
end Go.Proofs.Ytkgbhopmapjjoaa
