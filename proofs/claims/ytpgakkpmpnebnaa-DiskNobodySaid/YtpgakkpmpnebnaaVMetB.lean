/- What turn, and the calls by it, do: Swap, Add, Raise; Get, Once. -/
import Derived.Test.YtpgakkpmpnebnaaVMetA
import Derived.OwnWalk
namespace Go.Proofs.Ytpgakkpmpnebnaa
open Go.RowKit
set_option maxHeartbeats 4000000
set_option maxRecDepth 100000
set_option linter.unusedVariables false

/-- What is told of a count: the number and the error's. -/
def swapF (x _was : Nat) : Nat × Int := if x ≤ 4611686018427387904 then (x, 0) else (0, 10)
def addF (x was : Nat) : Nat × Int := if x ≤ 4611686018427387904 ∧ was + x ≤ 4611686018427387904 then (was + x, 0) else (0, 10)
def raiseF (x was : Nat) : Nat × Int := if x ≤ 4611686018427387904 then (max x was, 0) else (was, 10)

theorem clo_add (gc x was : Nat) (w : World) (h : Blk w gc 24 #[.int .u64 x]) (hw : was ≤ 4611686018427387904) :
    Calls Try.prog 132 #[.int .u64 was, .pointer (some ⟨gc, 0, none⟩)] w fun e w' => e = .returned (.tuple #[.int .u64 ((addF x was).1 : Nat), .int .i64 (addF x was).2]) ∧ w = w' := by
  have h0 := h.cell 0
  simp at h0
  clear h
  by_cases hx : x ≤ 4611686018427387904
  · have hx' : ¬ 4611686018427387904 < (x : Int) := by omega
    have HR := Lib.hid (room_any (was + x) w)
    have HS := Lib.hid (show (if was + x ≤ 4611686018427387904 then was + x else 0) = (addF x was).1 ∧ (if was + x ≤ 4611686018427387904 then (0 : Int) else 10) = (addF x was).2 from by
      unfold addF
      by_cases h : was + x ≤ 4611686018427387904
      · rw [if_pos h, if_pos h, if_pos ⟨hx, h⟩]; exact ⟨rfl, rfl⟩
      · rw [if_neg h, if_neg h, if_neg (fun h' => h h'.2)]; exact ⟨rfl, rfl⟩)
    have HA := Lib.hid (show ((was : Int) + (x : Int)) = ((was + x : Nat) : Int) by omega)
    go_enter Try.func132, Try.ntmps132
    go_wp2_with (go_at_call 133; try rw [HA.out]; go_must (refine HR.out.mono ?_); rintro e w1 ⟨rfl, rfl⟩; rw [HS.out.1, HS.out.2])
    go_ret2
    exact ⟨rfl, rfl⟩
  · have hx' : 4611686018427387904 < (x : Int) := by omega
    have HS := Lib.hid (show addF x was = (0, 10) from by unfold addF; rw [if_neg (fun h' => hx h'.1)])
    go_enter Try.func132, Try.ntmps132
    go_wp2
    go_ret2
    rw [HS.out]
    exact ⟨rfl, rfl⟩
theorem turn_add (g gc x i : Nat) (cs : List Nat) (w : World) (h : MAt w g cs) (hi : i < cs.length) (hc : Blk w gc 24 #[.int .u64 x]) :
    Calls Try.prog 131 #[.pointer (some ⟨g, 0, none⟩), .int .i64 i, .func (.func 132) #[] #[.pointer (some ⟨gc, 0, none⟩)]] w fun e w' =>
      e = .returned (.tuple #[.int .u64 ((if (addF x (cs.getD i 0)).2 = 0 then cs.getD i 0 else 0 : Nat) : Int), .int .u64 ((if (addF x (cs.getD i 0)).2 = 0 then (addF x (cs.getD i 0)).1 else 0 : Nat) : Int), .int .i64 (addF x (cs.getD i 0)).2]) ∧
        (if (addF x (cs.getD i 0)).2 = 0 then w.setCell ⟨g, i, none⟩ (.int .u64 ((addF x (cs.getD i 0)).1 : Nat)) else w) = w' := by
  have HA := Lib.hid (at_ok g i cs w h hi)
  have HL := Lib.hid (load_any g i (cs.getD i 0) w (h.cell i hi))
  have HC := Lib.hid (clo_add gc x (cs.getD i 0) w hc (h.le i))
  have HS := Lib.hid (cas_hit g i (cs.getD i 0) (addF x (cs.getD i 0)).1 w (h.cell i hi) (h.2.2.frozen i))
  clear h hc
  generalize cs.getD i 0 = was at *
  generalize hr : addF x was = r at *
  obtain ⟨now, e⟩ := r
  clear hr
  by_cases he : e = 0
  · subst he
    simp only [if_true]
    go_enter Try.func131, Try.ntmps131
    go_wp2
    go_step3
    go_wp2_with (go_at_call 116; go_must (refine HA.out.mono ?_); rintro e w1 ⟨rfl, rfl⟩)
    go_step3
    go_wp2_with (first
      | (go_at_call 117; go_must (refine HL.out.mono ?_); rintro e w1 ⟨rfl, rfl⟩)
      | (go_at_call 132; go_must (refine HC.out.mono ?_); rintro e w1 ⟨rfl, rfl⟩)
      | (go_at_call 165; go_must (refine HS.out.mono ?_); rintro e w1 ⟨rfl, rfl⟩))
    rw [Exit.noGoto_ret]
    go_ret3
    exact ⟨rfl, rfl⟩
  · have he' : (e == 0) = false := by simpa using he
    simp only [if_neg he]
    clear he
    go_enter Try.func131, Try.ntmps131
    go_wp2
    go_step3
    go_wp2_with (go_at_call 116; go_must (refine HA.out.mono ?_); rintro e w1 ⟨rfl, rfl⟩)
    go_step3
    go_wp2_with (first
      | (go_at_call 117; go_must (refine HL.out.mono ?_); rintro e w1 ⟨rfl, rfl⟩)
      | (go_at_call 132; go_must (refine HC.out.mono ?_); rintro e w1 ⟨rfl, rfl⟩))
    rw [Exit.noGoto_ret]
    go_ret3
    exact ⟨rfl, rfl⟩

/-- Where there is no count. -/
theorem turn_bad (p V : Value) (i e : Int) (w : World) (hat : Calls Try.prog 116 #[p, .int .i64 i] w fun o w' => o = .returned (.tuple #[.pointer none, .int .i64 e]) ∧ w = w') (he : e ≠ 0) :
    Calls Try.prog 131 #[p, .int .i64 i, V] w fun o w' => o = .returned (.tuple #[.int .u64 0, .int .u64 0, .int .i64 e]) ∧ w = w' := by
  have HA := Lib.hid hat
  have he' : (e == 0) = false := by simpa using he
  clear hat he
  go_enter Try.func131, Try.ntmps131
  go_wp2
  go_step3
  go_wp2_with (go_at_call 116; go_must (refine HA.out.mono ?_); rintro e w1 ⟨rfl, rfl⟩)
  rw [Exit.noGoto_ret]
  go_ret3
  exact ⟨rfl, rfl⟩
end Go.Proofs.Ytpgakkpmpnebnaa
