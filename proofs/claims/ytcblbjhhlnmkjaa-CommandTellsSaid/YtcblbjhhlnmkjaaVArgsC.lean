/- law10: Light, lives. A calendar among the arguments, opened. -/
import Derived.Test.YtcblbjhhlnmkjaaVCbC
import Derived.Test.YtcblbjhhlnmkjaaCalG
import Derived.Test.YtcblbjhhlnmkjaaArgs
import Derived.Test.YtcblbjhhlnmkjaaCalD
section
namespace Go.Proofs.Ytcblbjhhlnmkjaa
open Go.RowKit Cal
set_option maxHeartbeats 4000000
set_option maxRecDepth 100000
set_option linter.unusedVariables false

theorem light10_any (A B : Option Addr) (k m n n2 : Nat) (o : Int) (w : World) :
    Calls Try.prog 48 #[.agg #[.int .i64 o, .slice A n k, .slice B n2 m]] w fun e w' => e = .returned (.bool (decide (n ≤ 60) && decide (n2 ≤ 60))) ∧ Touch (fun _ => False) w w' := by
  have HT := Lib.hid ((Touch.refl (fun _ => False) w).alloc (.cells #[.int .i64 o, .slice A n k, .slice B n2 m] 25))
  have HV := Lib.hid (show decide (n ≤ 60) = decide ((n : Int) ≤ 60) by simp; omega)
  have HV2 := Lib.hid (show decide (n2 ≤ 60) = decide ((n2 : Int) ≤ 60) by simp; omega)
  by_cases h1 : (n : Int) ≤ 60
  · by_cases h2 : (n2 : Int) ≤ 60
    · go_enter Try.func48, Try.ntmps48
      go_wp2
      go_ret
      exact ⟨by rw [HV.out, HV2.out]; simp [h1, h2], HT.out⟩
    · go_enter Try.func48, Try.ntmps48
      go_wp2
      go_ret
      exact ⟨by rw [HV.out, HV2.out]; simp [h1, h2], HT.out⟩
  · go_enter Try.func48, Try.ntmps48
    go_wp2
    go_ret
    exact ⟨by rw [HV.out, HV2.out]; simp; omega, HT.out⟩
def cL : Ca := ⟨0, [⟨10, 20⟩], []⟩
theorem cL_ok : cL.Ok := ⟨by simp [cL], ⟨by simp [cL, Row], by simp [cL], by simp [cL]⟩, by simp [cL, Row], by simp [cL]⟩
theorem cL_due1 : cL.due 0 5 = (15, 0) := by
  refine due_of cL (by decide) (by decide) ⟨by omega, by decide, by decide⟩ (by omega)
theorem cL_due2 : cL.due 15 6 = (604811, 0) := by
  refine due_of cL (by decide) (by decide) (.of_least (by omega) ?_ ?_) (by omega)
  · rw [← cL_ok.count (by omega) (by omega)]; decide
  · rw [← cL_ok.count (by omega) (by omega)]; decide
end Go.Proofs.Ytcblbjhhlnmkjaa
end

section
namespace Go.Proofs.Ytcblbjhhlnmkjaa
open Go.RowKit Go.ChangeShapes Go.WideShapes Go.ChangeAt Go.Deep Cal
set_option maxHeartbeats 4000000
set_option maxRecDepth 100000
set_option linter.unusedVariables false
section
variable {H : Type} {enc : TypeId × Value → H} {w : World} {spare : Nat → Bool} {held : Bool}
theorem elem_i64c {P : Program} {e : TypeId} (he : P.underlying e = some (.int .i64)) {fuel : Nat} {cs : List Value} {x : DataW H × List MemPlace} (h : DataW.trod enc P w 0 spare held fuel e cs = some x) : ∃ n : Int, cs = [.int .i64 n] ∧ -9223372036854775808 ≤ n ∧ n ≤ 9223372036854775807 := by
  obtain ⟨n, rfl, _, hw⟩ := DataW.trod_int he h
  simp [Lit.wf, IntKind.min, IntKind.max, IntKind.signed, IntKind.bits] at hw
  exact ⟨n, rfl, by omega⟩
theorem elem_span {fuel : Nat} {cs : List Value} {x : DataW H × List MemPlace} (h : DataW.trod enc Try.prog w 0 spare held fuel 165 cs = some x) : ∃ s : Sp, cs = spC s ∧ True := by
  obtain ⟨ys, n, _, _, hlen, hyl, hf⟩ := DataW.trod_struct Try.underlying165 h
  rw [show Try.prog.cellsOf 165 = 2 from by kernel_rfl] at hlen
  match cs, hlen, ys, hyl with
  | [c0, c1], _, [y0, y1], _ =>
    have k0 := hf 0 _ rfl; have k1 := hf 1 _ rfl
    have z2 : Try.prog.cellsOf 2 = 1 := by kernel_rfl
    simp [z2] at k0 k1
    obtain ⟨n0, e0, o0⟩ := elem_i64c Try.underlying2 k0
    obtain ⟨n1, e1, o1⟩ := elem_i64c Try.underlying2 k1
    injection e0 with e0 _; injection e1 with e1 _
    subst e0 e1
    exact ⟨⟨n0, n1⟩, rfl, trivial⟩
/-- A field that is a row of spans. -/
theorem field_spans {fuel : Nat} {v : Value} {x : DataW H × List MemPlace} (h : DataW.trod enc Try.prog w 0 spare held fuel 23 [v] = some x) :
    ∃ A c, ∃ l : List Sp, v = .slice A l.length c ∧ SpR w (fun k => k < w.heap.size) A l.length l := by
  have hv : ∃ A n c, v = .slice A n c := by
    rcases open_slice Try.underlying23 h with ⟨hcs, _⟩ | ⟨a, len, cap, m, k, D, Pl, hcs, _⟩
    · injection hcs with hcs _; exact ⟨_, _, _, hcs⟩
    · injection hcs with hcs _; exact ⟨_, _, _, hcs⟩
  obtain ⟨A, n, c, rfl⟩ := hv
  obtain ⟨l, hl, ho, -, h1, h2, h3, h4⟩ := open_list spC (fun _ => True) (H := H) (enc := enc) (P := Try.prog) (w := w) (spare := spare) (held := held) (d := x.1) (ps := x.2) Try.underlying23 (sz := 2) (by kernel_rfl) (by decide) (fun _ _ _ hx => elem_span hx) A n c rfl ⟨fuel, by simpa [Value.cells] using h⟩
  subst hl
  exact ⟨A, c, l, rfl, rfl, h4⟩
theorem open_cal {fuel : Nat} {cs : List Value} {x : DataW H × List MemPlace} (h : DataW.trod enc Try.prog w 0 spare held fuel 25 cs = some x) :
    ∃ (a : Ca) (A B : Option Addr) (c m : Nat), cs = [.int .i64 a.off, .slice A a.wk.length c, .slice B a.cl.length m] ∧ CaR w (fun k => k < w.heap.size) a A B ∧ -9223372036854775808 ≤ a.off ∧ a.off ≤ 9223372036854775807 := by
  obtain ⟨ys, n, _, _, hlen, hyl, hf⟩ := DataW.trod_struct Try.underlying25 h
  rw [show Try.prog.cellsOf 25 = 3 from by kernel_rfl] at hlen
  match cs, hlen, ys, hyl with
  | [c0, c1, c2], _, [y0, y1, y2], _ =>
    have k0 := hf 0 _ rfl; have k1 := hf 1 _ rfl; have k2 := hf 2 _ rfl
    have z0 : Try.prog.cellsOf 2 = 1 := by kernel_rfl
    have z3 : Try.prog.cellsOf 23 = 1 := by kernel_rfl
    simp [z0, z3] at k0 k1 k2
    obtain ⟨n0, e0, o0⟩ := elem_i64c Try.underlying2 k0
    obtain ⟨A, c, l, rfl, q1⟩ := field_spans k1
    obtain ⟨B, m, l2, rfl, q2⟩ := field_spans k2
    injection e0 with e0 _
    subst e0
    exact ⟨⟨n0, l, l2⟩, A, B, c, m, rfl, ⟨q1, q2⟩, o0⟩
end
end Go.Proofs.Ytcblbjhhlnmkjaa
end
