/- Calls on a table of sessions, among the arguments. -/
import Derived.Test.YtmgmjehebbggaaaArgsR
namespace Go.Proofs.Ytmgmjehebbggaaa
open Go.RowKit Go.ChangeShapes Go.WideShapes Go.ChangeAt Go.Deep
set_option maxHeartbeats 4000000
set_option maxRecDepth 100000
set_option linter.unusedVariables false
structure SOpV where
  kind : Int
  client : Nat
  req : Nat
  a : RpV
  A : Option Addr
  c : Nat
def SOpV.cells (o : SOpV) : List Value := [.int .i64 o.kind, .int .u64 o.client, .int .u64 o.req, .int .i64 o.a.code, .int .i64 o.a.time, .int .u64 o.a.t.id, .int .i64 o.a.t.contract, .int .i64 o.a.t.state, .int .i64 o.a.t.level, .int .u64 o.a.t.gen, .int .i64 o.a.t.from_, .int .i64 o.a.t.left, .int .i64 o.a.t.due, .int .i64 o.a.t.told, .slice o.A o.a.fired.length o.c, .int .u64 o.a.notice, .int .i64 o.a.dead]
def SOpV.ok (w : World) (o : SOpV) : Prop := o.client < 18446744073709551616 ∧ o.req < 18446744073709551616 ∧ o.a.okp ∧ o.a.fired.length ≤ 9223372036854775807 ∧ Rd w (fun k => k < w.heap.size) o.A o.a.fired.length (o.a.fired.map U64)
section
variable {H : Type} {enc : TypeId × Value → H} {w : World} {spare : Nat → Bool} {held : Bool}
theorem elem_sop {fuel : Nat} {cs : List Value} {x : DataW H × List MemPlace} (h : DataW.trod enc Try.prog w 0 spare held fuel 37 cs = some x) : ∃ o : SOpV, cs = o.cells ∧ o.ok w := by
  obtain ⟨ys, n, _, _, hlen, hyl, hf⟩ := DataW.trod_struct Try.underlying37 h
  rw [show Try.prog.cellsOf 37 = 17 from by kernel_rfl] at hlen
  match cs, hlen, ys, hyl with
  | [c0, c1, c2, c3, c4, c5, c6, c7, c8, c9, c10, c11, c12, c13, c14, c15, c16], _, [y0, y1, y2, y3], _ =>
    have k0 := hf 0 _ rfl; have k1 := hf 1 _ rfl; have k2 := hf 2 _ rfl; have k3 := hf 3 _ rfl
    have z0 : Try.prog.cellsOf 3 = 1 := by kernel_rfl
    have z1 : Try.prog.cellsOf 29 = 1 := by kernel_rfl
    have z2 : Try.prog.cellsOf 35 = 14 := by kernel_rfl
    simp [z0, z1, z2] at k0 k1 k2 k3
    obtain ⟨n0, e0, o0⟩ := elem_i64 Try.underlying3 k0
    obtain ⟨n1, e1, o1⟩ := elem_u64 Try.underlying29 k1
    obtain ⟨n2, e2, o2⟩ := elem_u64 Try.underlying29 k2
    obtain ⟨a, A, c, e3, o3, q1, q2, q3, q4⟩ := open_reply k3
    injection e0 with e0 _; injection e1 with e1 _; injection e2 with e2 _
    simp only [List.cons.injEq, and_true] at e3
    obtain ⟨rfl, rfl, rfl, rfl, rfl, rfl, rfl, rfl, rfl, rfl, rfl, rfl, rfl, rfl⟩ := e3
    subst e0 e1 e2
    exact ⟨⟨n0, n1, n2, a, A, c⟩, rfl, o1, o2, o3, (show a.fired.length ≤ 9223372036854775807 by unfold maxLen at q3; omega), q4⟩
end
end Go.Proofs.Ytmgmjehebbggaaa
