/- Calls on a table of lines, among the arguments. -/
import Derived.Test.YtpgakkpmpnebnaaArgs
import Derived.Test.YtpgakkpmpnebnaaVMemI
namespace Go.Proofs.Ytpgakkpmpnebnaa
open Go.RowKit Go.ChangeShapes Go.WideShapes Go.ChangeAt Go.Deep
set_option maxHeartbeats 4000000
set_option maxRecDepth 100000
set_option linter.unusedVariables false
structure POpV where
  kind : Int
  node : Int
  n : Nat
  list : List Int
  A : Option Addr
  c : Nat
def POpV.cells (o : POpV) : List Value := [.int .i64 o.kind, .int .i64 o.node, .int .u64 o.n, .slice o.A o.list.length o.c]
def POpV.ok (w : World) (o : POpV) : Prop := (-9223372036854775808 ≤ o.node ∧ o.node ≤ 9223372036854775807) ∧ o.n < 18446744073709551616 ∧ o.list.length ≤ 9223372036854775807 ∧ Rd w (fun k => k < w.heap.size) o.A o.list.length (o.list.map I64)
section
variable {H : Type} {enc : TypeId × Value → H} {w : World} {spare : Nat → Bool} {held : Bool}
theorem bd_u64P {n : Int} (h : (Lit.int .u64 n).wf = true) : 0 ≤ n ∧ n < 18446744073709551616 := by
  simp [Lit.wf, IntKind.min, IntKind.max, IntKind.signed, IntKind.bits] at h; omega
theorem elem_u64P {P : Program} {e : TypeId} (he : P.underlying e = some (.int .u64)) {fuel : Nat} {cs : List Value} {x : DataW H × List MemPlace} (h : DataW.trod enc P w 0 spare held fuel e cs = some x) :
    ∃ c : Nat, cs = [.int .u64 c] ∧ c < 18446744073709551616 := by
  obtain ⟨n, rfl, _, hw⟩ := DataW.trod_int he h
  obtain ⟨h0, h1⟩ := bd_u64P hw
  obtain ⟨m, rfl⟩ := Int.eq_ofNat_of_zero_le h0
  exact ⟨m, rfl, by omega⟩
theorem field_i64s {P : Program} {t e : TypeId} (ht : P.underlying t = some (.slice e)) (he : P.underlying e = some (.int .i64)) (hsz : P.cellsOf e = 1) {fuel : Nat} {v : Value} {x : DataW H × List MemPlace} (h : DataW.trod enc P w 0 spare held fuel t [v] = some x) :
    ∃ A c, ∃ l : List Int, v = .slice A l.length c ∧ (∀ n ∈ l, -9223372036854775808 ≤ n ∧ n ≤ 9223372036854775807) ∧ (A = none → c = 0) ∧ l.length ≤ c ∧ c ≤ maxLen ∧ Rd w (fun k => k < w.heap.size) A l.length (l.map I64) := by
  have hv : ∃ A n c, v = .slice A n c := by
    rcases open_slice ht h with ⟨hcs, _⟩ | ⟨a, len, cap, m, k, D, Pl, hcs, _⟩
    · injection hcs with hcs _; exact ⟨_, _, _, hcs⟩
    · injection hcs with hcs _; exact ⟨_, _, _, hcs⟩
  obtain ⟨A, n, c, rfl⟩ := hv
  obtain ⟨l, hl, ho, h1, h2, h3, h4⟩ := open_i64s (H := H) (enc := enc) (P := P) (w := w) (spare := spare) (held := held) (d := x.1) (ps := x.2) ht he hsz A n c rfl ⟨fuel, by simpa [Value.cells] using h⟩
  subst hl
  exact ⟨A, c, l, rfl, ho, h1, h2, h3, h4⟩
theorem elem_pop {fuel : Nat} {cs : List Value} {x : DataW H × List MemPlace} (h : DataW.trod enc Try.prog w 0 spare held fuel 31 cs = some x) : ∃ o : POpV, cs = o.cells ∧ o.ok w := by
  obtain ⟨ys, n, _, _, hlen, hyl, hf⟩ := DataW.trod_struct Try.underlying31 h
  rw [show Try.prog.cellsOf 31 = 4 from by kernel_rfl] at hlen
  match cs, hlen, ys, hyl with
  | [c0, c1, c2, c3], _, [y0, y1, y2, y3], _ =>
    have k0 := hf 0 _ rfl; have k1 := hf 1 _ rfl; have k2 := hf 2 _ rfl; have k3 := hf 3 _ rfl
    have z0 : Try.prog.cellsOf 3 = 1 := by kernel_rfl
    have z1 : Try.prog.cellsOf 24 = 1 := by kernel_rfl
    have z2 : Try.prog.cellsOf 23 = 1 := by kernel_rfl
    simp [z0, z1, z2] at k0 k1 k2 k3
    obtain ⟨n0, e0, o0⟩ := elem_i64 Try.underlying3 k0
    obtain ⟨n1, e1, o1⟩ := elem_i64 Try.underlying3 k1
    obtain ⟨n2, e2, o2⟩ := elem_u64P Try.underlying24 k2
    obtain ⟨A, c, l, e3, o3, q1, q2, q3, q4⟩ := field_i64s Try.underlying23 Try.underlying3 z0 k3
    injection e0 with e0 _; injection e1 with e1 _; injection e2 with e2 _
    subst e0 e1 e2 e3
    exact ⟨⟨n0, n1, n2, l, A, c⟩, rfl, o1, o2, (show l.length ≤ 9223372036854775807 by unfold maxLen at q3; omega), q4⟩
end
end Go.Proofs.Ytpgakkpmpnebnaa
