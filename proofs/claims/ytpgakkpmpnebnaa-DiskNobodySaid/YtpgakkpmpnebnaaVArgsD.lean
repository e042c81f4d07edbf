/- Calls on a disk, and tears, among the arguments. -/
import Derived.Test.YtpgakkpmpnebnaaArgs
import Derived.Test.YtpgakkpmpnebnaaVDlA
namespace Go.Proofs.Ytpgakkpmpnebnaa
open Go.RowKit Go.ChangeShapes Go.WideShapes Go.ChangeAt Go.Deep
set_option maxHeartbeats 4000000
set_option maxRecDepth 100000
set_option linter.unusedVariables false
def trOk (t : Tr) : Prop := t.keep < 65536 ∧ t.turn < 4294967296
section
variable {H : Type} {enc : TypeId × Value → H} {w : World} {spare : Nat → Bool} {held : Bool}
theorem elem_i64d {P : Program} {e : TypeId} (he : P.underlying e = some (.int .i64)) {fuel : Nat} {cs : List Value} {x : DataW H × List MemPlace} (h : DataW.trod enc P w 0 spare held fuel e cs = some x) : ∃ n : Int, cs = [.int .i64 n] ∧ -9223372036854775808 ≤ n ∧ n ≤ 9223372036854775807 := by
  obtain ⟨n, rfl, _, hw⟩ := DataW.trod_int he h
  simp [Lit.wf, IntKind.min, IntKind.max, IntKind.signed, IntKind.bits] at hw
  exact ⟨n, rfl, by omega, by omega⟩
theorem elem_u16d {P : Program} {e : TypeId} (he : P.underlying e = some (.int .u16)) {fuel : Nat} {cs : List Value} {x : DataW H × List MemPlace} (h : DataW.trod enc P w 0 spare held fuel e cs = some x) : ∃ n : Nat, cs = [.int .u16 n] ∧ n < 65536 := by
  obtain ⟨n, rfl, _, hw⟩ := DataW.trod_int he h
  simp [Lit.wf, IntKind.min, IntKind.max, IntKind.signed, IntKind.bits] at hw
  exact ⟨n.toNat, by rw [Int.toNat_of_nonneg (by omega)], by omega⟩
theorem elem_u32d {P : Program} {e : TypeId} (he : P.underlying e = some (.int .u32)) {fuel : Nat} {cs : List Value} {x : DataW H × List MemPlace} (h : DataW.trod enc P w 0 spare held fuel e cs = some x) : ∃ n : Nat, cs = [.int .u32 n] ∧ n < 4294967296 := by
  obtain ⟨n, rfl, _, hw⟩ := DataW.trod_int he h
  simp [Lit.wf, IntKind.min, IntKind.max, IntKind.signed, IntKind.bits] at hw
  exact ⟨n.toNat, by rw [Int.toNat_of_nonneg (by omega)], by omega⟩
theorem elem_strd {P : Program} {e : TypeId} (he : P.underlying e = some .string) {fuel : Nat} {cs : List Value} {x : DataW H × List MemPlace} (h : DataW.trod enc P w 0 spare held fuel e cs = some x) : ∃ l : List UInt8, cs = [St l] := by
  obtain ⟨s, rfl, -, -⟩ := DataW.trod_string he h
  exact ⟨s.data.toList, by cases s; simp [St]⟩
theorem elem_tr {fuel : Nat} {cs : List Value} {x : DataW H × List MemPlace} (h : DataW.trod enc Try.prog w 0 spare held fuel 132 cs = some x) : ∃ t : Tr, cs = trC t ∧ trOk t := by
  obtain ⟨ys, n, _, _, hlen, hyl, hf⟩ := DataW.trod_struct Try.underlying132 h
  rw [show Try.prog.cellsOf 132 = 2 from by kernel_rfl] at hlen
  match cs, hlen, ys, hyl with
  | [c0, c1], _, [y0, y1], _ =>
    have k0 := hf 0 _ rfl; have k1 := hf 1 _ rfl
    have z0 : Try.prog.cellsOf 129 = 1 := by kernel_rfl
    have z1 : Try.prog.cellsOf 130 = 1 := by kernel_rfl
    simp [z0, z1] at k0 k1
    obtain ⟨n0, e0, o0⟩ := elem_u16d Try.underlying129 k0
    obtain ⟨n1, e1, o1⟩ := elem_u32d Try.underlying130 k1
    injection e0 with e0 _; injection e1 with e1 _
    subst e0 e1
    exact ⟨⟨n0, n1⟩, rfl, o0, o1⟩
theorem field_trs {fuel : Nat} {v : Value} {x : DataW H × List MemPlace} (h : DataW.trod enc Try.prog w 0 spare held fuel 69 [v] = some x) :
    ∃ A c, ∃ l : List Tr, v = .slice A l.length c ∧ (∀ t ∈ l, trOk t) ∧ l.length ≤ c ∧ c ≤ maxLen ∧ TrR w (fun k => k < w.heap.size) A l.length l := by
  have ht := Try.underlying69
  have hv : ∃ A n c, v = .slice A n c := by
    rcases open_slice ht h with ⟨hcs, _⟩ | ⟨a, len, cap, m, k, D, Pl, hcs, _⟩
    · injection hcs with hcs _; exact ⟨_, _, _, hcs⟩
    · injection hcs with hcs _; exact ⟨_, _, _, hcs⟩
  obtain ⟨A, n, c, rfl⟩ := hv
  obtain ⟨l, hl, ho, -, -, h2, h3, h4⟩ := open_list (H := H) (enc := enc) (P := Try.prog) (w := w) (spare := spare) (held := held) (d := x.1) (ps := x.2) trC trOk ht (sz := 2) (by kernel_rfl) (by decide) (fun _ _ _ hx => elem_tr hx) A n c rfl ⟨fuel, by simpa [Value.cells] using h⟩
  subst hl
  exact ⟨A, c, l, rfl, ho, h2, h3, rfl, h4⟩
def Op23.okA (w : World) (o : Op23) : Prop := o.ok w (fun k => k < w.heap.size)
theorem elem_op23 {fuel : Nat} {cs : List Value} {x : DataW H × List MemPlace} (h : DataW.trod enc Try.prog w 0 spare held fuel 71 cs = some x) : ∃ o : Op23, cs = o.cells ∧ o.okA w := by
  obtain ⟨ys, n, _, _, hlen, hyl, hf⟩ := DataW.trod_struct Try.underlying71 h
  rw [show Try.prog.cellsOf 71 = 6 from by kernel_rfl] at hlen
  match cs, hlen, ys, hyl with
  | [c0, c1, c2, c3, c4, c5], _, [y0, y1, y2, y3, y4, y5], _ =>
    have k0 := hf 0 _ rfl; have k1 := hf 1 _ rfl; have k2 := hf 2 _ rfl; have k3 := hf 3 _ rfl; have k4 := hf 4 _ rfl; have k5 := hf 5 _ rfl
    have z0 : Try.prog.cellsOf 3 = 1 := by kernel_rfl
    have z1 : Try.prog.cellsOf 9 = 1 := by kernel_rfl
    have z2 : Try.prog.cellsOf 69 = 1 := by kernel_rfl
    simp [z0, z1, z2] at k0 k1 k2 k3 k4 k5
    obtain ⟨n0, e0, -⟩ := elem_i64d Try.underlying3 k0
    obtain ⟨n1, e1, o1, o1'⟩ := elem_i64d Try.underlying3 k1
    obtain ⟨n2, e2⟩ := elem_strd Try.underlying9 k2
    obtain ⟨n3, e3⟩ := elem_strd Try.underlying9 k3
    obtain ⟨n4, e4⟩ := elem_strd Try.underlying9 k4
    obtain ⟨A, c, l, e5, o5, q2, q3, q4⟩ := field_trs k5
    injection e0 with e0 _; injection e1 with e1 _; injection e2 with e2 _; injection e3 with e3 _; injection e4 with e4 _
    subst e0 e1 e2 e3 e4 e5
    exact ⟨⟨n0, n1, n2, n3, n4, l, A, c⟩, rfl, o1', o5, q2, q3, q4⟩
end
end Go.Proofs.Ytpgakkpmpnebnaa
