/- A calendar among the arguments, opened. A contract among the arguments (ArgsT without ChB: never import both). -/
import Derived.Test.YtlcefchbfjfifaaGreatVArgs
import Derived.Test.YtlcefchbfjfifaaGreatVCalK
import Derived.Test.YtlcefchbfjfifaaGreatVChA
section
namespace Go.Proofs.YtlcefchbfjfifaaGreat
open Go.RowKit Go.ChangeShapes Go.WideShapes Go.ChangeAt Go.Deep Cal
set_option maxHeartbeats 4000000
set_option maxRecDepth 100000
set_option linter.unusedVariables false
section
variable {H : Type} {enc : TypeId × Value → H} {w : World} {spare : Nat → Bool} {held : Bool}
theorem elem_i64c {P : Program} {e : TypeId} (he : P.underlying e = some (.int .i64)) {fuel : Nat} {cs : List Value} {x : DataW H × List MemPlace} (h : DataW.trod enc P w 0 spare held fuel e cs = some x) : ∃ n : Int, cs = [.int .i64 n] ∧ -9223372036854775808 ≤ n ∧ n ≤ 9223372036854775807 := by
  obtain ⟨n, rfl, _, hw⟩ := DataW.trod_int he h
  simp [Lit.wf, IntKind.min, IntKind.max, IntKind.signed, IntKind.bits] at hw
  exact ⟨n, rfl, by omega⟩
theorem elem_span {fuel : Nat} {cs : List Value} {x : DataW H × List MemPlace} (h : DataW.trod enc Tryz.prog w 0 spare held fuel 92 cs = some x) : ∃ s : Sp, cs = spC s ∧ True := by
  obtain ⟨ys, n, _, _, hlen, hyl, hf⟩ := DataW.trod_struct Tryz.underlying92 h
  rw [show Tryz.prog.cellsOf 92 = 2 from by kernel_rfl] at hlen
  match cs, hlen, ys, hyl with
  | [c0, c1], _, [y0, y1], _ =>
    have k0 := hf 0 _ rfl; have k1 := hf 1 _ rfl
    have z2 : Tryz.prog.cellsOf 2 = 1 := by kernel_rfl
    simp [z2] at k0 k1
    obtain ⟨n0, e0, o0⟩ := elem_i64c Tryz.underlying2 k0
    obtain ⟨n1, e1, o1⟩ := elem_i64c Tryz.underlying2 k1
    injection e0 with e0 _; injection e1 with e1 _
    subst e0 e1
    exact ⟨⟨n0, n1⟩, rfl, trivial⟩
/-- A field that is a row of spans. -/
theorem field_spans {fuel : Nat} {v : Value} {x : DataW H × List MemPlace} (h : DataW.trod enc Tryz.prog w 0 spare held fuel 49 [v] = some x) :
    ∃ A c, ∃ l : List Sp, v = .slice A l.length c ∧ SpR w (fun k => k < w.heap.size) A l.length l := by
  have hv : ∃ A n c, v = .slice A n c := by
    rcases open_slice Tryz.underlying49 h with ⟨hcs, _⟩ | ⟨a, len, cap, m, k, D, Pl, hcs, _⟩
    · injection hcs with hcs _; exact ⟨_, _, _, hcs⟩
    · injection hcs with hcs _; exact ⟨_, _, _, hcs⟩
  obtain ⟨A, n, c, rfl⟩ := hv
  obtain ⟨l, hl, ho, -, h1, h2, h3, h4⟩ := open_list spC (fun _ => True) (H := H) (enc := enc) (P := Tryz.prog) (w := w) (spare := spare) (held := held) (d := x.1) (ps := x.2) Tryz.underlying49 (sz := 2) (by kernel_rfl) (by decide) (fun _ _ _ hx => elem_span hx) A n c rfl ⟨fuel, by simpa [Value.cells] using h⟩
  subst hl
  exact ⟨A, c, l, rfl, rfl, h4⟩
theorem open_cal {fuel : Nat} {cs : List Value} {x : DataW H × List MemPlace} (h : DataW.trod enc Tryz.prog w 0 spare held fuel 51 cs = some x) :
    ∃ (a : Ca) (A B : Option Addr) (c m : Nat), cs = [.int .i64 a.off, .slice A a.wk.length c, .slice B a.cl.length m] ∧ CaR w (fun k => k < w.heap.size) a A B ∧ -9223372036854775808 ≤ a.off ∧ a.off ≤ 9223372036854775807 := by
  obtain ⟨ys, n, _, _, hlen, hyl, hf⟩ := DataW.trod_struct Tryz.underlying51 h
  rw [show Tryz.prog.cellsOf 51 = 3 from by kernel_rfl] at hlen
  match cs, hlen, ys, hyl with
  | [c0, c1, c2], _, [y0, y1, y2], _ =>
    have k0 := hf 0 _ rfl; have k1 := hf 1 _ rfl; have k2 := hf 2 _ rfl
    have z0 : Tryz.prog.cellsOf 2 = 1 := by kernel_rfl
    have z3 : Tryz.prog.cellsOf 49 = 1 := by kernel_rfl
    simp [z0, z3] at k0 k1 k2
    obtain ⟨n0, e0, o0⟩ := elem_i64c Tryz.underlying2 k0
    obtain ⟨A, c, l, rfl, q1⟩ := field_spans k1
    obtain ⟨B, m, l2, rfl, q2⟩ := field_spans k2
    injection e0 with e0 _
    subst e0
    exact ⟨⟨n0, l, l2⟩, A, B, c, m, rfl, ⟨q1, q2⟩, o0⟩
end
end Go.Proofs.YtlcefchbfjfifaaGreat
end

section
namespace Go.Proofs.YtlcefchbfjfifaaGreat
open Go.RowKit Go.ChangeShapes Go.WideShapes Go.ChangeAt Go.Deep Cal
set_option maxHeartbeats 4000000
set_option maxRecDepth 100000
set_option linter.unusedVariables false
section
variable {H : Type} {enc : TypeId × Value → H} {w : World} {spare : Nat → Bool} {held : Bool}
theorem elem_level {fuel : Nat} {cs : List Value} {x : DataW H × List MemPlace} (h : DataW.trod enc Tryz.prog w 0 spare held fuel 68 cs = some x) : ∃ s : Sp, cs = spC s ∧ True := by
  obtain ⟨ys, n, _, _, hlen, hyl, hf⟩ := DataW.trod_struct Tryz.underlying68 h
  rw [show Tryz.prog.cellsOf 68 = 2 from by kernel_rfl] at hlen
  match cs, hlen, ys, hyl with
  | [c0, c1], _, [y0, y1], _ =>
    have k0 := hf 0 _ rfl; have k1 := hf 1 _ rfl
    have z2 : Tryz.prog.cellsOf 2 = 1 := by kernel_rfl
    have z3 : Tryz.prog.cellsOf 3 = 1 := by kernel_rfl
    simp [z2, z3] at k0 k1
    obtain ⟨n0, e0, o0⟩ := elem_i64c Tryz.underlying2 k0
    obtain ⟨n1, e1, o1⟩ := elem_i64c Tryz.underlying3 k1
    injection e0 with e0 _; injection e1 with e1 _
    subst e0 e1
    exact ⟨⟨n0, n1⟩, rfl, trivial⟩
/-- A field that is a row of levels. -/
theorem field_levels {fuel : Nat} {v : Value} {x : DataW H × List MemPlace} (h : DataW.trod enc Tryz.prog w 0 spare held fuel 22 [v] = some x) :
    ∃ A c, ∃ l : List Sp, v = .slice A l.length c ∧ SpR w (fun k => k < w.heap.size) A l.length l ∧ l.length ≤ c ∧ c ≤ maxLen := by
  have hv : ∃ A n c, v = .slice A n c := by
    rcases open_slice Tryz.underlying22 h with ⟨hcs, _⟩ | ⟨a, len, cap, m, k, D, Pl, hcs, _⟩
    · injection hcs with hcs _; exact ⟨_, _, _, hcs⟩
    · injection hcs with hcs _; exact ⟨_, _, _, hcs⟩
  obtain ⟨A, n, c, rfl⟩ := hv
  obtain ⟨l, hl, ho, -, h1, h2, h3, h4⟩ := open_list spC (fun _ => True) (H := H) (enc := enc) (P := Tryz.prog) (w := w) (spare := spare) (held := held) (d := x.1) (ps := x.2) Tryz.underlying22 (sz := 2) (by kernel_rfl) (by decide) (fun _ _ _ hx => elem_level hx) A n c rfl ⟨fuel, by simpa [Value.cells] using h⟩
  subst hl
  exact ⟨A, c, l, rfl, ⟨rfl, h4⟩, h2, h3⟩
theorem open_con {fuel : Nat} {cs : List Value} {x : DataW H × List MemPlace} (h : DataW.trod enc Tryz.prog w 0 spare held fuel 24 cs = some x) :
    ∃ (a : Co) (A : Option Addr) (c : Nat), cs = [.int .i64 a.cal, .slice A a.lv.length c, .int .i64 a.rt, .int .i64 a.bk] ∧ SpR w (fun k => k < w.heap.size) A a.lv.length a.lv ∧ a.lv.length ≤ c ∧ c ≤ maxLen := by
  obtain ⟨ys, n, _, _, hlen, hyl, hf⟩ := DataW.trod_struct Tryz.underlying24 h
  rw [show Tryz.prog.cellsOf 24 = 4 from by kernel_rfl] at hlen
  match cs, hlen, ys, hyl with
  | [c0, c1, c2, c3], _, [y0, y1, y2, y3], _ =>
    have k0 := hf 0 _ rfl; have k1 := hf 1 _ rfl; have k2 := hf 2 _ rfl; have k3 := hf 3 _ rfl
    have z0 : Tryz.prog.cellsOf 2 = 1 := by kernel_rfl
    have z1 : Tryz.prog.cellsOf 3 = 1 := by kernel_rfl
    have z3 : Tryz.prog.cellsOf 22 = 1 := by kernel_rfl
    simp [z0, z1, z3] at k0 k1 k2 k3
    obtain ⟨n0, e0, o0⟩ := elem_i64c Tryz.underlying3 k0
    obtain ⟨A, c, l, rfl, q1⟩ := field_levels k1
    obtain ⟨n2, e2, o2⟩ := elem_i64c Tryz.underlying3 k2
    obtain ⟨n3, e3, o3⟩ := elem_i64c Tryz.underlying2 k3
    injection e0 with e0 _; injection e2 with e2 _; injection e3 with e3 _
    subst e0 e2 e3
    exact ⟨⟨n0, l, n2, n3⟩, A, c, rfl, q1⟩
end
end Go.Proofs.YtlcefchbfjfifaaGreat
end
