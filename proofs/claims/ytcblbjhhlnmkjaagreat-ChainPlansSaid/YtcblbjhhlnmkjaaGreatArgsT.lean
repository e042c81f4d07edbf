/- A contract, a step among the arguments, opened. -/
import Derived.Test.YtcblbjhhlnmkjaaGreatArgsC
import Derived.Test.YtcblbjhhlnmkjaaGreatChB
namespace Go.Proofs.YtcblbjhhlnmkjaaGreat
open Go.RowKit Go.ChangeShapes Go.WideShapes Go.ChangeAt Go.Deep Cal
set_option maxHeartbeats 4000000
set_option maxRecDepth 100000
set_option linter.unusedVariables false
section
variable {H : Type} {enc : TypeId × Value → H} {w : World} {spare : Nat → Bool} {held : Bool}
theorem elem_level {fuel : Nat} {cs : List Value} {x : DataW H × List MemPlace} (h : DataW.trod enc Tryz.prog w 0 spare held fuel 42 cs = some x) : ∃ s : Sp, cs = spC s ∧ True := by
  obtain ⟨ys, n, _, _, hlen, hyl, hf⟩ := DataW.trod_struct Tryz.underlying42 h
  rw [show Tryz.prog.cellsOf 42 = 2 from by kernel_rfl] at hlen
  match cs, hlen, ys, hyl with
  | [c0, c1], _, [y0, y1], _ =>
    have k0 := hf 0 _ rfl; have k1 := hf 1 _ rfl
    have z2 : Tryz.prog.cellsOf 2 = 1 := by kernel_rfl
    have z3 : Tryz.prog.cellsOf 3 = 1 := by kernel_rfl
    simp [z2, z3] at k0 k1
    obtain ⟨n0, e0, o0⟩ := elem_i64c Tryz.underlying2 k0
    obtain ⟨n1, e1, o1⟩ := elem_i64c Tryz.underlying3 k1
    injection e0 with e0 _; injection e1 with e1 _
    subst e0 e1
    exact ⟨⟨n0, n1⟩, rfl, trivial⟩
/-- A field that is a row of levels. -/
theorem field_levels {fuel : Nat} {v : Value} {x : DataW H × List MemPlace} (h : DataW.trod enc Tryz.prog w 0 spare held fuel 25 [v] = some x) :
    ∃ A c, ∃ l : List Sp, v = .slice A l.length c ∧ SpR w (fun k => k < w.heap.size) A l.length l ∧ l.length ≤ c ∧ c ≤ maxLen := by
  have hv : ∃ A n c, v = .slice A n c := by
    rcases open_slice Tryz.underlying25 h with ⟨hcs, _⟩ | ⟨a, len, cap, m, k, D, Pl, hcs, _⟩
    · injection hcs with hcs _; exact ⟨_, _, _, hcs⟩
    · injection hcs with hcs _; exact ⟨_, _, _, hcs⟩
  obtain ⟨A, n, c, rfl⟩ := hv
  obtain ⟨l, hl, ho, -, h1, h2, h3, h4⟩ := open_list spC (fun _ => True) (H := H) (enc := enc) (P := Tryz.prog) (w := w) (spare := spare) (held := held) (d := x.1) (ps := x.2) Tryz.underlying25 (sz := 2) (by kernel_rfl) (by decide) (fun _ _ _ hx => elem_level hx) A n c rfl ⟨fuel, by simpa [Value.cells] using h⟩
  subst hl
  exact ⟨A, c, l, rfl, ⟨rfl, h4⟩, h2, h3⟩
theorem open_con {fuel : Nat} {cs : List Value} {x : DataW H × List MemPlace} (h : DataW.trod enc Tryz.prog w 0 spare held fuel 27 cs = some x) :
    ∃ (a : Co) (A : Option Addr) (c : Nat), cs = [.int .i64 a.cal, .slice A a.lv.length c, .int .i64 a.rt, .int .i64 a.bk] ∧ SpR w (fun k => k < w.heap.size) A a.lv.length a.lv ∧ a.lv.length ≤ c ∧ c ≤ maxLen := by
  obtain ⟨ys, n, _, _, hlen, hyl, hf⟩ := DataW.trod_struct Tryz.underlying27 h
  rw [show Tryz.prog.cellsOf 27 = 4 from by kernel_rfl] at hlen
  match cs, hlen, ys, hyl with
  | [c0, c1, c2, c3], _, [y0, y1, y2, y3], _ =>
    have k0 := hf 0 _ rfl; have k1 := hf 1 _ rfl; have k2 := hf 2 _ rfl; have k3 := hf 3 _ rfl
    have z0 : Tryz.prog.cellsOf 2 = 1 := by kernel_rfl
    have z1 : Tryz.prog.cellsOf 3 = 1 := by kernel_rfl
    have z3 : Tryz.prog.cellsOf 25 = 1 := by kernel_rfl
    simp [z0, z1, z3] at k0 k1 k2 k3
    obtain ⟨n0, e0, o0⟩ := elem_i64c Tryz.underlying3 k0
    obtain ⟨A, c, l, rfl, q1⟩ := field_levels k1
    obtain ⟨n2, e2, o2⟩ := elem_i64c Tryz.underlying3 k2
    obtain ⟨n3, e3, o3⟩ := elem_i64c Tryz.underlying2 k3
    injection e0 with e0 _; injection e2 with e2 _; injection e3 with e3 _
    subst e0 e2 e3
    exact ⟨⟨n0, l, n2, n3⟩, A, c, rfl, q1⟩
def stC (s : St) : List Value := [.int .i64 s.lv, .int .i64 s.fr, .int .i64 s.le, .int .i64 s.du]
def St.in64 (s : St) : Prop := (-9223372036854775808 ≤ s.lv ∧ s.lv ≤ 9223372036854775807) ∧ (-9223372036854775808 ≤ s.fr ∧ s.fr ≤ 9223372036854775807) ∧ (-9223372036854775808 ≤ s.le ∧ s.le ≤ 9223372036854775807) ∧ (-9223372036854775808 ≤ s.du ∧ s.du ≤ 9223372036854775807)
theorem open_step {fuel : Nat} {cs : List Value} {x : DataW H × List MemPlace} (h : DataW.trod enc Tryz.prog w 0 spare held fuel 46 cs = some x) :
    ∃ s : St, cs = stC s ∧ s.in64 := by
  obtain ⟨ys, n, _, _, hlen, hyl, hf⟩ := DataW.trod_struct Tryz.underlying46 h
  rw [show Tryz.prog.cellsOf 46 = 4 from by kernel_rfl] at hlen
  match cs, hlen, ys, hyl with
  | [c0, c1, c2, c3], _, [y0, y1, y2, y3], _ =>
    have k0 := hf 0 _ rfl; have k1 := hf 1 _ rfl; have k2 := hf 2 _ rfl; have k3 := hf 3 _ rfl
    have z0 : Tryz.prog.cellsOf 2 = 1 := by kernel_rfl
    have z1 : Tryz.prog.cellsOf 3 = 1 := by kernel_rfl
    simp [z0, z1] at k0 k1 k2 k3
    obtain ⟨n0, e0, o0⟩ := elem_i64c Tryz.underlying3 k0
    obtain ⟨n1, e1, o1⟩ := elem_i64c Tryz.underlying2 k1
    obtain ⟨n2, e2, o2⟩ := elem_i64c Tryz.underlying2 k2
    obtain ⟨n3, e3, o3⟩ := elem_i64c Tryz.underlying2 k3
    injection e0 with e0 _; injection e1 with e1 _; injection e2 with e2 _; injection e3 with e3 _
    subst e0 e1 e2 e3
    exact ⟨⟨n0, n1, n2, n3⟩, rfl, o0, o1, o2, o3⟩
end
end Go.Proofs.YtcblbjhhlnmkjaaGreat
