/- ticket.Ahead. (written by gentkg.py) A calendar among the arguments, opened. A contract, a step among the arguments, opened. -/
import Derived.Test.YtcblbjhhlnmkjaaVTkF
import Derived.Test.YtcblbjhhlnmkjaaVTkD
import Derived.Test.YtcblbjhhlnmkjaaVRepB
import Derived.Test.YtcblbjhhlnmkjaaVCalX
import Derived.Test.YtcblbjhhlnmkjaaArgs
import Derived.Test.YtcblbjhhlnmkjaaCalD
import Derived.Test.YtcblbjhhlnmkjaaVChB
section
namespace Go.Proofs.Ytcblbjhhlnmkjaa
open Go.RowKit Cal
set_option maxHeartbeats 4000000
set_option maxRecDepth 100000
set_option linter.unusedVariables false
attribute [local irreducible] wpPlan

theorem tahead_any (t : TkV) (t2 : Co) (A : Option Addr) (n : Nat) (w : World) (h0 : 0 ≤ t.level) (h1 : t.level < 1000) (h2 : t2.lv.length ≤ 1000) :
    Calls Try.prog 55 #[.agg #[.int .u64 t.id, .int .i64 t.contract, .int .i64 t.state, .int .i64 t.level, .int .u64 t.gen, .int .i64 t.from_, .int .i64 t.left, .int .i64 t.due, .int .i64 t.told], .agg #[.int .i64 t2.cal, .slice A t2.lv.length n, .int .i64 t2.rt, .int .i64 t2.bk]] w fun e w' => e = .returned (.int .i64 (aheadV t t2)) ∧ Touch (fun _ => False) w w' := by
  obtain ⟨id, con, st, lev, gen, fr, le, du, to_⟩ := t
  simp only at h0 h1 ⊢
  have h3 : ¬ lev < 0 := by omega
  have hw : IntKind.i64.wrap ((t2.lv.length : Int) - lev) = (t2.lv.length : Int) - lev := IntWalk.i64_in _ (by omega)
  obtain ⟨v, hv⟩ : ∃ v, v = aheadV ⟨id, con, st, lev, gen, fr, le, du, to_⟩ t2 := ⟨_, rfl⟩
  rw [← hv]
  obtain ⟨mx, hmx⟩ : ∃ mx, max ((t2.lv.length : Int) - lev) 0 = mx := ⟨_, rfl⟩
  by_cases s1 : st = 1
  · subst s1
    have HV := Lib.hid (show v = mx by rw [hv, aheadV, if_neg (by simp; omega)]; exact hmx)
    clear hv
    have HT := Lib.hid (((Touch.refl (fun _ => False) w).alloc (.cells #[.int .u64 id, .int .i64 con, .int .i64 1, .int .i64 lev, .int .u64 gen, .int .i64 fr, .int .i64 le, .int .i64 du, .int .i64 to_] 74)).alloc (.cells #[.int .i64 t2.cal, .slice A t2.lv.length n, .int .i64 t2.rt, .int .i64 t2.bk] 28))
    go_enter Try.func55, Try.ntmps55
    go_wp2
    go_ret
    exact ⟨ret_int HV.out.symm, HT.out⟩
  by_cases s2 : st = 2
  · subst s2
    have HV := Lib.hid (show v = mx by rw [hv, aheadV, if_neg (by simp; omega)]; exact hmx)
    clear hv
    have HT := Lib.hid (((Touch.refl (fun _ => False) w).alloc (.cells #[.int .u64 id, .int .i64 con, .int .i64 2, .int .i64 lev, .int .u64 gen, .int .i64 fr, .int .i64 le, .int .i64 du, .int .i64 to_] 74)).alloc (.cells #[.int .i64 t2.cal, .slice A t2.lv.length n, .int .i64 t2.rt, .int .i64 t2.bk] 28))
    go_enter Try.func55, Try.ntmps55
    go_wp2
    go_ret
    exact ⟨ret_int HV.out.symm, HT.out⟩
  · have HV := Lib.hid (show v = 0 by rw [hv, aheadV, if_pos (.inl ⟨s1, s2⟩)])
    clear hv
    have b1 : (st != 1) = true := by simpa using s1
    have b2 : (st != 2) = true := by simpa using s2
    clear s1 s2
    have HT := Lib.hid (((Touch.refl (fun _ => False) w).alloc (.cells #[.int .u64 id, .int .i64 con, .int .i64 st, .int .i64 lev, .int .u64 gen, .int .i64 fr, .int .i64 le, .int .i64 du, .int .i64 to_] 74)).alloc (.cells #[.int .i64 t2.cal, .slice A t2.lv.length n, .int .i64 t2.rt, .int .i64 t2.bk] 28))
    go_enter Try.func55, Try.ntmps55
    go_wp2
    go_ret
    exact ⟨ret_int HV.out.symm, HT.out⟩
end Go.Proofs.Ytcblbjhhlnmkjaa
end

section
namespace Go.Proofs.Ytcblbjhhlnmkjaa
open Go.RowKit Go.ChangeShapes Go.WideShapes Go.ChangeAt Go.Deep Cal
set_option maxHeartbeats 4000000
set_option maxRecDepth 100000
set_option linter.unusedVariables false
section
variable {H : Type} {enc : TypeId × Value → H} {w : World} {spare : Nat → Bool} {held : Bool}
theorem elem_i64c {P : Program} {e : TypeId} (he : P.underlying e = some (.int .i64)) {fuel : Nat} {cs : List Value} {x : DataW H × List MemPlace} (h : DataW.trod enc P w 0 spare held fuel e cs = some x) : ∃ n : Int, cs = [.int .i64 n] ∧ -9223372036854775808 ≤ n ∧ n ≤ 9223372036854775807 := by
  obtain ⟨n, rfl, _, hw⟩ := DataW.trod_int he h
  simp [Lit.wf, IntKind.min, IntKind.max, IntKind.signed, IntKind.bits] at hw
  exact ⟨n, rfl, by omega⟩
theorem elem_span {fuel : Nat} {cs : List Value} {x : DataW H × List MemPlace} (h : DataW.trod enc Try.prog w 0 spare held fuel 165 cs = some x) : ∃ s : Sp, cs = spC s ∧ True := by
  obtain ⟨ys, n, _, _, hlen, hyl, hf⟩ := DataW.trod_struct Try.underlying165 h
  rw [show Try.prog.cellsOf 165 = 2 from by kernel_rfl] at hlen
  match cs, hlen, ys, hyl with
  | [c0, c1], _, [y0, y1], _ =>
    have k0 := hf 0 _ rfl; have k1 := hf 1 _ rfl
    have z2 : Try.prog.cellsOf 2 = 1 := by kernel_rfl
    simp [z2] at k0 k1
    obtain ⟨n0, e0, o0⟩ := elem_i64c Try.underlying2 k0
    obtain ⟨n1, e1, o1⟩ := elem_i64c Try.underlying2 k1
    injection e0 with e0 _; injection e1 with e1 _
    subst e0 e1
    exact ⟨⟨n0, n1⟩, rfl, trivial⟩
/-- A field that is a row of spans. -/
theorem field_spans {fuel : Nat} {v : Value} {x : DataW H × List MemPlace} (h : DataW.trod enc Try.prog w 0 spare held fuel 23 [v] = some x) :
    ∃ A c, ∃ l : List Sp, v = .slice A l.length c ∧ SpR w (fun k => k < w.heap.size) A l.length l := by
  have hv : ∃ A n c, v = .slice A n c := by
    rcases open_slice Try.underlying23 h with ⟨hcs, _⟩ | ⟨a, len, cap, m, k, D, Pl, hcs, _⟩
    · injection hcs with hcs _; exact ⟨_, _, _, hcs⟩
    · injection hcs with hcs _; exact ⟨_, _, _, hcs⟩
  obtain ⟨A, n, c, rfl⟩ := hv
  obtain ⟨l, hl, ho, -, h1, h2, h3, h4⟩ := open_list spC (fun _ => True) (H := H) (enc := enc) (P := Try.prog) (w := w) (spare := spare) (held := held) (d := x.1) (ps := x.2) Try.underlying23 (sz := 2) (by kernel_rfl) (by decide) (fun _ _ _ hx => elem_span hx) A n c rfl ⟨fuel, by simpa [Value.cells] using h⟩
  subst hl
  exact ⟨A, c, l, rfl, rfl, h4⟩
theorem open_cal {fuel : Nat} {cs : List Value} {x : DataW H × List MemPlace} (h : DataW.trod enc Try.prog w 0 spare held fuel 25 cs = some x) :
    ∃ (a : Ca) (A B : Option Addr) (c m : Nat), cs = [.int .i64 a.off, .slice A a.wk.length c, .slice B a.cl.length m] ∧ CaR w (fun k => k < w.heap.size) a A B ∧ -9223372036854775808 ≤ a.off ∧ a.off ≤ 9223372036854775807 := by
  obtain ⟨ys, n, _, _, hlen, hyl, hf⟩ := DataW.trod_struct Try.underlying25 h
  rw [show Try.prog.cellsOf 25 = 3 from by kernel_rfl] at hlen
  match cs, hlen, ys, hyl with
  | [c0, c1, c2], _, [y0, y1, y2], _ =>
    have k0 := hf 0 _ rfl; have k1 := hf 1 _ rfl; have k2 := hf 2 _ rfl
    have z0 : Try.prog.cellsOf 2 = 1 := by kernel_rfl
    have z3 : Try.prog.cellsOf 23 = 1 := by kernel_rfl
    simp [z0, z3] at k0 k1 k2
    obtain ⟨n0, e0, o0⟩ := elem_i64c Try.underlying2 k0
    obtain ⟨A, c, l, rfl, q1⟩ := field_spans k1
    obtain ⟨B, m, l2, rfl, q2⟩ := field_spans k2
    injection e0 with e0 _
    subst e0
    exact ⟨⟨n0, l, l2⟩, A, B, c, m, rfl, ⟨q1, q2⟩, o0⟩
end
end Go.Proofs.Ytcblbjhhlnmkjaa
end

section
namespace Go.Proofs.Ytcblbjhhlnmkjaa
open Go.RowKit Go.ChangeShapes Go.WideShapes Go.ChangeAt Go.Deep Cal
set_option maxHeartbeats 4000000
set_option maxRecDepth 100000
set_option linter.unusedVariables false
section
variable {H : Type} {enc : TypeId × Value → H} {w : World} {spare : Nat → Bool} {held : Bool}
theorem elem_level {fuel : Nat} {cs : List Value} {x : DataW H × List MemPlace} (h : DataW.trod enc Try.prog w 0 spare held fuel 153 cs = some x) : ∃ s : Sp, cs = spC s ∧ True := by
  obtain ⟨ys, n, _, _, hlen, hyl, hf⟩ := DataW.trod_struct Try.underlying153 h
  rw [show Try.prog.cellsOf 153 = 2 from by kernel_rfl] at hlen
  match cs, hlen, ys, hyl with
  | [c0, c1], _, [y0, y1], _ =>
    have k0 := hf 0 _ rfl; have k1 := hf 1 _ rfl
    have z2 : Try.prog.cellsOf 2 = 1 := by kernel_rfl
    have z3 : Try.prog.cellsOf 3 = 1 := by kernel_rfl
    simp [z2, z3] at k0 k1
    obtain ⟨n0, e0, o0⟩ := elem_i64c Try.underlying2 k0
    obtain ⟨n1, e1, o1⟩ := elem_i64c Try.underlying3 k1
    injection e0 with e0 _; injection e1 with e1 _
    subst e0 e1
    exact ⟨⟨n0, n1⟩, rfl, trivial⟩
/-- A field that is a row of levels. -/
theorem field_levels {fuel : Nat} {v : Value} {x : DataW H × List MemPlace} (h : DataW.trod enc Try.prog w 0 spare held fuel 26 [v] = some x) :
    ∃ A c, ∃ l : List Sp, v = .slice A l.length c ∧ SpR w (fun k => k < w.heap.size) A l.length l ∧ l.length ≤ c ∧ c ≤ maxLen := by
  have hv : ∃ A n c, v = .slice A n c := by
    rcases open_slice Try.underlying26 h with ⟨hcs, _⟩ | ⟨a, len, cap, m, k, D, Pl, hcs, _⟩
    · injection hcs with hcs _; exact ⟨_, _, _, hcs⟩
    · injection hcs with hcs _; exact ⟨_, _, _, hcs⟩
  obtain ⟨A, n, c, rfl⟩ := hv
  obtain ⟨l, hl, ho, -, h1, h2, h3, h4⟩ := open_list spC (fun _ => True) (H := H) (enc := enc) (P := Try.prog) (w := w) (spare := spare) (held := held) (d := x.1) (ps := x.2) Try.underlying26 (sz := 2) (by kernel_rfl) (by decide) (fun _ _ _ hx => elem_level hx) A n c rfl ⟨fuel, by simpa [Value.cells] using h⟩
  subst hl
  exact ⟨A, c, l, rfl, ⟨rfl, h4⟩, h2, h3⟩
theorem open_con {fuel : Nat} {cs : List Value} {x : DataW H × List MemPlace} (h : DataW.trod enc Try.prog w 0 spare held fuel 28 cs = some x) :
    ∃ (a : Co) (A : Option Addr) (c : Nat), cs = [.int .i64 a.cal, .slice A a.lv.length c, .int .i64 a.rt, .int .i64 a.bk] ∧ SpR w (fun k => k < w.heap.size) A a.lv.length a.lv ∧ a.lv.length ≤ c ∧ c ≤ maxLen := by
  obtain ⟨ys, n, _, _, hlen, hyl, hf⟩ := DataW.trod_struct Try.underlying28 h
  rw [show Try.prog.cellsOf 28 = 4 from by kernel_rfl] at hlen
  match cs, hlen, ys, hyl with
  | [c0, c1, c2, c3], _, [y0, y1, y2, y3], _ =>
    have k0 := hf 0 _ rfl; have k1 := hf 1 _ rfl; have k2 := hf 2 _ rfl; have k3 := hf 3 _ rfl
    have z0 : Try.prog.cellsOf 2 = 1 := by kernel_rfl
    have z1 : Try.prog.cellsOf 3 = 1 := by kernel_rfl
    have z3 : Try.prog.cellsOf 26 = 1 := by kernel_rfl
    simp [z0, z1, z3] at k0 k1 k2 k3
    obtain ⟨n0, e0, o0⟩ := elem_i64c Try.underlying3 k0
    obtain ⟨A, c, l, rfl, q1⟩ := field_levels k1
    obtain ⟨n2, e2, o2⟩ := elem_i64c Try.underlying3 k2
    obtain ⟨n3, e3, o3⟩ := elem_i64c Try.underlying2 k3
    injection e0 with e0 _; injection e2 with e2 _; injection e3 with e3 _
    subst e0 e2 e3
    exact ⟨⟨n0, l, n2, n3⟩, A, c, rfl, q1⟩
def stC (s : St) : List Value := [.int .i64 s.lv, .int .i64 s.fr, .int .i64 s.le, .int .i64 s.du]
def St.in64 (s : St) : Prop := (-9223372036854775808 ≤ s.lv ∧ s.lv ≤ 9223372036854775807) ∧ (-9223372036854775808 ≤ s.fr ∧ s.fr ≤ 9223372036854775807) ∧ (-9223372036854775808 ≤ s.le ∧ s.le ≤ 9223372036854775807) ∧ (-9223372036854775808 ≤ s.du ∧ s.du ≤ 9223372036854775807)
theorem open_step {fuel : Nat} {cs : List Value} {x : DataW H × List MemPlace} (h : DataW.trod enc Try.prog w 0 spare held fuel 48 cs = some x) :
    ∃ s : St, cs = stC s ∧ s.in64 := by
  obtain ⟨ys, n, _, _, hlen, hyl, hf⟩ := DataW.trod_struct Try.underlying48 h
  rw [show Try.prog.cellsOf 48 = 4 from by kernel_rfl] at hlen
  match cs, hlen, ys, hyl with
  | [c0, c1, c2, c3], _, [y0, y1, y2, y3], _ =>
    have k0 := hf 0 _ rfl; have k1 := hf 1 _ rfl; have k2 := hf 2 _ rfl; have k3 := hf 3 _ rfl
    have z0 : Try.prog.cellsOf 2 = 1 := by kernel_rfl
    have z1 : Try.prog.cellsOf 3 = 1 := by kernel_rfl
    simp [z0, z1] at k0 k1 k2 k3
    obtain ⟨n0, e0, o0⟩ := elem_i64c Try.underlying3 k0
    obtain ⟨n1, e1, o1⟩ := elem_i64c Try.underlying2 k1
    obtain ⟨n2, e2, o2⟩ := elem_i64c Try.underlying2 k2
    obtain ⟨n3, e3, o3⟩ := elem_i64c Try.underlying2 k3
    injection e0 with e0 _; injection e1 with e1 _; injection e2 with e2 _; injection e3 with e3 _
    subst e0 e1 e2 e3
    exact ⟨⟨n0, n1, n2, n3⟩, rfl, o0, o1, o2, o3⟩
end
end Go.Proofs.Ytcblbjhhlnmkjaa
end
