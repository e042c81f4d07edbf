/- A contract, a step among the arguments, opened. A command among the arguments, opened. law18.Light, law18.lives. (written by gencdl.py) -/
import Derived.Test.YtcblbjhhlnmkjaaVArgsC
import Derived.Test.YtcblbjhhlnmkjaaVChB
import Derived.Test.YtcblbjhhlnmkjaaVCcA
import Derived.Test.YtcblbjhhlnmkjaaVCdH
import Derived.Test.YtcblbjhhlnmkjaaVCdJ
import Derived.Test.YtcblbjhhlnmkjaaVCdK
section
namespace Go.Proofs.Ytcblbjhhlnmkjaa
open Go.RowKit Go.ChangeShapes Go.WideShapes Go.ChangeAt Go.Deep Cal
set_option maxHeartbeats 4000000
set_option maxRecDepth 100000
set_option linter.unusedVariables false
section
variable {H : Type} {enc : TypeId × Value → H} {w : World} {spare : Nat → Bool} {held : Bool}
theorem elem_level {fuel : Nat} {cs : List Value} {x : DataW H × List MemPlace} (h : DataW.trod enc Try.prog w 0 spare held fuel 153 cs = some x) : ∃ s : Sp, cs = spC s ∧ True := by
  obtain ⟨ys, n, _, _, hlen, hyl, hf⟩ := DataW.trod_struct Try.underlying153 h
  rw [show Try.prog.cellsOf 153 = 2 from by kernel_rfl] at hlen
  match cs, hlen, ys, hyl with
  | [c0, c1], _, [y0, y1], _ =>
    have k0 := hf 0 _ rfl; have k1 := hf 1 _ rfl
    have z2 : Try.prog.cellsOf 2 = 1 := by kernel_rfl
    have z3 : Try.prog.cellsOf 3 = 1 := by kernel_rfl
    simp [z2, z3] at k0 k1
    obtain ⟨n0, e0, o0⟩ := elem_i64c Try.underlying2 k0
    obtain ⟨n1, e1, o1⟩ := elem_i64c Try.underlying3 k1
    injection e0 with e0 _; injection e1 with e1 _
    subst e0 e1
    exact ⟨⟨n0, n1⟩, rfl, trivial⟩
/-- A field that is a row of levels. -/
theorem field_levels {fuel : Nat} {v : Value} {x : DataW H × List MemPlace} (h : DataW.trod enc Try.prog w 0 spare held fuel 26 [v] = some x) :
    ∃ A c, ∃ l : List Sp, v = .slice A l.length c ∧ SpR w (fun k => k < w.heap.size) A l.length l ∧ l.length ≤ c ∧ c ≤ maxLen := by
  have hv : ∃ A n c, v = .slice A n c := by
    rcases open_slice Try.underlying26 h with ⟨hcs, _⟩ | ⟨a, len, cap, m, k, D, Pl, hcs, _⟩
    · injection hcs with hcs _; exact ⟨_, _, _, hcs⟩
    · injection hcs with hcs _; exact ⟨_, _, _, hcs⟩
  obtain ⟨A, n, c, rfl⟩ := hv
  obtain ⟨l, hl, ho, -, h1, h2, h3, h4⟩ := open_list spC (fun _ => True) (H := H) (enc := enc) (P := Try.prog) (w := w) (spare := spare) (held := held) (d := x.1) (ps := x.2) Try.underlying26 (sz := 2) (by kernel_rfl) (by decide) (fun _ _ _ hx => elem_level hx) A n c rfl ⟨fuel, by simpa [Value.cells] using h⟩
  subst hl
  exact ⟨A, c, l, rfl, ⟨rfl, h4⟩, h2, h3⟩
theorem open_con {fuel : Nat} {cs : List Value} {x : DataW H × List MemPlace} (h : DataW.trod enc Try.prog w 0 spare held fuel 28 cs = some x) :
    ∃ (a : Co) (A : Option Addr) (c : Nat), cs = [.int .i64 a.cal, .slice A a.lv.length c, .int .i64 a.rt, .int .i64 a.bk] ∧ SpR w (fun k => k < w.heap.size) A a.lv.length a.lv ∧ a.lv.length ≤ c ∧ c ≤ maxLen := by
  obtain ⟨ys, n, _, _, hlen, hyl, hf⟩ := DataW.trod_struct Try.underlying28 h
  rw [show Try.prog.cellsOf 28 = 4 from by kernel_rfl] at hlen
  match cs, hlen, ys, hyl with
  | [c0, c1, c2, c3], _, [y0, y1, y2, y3], _ =>
    have k0 := hf 0 _ rfl; have k1 := hf 1 _ rfl; have k2 := hf 2 _ rfl; have k3 := hf 3 _ rfl
    have z0 : Try.prog.cellsOf 2 = 1 := by kernel_rfl
    have z1 : Try.prog.cellsOf 3 = 1 := by kernel_rfl
    have z3 : Try.prog.cellsOf 26 = 1 := by kernel_rfl
    simp [z0, z1, z3] at k0 k1 k2 k3
    obtain ⟨n0, e0, o0⟩ := elem_i64c Try.underlying3 k0
    obtain ⟨A, c, l, rfl, q1⟩ := field_levels k1
    obtain ⟨n2, e2, o2⟩ := elem_i64c Try.underlying3 k2
    obtain ⟨n3, e3, o3⟩ := elem_i64c Try.underlying2 k3
    injection e0 with e0 _; injection e2 with e2 _; injection e3 with e3 _
    subst e0 e2 e3
    exact ⟨⟨n0, l, n2, n3⟩, A, c, rfl, q1⟩
def stC (s : St) : List Value := [.int .i64 s.lv, .int .i64 s.fr, .int .i64 s.le, .int .i64 s.du]
def St.in64 (s : St) : Prop := (-9223372036854775808 ≤ s.lv ∧ s.lv ≤ 9223372036854775807) ∧ (-9223372036854775808 ≤ s.fr ∧ s.fr ≤ 9223372036854775807) ∧ (-9223372036854775808 ≤ s.le ∧ s.le ≤ 9223372036854775807) ∧ (-9223372036854775808 ≤ s.du ∧ s.du ≤ 9223372036854775807)
theorem open_step {fuel : Nat} {cs : List Value} {x : DataW H × List MemPlace} (h : DataW.trod enc Try.prog w 0 spare held fuel 48 cs = some x) :
    ∃ s : St, cs = stC s ∧ s.in64 := by
  obtain ⟨ys, n, _, _, hlen, hyl, hf⟩ := DataW.trod_struct Try.underlying48 h
  rw [show Try.prog.cellsOf 48 = 4 from by kernel_rfl] at hlen
  match cs, hlen, ys, hyl with
  | [c0, c1, c2, c3], _, [y0, y1, y2, y3], _ =>
    have k0 := hf 0 _ rfl; have k1 := hf 1 _ rfl; have k2 := hf 2 _ rfl; have k3 := hf 3 _ rfl
    have z0 : Try.prog.cellsOf 2 = 1 := by kernel_rfl
    have z1 : Try.prog.cellsOf 3 = 1 := by kernel_rfl
    simp [z0, z1] at k0 k1 k2 k3
    obtain ⟨n0, e0, o0⟩ := elem_i64c Try.underlying3 k0
    obtain ⟨n1, e1, o1⟩ := elem_i64c Try.underlying2 k1
    obtain ⟨n2, e2, o2⟩ := elem_i64c Try.underlying2 k2
    obtain ⟨n3, e3, o3⟩ := elem_i64c Try.underlying2 k3
    injection e0 with e0 _; injection e1 with e1 _; injection e2 with e2 _; injection e3 with e3 _
    subst e0 e1 e2 e3
    exact ⟨⟨n0, n1, n2, n3⟩, rfl, o0, o1, o2, o3⟩
end
end Go.Proofs.Ytcblbjhhlnmkjaa
end

section
namespace Go.Proofs.Ytcblbjhhlnmkjaa
open Go.RowKit Go.ChangeShapes Go.WideShapes Go.ChangeAt Go.Deep Cal
set_option maxHeartbeats 4000000
set_option maxRecDepth 100000
set_option linter.unusedVariables false
section
variable {H : Type} {enc : TypeId × Value → H} {w : World} {spare : Nat → Bool} {held : Bool}
theorem elem_u64m {P : Program} {e : TypeId} (he : P.underlying e = some (.int .u64)) {fuel : Nat} {cs : List Value} {x : DataW H × List MemPlace} (h : DataW.trod enc P w 0 spare held fuel e cs = some x) : ∃ n : Nat, cs = [.int .u64 n] ∧ n < 18446744073709551616 := by
  obtain ⟨n, rfl, _, hw⟩ := DataW.trod_int he h
  simp [Lit.wf, IntKind.min, IntKind.max, IntKind.signed, IntKind.bits] at hw
  exact ⟨n.toNat, by rw [Int.toNat_of_nonneg (by omega)], by omega⟩
/-- Its numbers are those of their types. -/
def Cm.in64 (c : Cm) : Prop := (-9223372036854775808 ≤ c.at_ ∧ c.at_ ≤ 9223372036854775807) ∧ (-9223372036854775808 ≤ c.cal.off ∧ c.cal.off ≤ 9223372036854775807) ∧ (c.req < 256 ^ 8 ∧ c.id < 256 ^ 8)
theorem open_cmd {fuel : Nat} {cs : List Value} {x : DataW H × List MemPlace} (h : DataW.trod enc Try.prog w 0 spare held fuel 30 cs = some x) :
    ∃ (a : Cm) (A B D : Option Addr) (k m n : Nat), cs = [.int .i64 a.kind, .int .u64 a.client, .int .u64 a.req, .int .u64 a.id, .int .i64 a.con, .int .i64 a.at_, .int .i64 a.cal.off, .slice A a.cal.wk.length k, .slice B a.cal.cl.length m, .int .i64 a.tm.cal, .slice D a.tm.lv.length n, .int .i64 a.tm.rt, .int .i64 a.tm.bk] ∧
      CmR w (fun k => k < w.heap.size) a A B D ∧ a.in64 := by
  obtain ⟨ys, n, _, _, hlen, hyl, hf⟩ := DataW.trod_struct Try.underlying30 h
  rw [show Try.prog.cellsOf 30 = 13 from by kernel_rfl] at hlen
  match cs, hlen, ys, hyl with
  | [c0, c1, c2, c3, c4, c5, c6, c7, c8, c9, c10, c11, c12], _, [y0, y1, y2, y3, y4, y5, y6, y7], _ =>
    have k0 := hf 0 _ rfl; have k1 := hf 1 _ rfl; have k2 := hf 2 _ rfl; have k3 := hf 3 _ rfl; have k4 := hf 4 _ rfl; have k5 := hf 5 _ rfl; have k6 := hf 6 _ rfl; have k7 := hf 7 _ rfl
    have z0 : Try.prog.cellsOf 3 = 1 := by kernel_rfl
    have z1 : Try.prog.cellsOf 22 = 1 := by kernel_rfl
    have z2 : Try.prog.cellsOf 2 = 1 := by kernel_rfl
    have z3 : Try.prog.cellsOf 25 = 3 := by kernel_rfl
    have z4 : Try.prog.cellsOf 28 = 4 := by kernel_rfl
    simp [z0, z1, z2, z3, z4] at k0 k1 k2 k3 k4 k5 k6 k7
    obtain ⟨n0, e0, o0⟩ := elem_i64c Try.underlying3 k0
    obtain ⟨n1, e1, o1⟩ := elem_u64m Try.underlying22 k1
    obtain ⟨n2, e2, o2⟩ := elem_u64m Try.underlying22 k2
    obtain ⟨n3, e3, o3⟩ := elem_u64m Try.underlying22 k3
    obtain ⟨n4, e4, o4⟩ := elem_i64c Try.underlying3 k4
    obtain ⟨n5, e5, o5⟩ := elem_i64c Try.underlying2 k5
    obtain ⟨ca, A, B, kk, mm, e6, r6, o6⟩ := open_cal k6
    obtain ⟨tm, D, nn, e7, r7, -⟩ := open_con k7
    injection e0 with e0 _; injection e1 with e1 _; injection e2 with e2 _; injection e3 with e3 _; injection e4 with e4 _; injection e5 with e5 _
    subst e0 e1 e2 e3 e4 e5
    simp only [List.cons.injEq, and_true] at e6 e7
    obtain ⟨rfl, rfl, rfl⟩ := e6
    obtain ⟨rfl, rfl, rfl, rfl⟩ := e7
    exact ⟨⟨n0, n1, n2, n3, n4, n5, ca, tm⟩, A, B, D, kk, mm, nn, rfl, ⟨r6, r7⟩, o5, o6, by omega, by omega⟩
end
end Go.Proofs.Ytcblbjhhlnmkjaa
end

section
namespace Go.Proofs.Ytcblbjhhlnmkjaa
open Go.RowKit Cal
set_option maxHeartbeats 4000000
set_option maxRecDepth 100000
set_option linter.unusedVariables false
attribute [local irreducible] wpPlan

/-- Not more than is looked at here. -/
def lightC (c : Cm) : Bool := (decide (c.cal.wk.length ≤ 60) && decide (c.cal.cl.length ≤ 60)) && decide (c.tm.lv.length ≤ 60)
theorem lightC_in {c : Cm} (h : lightC c = true) : c.cal.wk.length ≤ 60 ∧ c.cal.cl.length ≤ 60 ∧ c.tm.lv.length ≤ 60 := by
  simp only [lightC, Bool.and_eq_true, decide_eq_true_eq] at h; exact ⟨h.1.1, h.1.2, h.2⟩
theorem light18_any (A B D : Option Addr) (k m n : Nat) (c : Cm) (w : World) : Calls Try.prog 12 #[.agg #[.int .i64 c.kind, .int .u64 c.client, .int .u64 c.req, .int .u64 c.id, .int .i64 c.con, .int .i64 c.at_, .int .i64 c.cal.off, .slice A c.cal.wk.length k, .slice B c.cal.cl.length m, .int .i64 c.tm.cal, .slice D c.tm.lv.length n, .int .i64 c.tm.rt, .int .i64 c.tm.bk]] w fun e w' => e = .returned (.bool (lightC c)) ∧ Touch (fun _ => False) w w' := by
  have HT0 := Lib.hid ((Touch.refl (fun _ => False) w).alloc (.cells #[.int .i64 c.kind, .int .u64 c.client, .int .u64 c.req, .int .u64 c.id, .int .i64 c.con, .int .i64 c.at_, .int .i64 c.cal.off, .slice A c.cal.wk.length k, .slice B c.cal.cl.length m, .int .i64 c.tm.cal, .slice D c.tm.lv.length n, .int .i64 c.tm.rt, .int .i64 c.tm.bk] 30))
  have HB0 := Lib.hid (Blk.new w 30 #[.int .i64 c.kind, .int .u64 c.client, .int .u64 c.req, .int .u64 c.id, .int .i64 c.con, .int .i64 c.at_, .int .i64 c.cal.off, .slice A c.cal.wk.length k, .slice B c.cal.cl.length m, .int .i64 c.tm.cal, .slice D c.tm.lv.length n, .int .i64 c.tm.rt, .int .i64 c.tm.bk])
  have HL := Lib.hid (fun w1 => light10_any A B k m c.cal.wk.length c.cal.cl.length c.cal.off w1)
  have HV := Lib.hid (show lightC c = ((decide (c.cal.wk.length ≤ 60) && decide (c.cal.cl.length ≤ 60)) && decide ((c.tm.lv.length : Int) ≤ 60)) by unfold lightC; congr 1; simp; omega)
  generalize lightC c = v at *
  generalize (decide (c.cal.wk.length ≤ 60) && decide (c.cal.cl.length ≤ 60)) = v1 at *
  cases v1
  · go_enter Try.func12, Try.ntmps12
    go_wp2_with (go_at_call 48; go_must (refine (HL.out _).mono ?_); rintro e w1 ⟨rfl, t1⟩; have HT1 := Lib.hid (HT0.out.trans t1 (fun _ _ e => e)); clear t1)
    go_ret
    exact ⟨ret_bool (by rw [HV.out]; rfl), HT1.out⟩
  · go_enter Try.func12, Try.ntmps12
    go_wp2_with (go_at_call 48; go_must (refine (HL.out _).mono ?_); rintro e w1 ⟨rfl, t1⟩; have HT1 := Lib.hid (HT0.out.trans t1 (fun _ _ e => e)); have hb := t1.blk HB0.out (fun e => e); have q10 := hb.cell 10; simp at q10; clear t1 hb)
    go_ret
    exact ⟨ret_bool (by rw [HV.out, Bool.true_and]), HT1.out⟩
def cmL : Cm := ⟨1, 1, 2, 0, 0, 0, caZ, coZ⟩
theorem lv_sound : cmSound cmL = true := by decide +kernel
theorem lv_enc : encC cmL = [1, 1, 1, 1, 1, 2] := by decide +kernel
theorem lv_bytes : bytesC cmL = [1, 1, 1, 1, 1, 2] := by rw [bytesC, lv_sound, lv_enc]; rfl
theorem lv_bytesE : bytesCE cmL = 0 := by rw [bytesCE, lv_sound]; rfl
theorem lv_read : rdAns [1, 1, 1, 1, 1, 2] = (cmL, 0) := by
  have h := rdAns_back lv_sound ⟨by decide, by decide⟩ ⟨by decide, by decide⟩
  rw [lv_enc] at h; exact h
theorem Rd.nearM {w : World} {F : Nat → Prop} {A : Option Addr} {n : Nat} {xs : List Value} (h : Rd w F A n xs) : Rd w (fun k => F k ∧ k < w.heap.size) A n xs :=
  ⟨h.1, fun hn => by obtain ⟨g, off, e, hl, hf, hc⟩ := h.2 hn; exact ⟨g, off, e, hl, ⟨hf, hl⟩, hc⟩⟩
theorem lives18_any (w : World) : Calls Try.prog 13 #[] w fun e w' => e = .returned (.bool true) ∧ Touch (fun _ => False) w w' := by
  have HB := Lib.hid (show Calls Try.prog 14 #[.agg #[.int .i64 1, .int .u64 1, .int .u64 2, .int .u64 0, .int .i64 0, .int .i64 0, .int .i64 0, .slice none 0 0, .slice none 0 0, .int .i64 0, .slice none 0 0, .int .i64 0, .int .i64 0]] w (CbPost cmL w) from cmbytes_any (fun _ => False) none none none 0 0 0 cmL w (CmR.mk (CaR.zero _ _) (SpR.zero _ _)) (fun _ e => e.elim) (Nat.zero_le _) (Nat.zero_le _) (Nat.zero_le _) ⟨by decide, by decide⟩ ⟨by decide, by decide⟩ ⟨by decide, by decide⟩)
  unfold CbPost at HB
  rw [lv_bytes, lv_bytesE] at HB
  rw [show ([1, 1, 1, 1, 1, 2] : List UInt8).length = 6 from rfl] at HB
  have hbin : ∀ w', (binOp .eql 9 (.string ⟨([1, 1, 1, 1, 1, 2] : List UInt8).toArray⟩) (.string ⟨#[1, 1, 1, 1, 1, 2]⟩)).run Try.prog w' = .ok (.bool true) w' := fun _ => by kernel_rfl
  have HBin := Lib.hid hbin
  clear hbin
  go_enter Try.func13, Try.ntmps13
  go_wp2_with fail
  refine HB.out.mono ?_
  rintro e w1 ⟨A, cap, rfl, hr, h1, h2, t1⟩
  have HR1 := Lib.hid hr.nearM
  have HT1 := Lib.hid t1
  have HRd := Lib.hid (show Calls Try.prog 16 #[.slice A 6 cap] w1 (CmPost [1, 1, 1, 1, 1, 2] w1) from cmread_any _ A cap [1, 1, 1, 1, 1, 2] w1 hr.nearM (fun k hk => hk.2) h1 h2)
  unfold CmPost at HRd
  rw [lv_read] at HRd
  clear hr h1 h2 t1
  go_wp2_with fail
  refine HRd.out.mono ?_
  rintro e w2 ⟨A2, B2, D2, k2, m2, n2, rfl, -, t2⟩
  have HT2 := Lib.hid (HT1.out.trans t2 (fun _ _ e => e))
  have HR2 := Lib.hid (HR1.out.touch t2 (fun _ _ e => e))
  clear t2
  simp only [cmL, caZ, coZ, List.length_nil]
  have hst : (convert 33 9 (.slice A 6 cap)).run Try.prog _ = .ok (.string ⟨([1, 1, 1, 1, 1, 2] : List UInt8).toArray⟩) _ := Rd.str (HR2.out.touch ((Touch.refl (fun _ => False) w2).alloc (.cells #[.int .i64 1, .int .u64 1, .int .u64 2, .int .u64 0, .int .i64 0, .int .i64 0, .int .i64 0, .slice A2 0 k2, .slice B2 0 m2, .int .i64 0, .slice D2 0 n2, .int .i64 0, .int .i64 0] 30)) (fun _ _ e => e)) cap
  have hbin := HBin.out
  go_wp2
  go_ret
  exact ⟨rfl, HT2.out.alloc _⟩
end Go.Proofs.Ytcblbjhhlnmkjaa
end
