/- law20.bytes. A reply among the arguments, opened. Calls on a table of sessions, among the arguments. -/
import Derived.Test.YtmgmjehebbggaaaVSesT
import Derived.Test.YtmgmjehebbggaaaArgs
import Derived.Test.YtmgmjehebbggaaaVRepQ
section
namespace Go.Proofs.Ytmgmjehebbggaaa
open Go.RowKit Go.Maps
set_option maxHeartbeats 4000000
set_option maxRecDepth 100000
set_option linter.unusedVariables false

theorem encS_len {s : SesS} (hg : SesGood s) (ok : SesOk s) : (encS s).length ≤ 8200 := by
  rw [encS, List.length_append]
  have := rowsB_len hg ok 8 (by omega)
  have := encN_len 0 (cntB s 8)
  omega
def strS (s : SesS) : Value := .string ⟨(encS s).toArray⟩
theorem bytes20_any (g b : Nat) (s : SesS) (F : Nat → Prop) (w : World) (h : SesAt w g b s F) (hg : SesGood s) :
    Calls Try.prog 16 #[.pointer (some ⟨g, 0, none⟩)] w fun e w' => e = .returned (strS s) ∧ Touch (fun _ => False) w w' := by
  have hbl := h.map.choose_spec.1.lt
  have hgl := h.blk.lt
  have HT0 := Lib.hid ((Touch.refl (fun _ => False) w).alloc (.cells #[.slice none 0 0] 80))
  have HW0 := Lib.hid (show WAt (w.alloc (.cells #[.slice none 0 0] 80)) w.heap.size none [] from ⟨by simp, _, Blk.new w 80 #[.slice none 0 0], Own.nil _ _ _⟩)
  have HP := Lib.hid (sput_any g b w.heap.size none [] s _ _ (h.lt_.touch HT0.out (fun e => e) (fun e => e) (fun _ _ e => e)) hg HW0.out ⟨by omega, by simp⟩ ⟨by omega, by simp⟩ (fun k hk _ => ⟨by have := hk.2; omega, by simp⟩) (by simp))
  have hl := encS_len hg h.ok
  have HE := Lib.hid (show strS s = .string ⟨(encS s).toArray⟩ from rfl)
  rw [List.nil_append] at HP
  generalize strS s = V at *
  generalize encS s = E at *
  clear h hg
  go_enter Try.func16, Try.ntmps16
  go_wp2_with (first
    | (go_at_call 33; go_must (refine HP.out.mono ?_); rintro e w1 ⟨rfl, r1, hw1, t1, hf1⟩; have HW1 := Lib.hid hw1; have HT1 := Lib.hid (HT0.out.trans t1 (fun k hk e => by rcases e with e | e; omega; cases e)); clear hw1 t1 hf1)
    | (go_at_call 34
       go_must (refine (wbytes_any w.heap.size r1 E _ (by exact HW1.out) (by omega)).mono ?_)
       rintro e w2 ⟨A2, c2, rfl, u2, m2, hr2, t2⟩
       simp only [List.length_map] at u2 hr2 ⊢
       have hst := Rd.str hr2 c2
       have HT2 := Lib.hid (HT1.out.trans t2 (fun _ _ e => e))
       clear u2 m2 hr2 t2))
  go_ret
  exact ⟨by rw [HE.out]; first | rfl | (trace_state; rfl), HT2.out⟩
end Go.Proofs.Ytmgmjehebbggaaa
end

section
namespace Go.Proofs.Ytmgmjehebbggaaa
open Go.RowKit Go.ChangeShapes Go.WideShapes Go.ChangeAt Go.Deep
set_option maxHeartbeats 4000000
set_option maxRecDepth 100000
set_option linter.unusedVariables false
section
variable {H : Type} {enc : TypeId × Value → H} {w : World} {spare : Nat → Bool} {held : Bool}
theorem elem_u64 {P : Program} {e : TypeId} (he : P.underlying e = some (.int .u64)) {fuel : Nat} {cs : List Value} {x : DataW H × List MemPlace} (h : DataW.trod enc P w 0 spare held fuel e cs = some x) : ∃ n : Nat, cs = [U64 n] ∧ n < 18446744073709551616 := by
  obtain ⟨n, rfl, _, hw⟩ := DataW.trod_int he h
  simp [Lit.wf, IntKind.min, IntKind.max, IntKind.signed, IntKind.bits] at hw
  exact ⟨n.toNat, by rw [U64, Int.toNat_of_nonneg (by omega)], by omega⟩
theorem elem_i64 {P : Program} {e : TypeId} (he : P.underlying e = some (.int .i64)) {fuel : Nat} {cs : List Value} {x : DataW H × List MemPlace} (h : DataW.trod enc P w 0 spare held fuel e cs = some x) : ∃ n : Int, cs = [.int .i64 n] ∧ -9223372036854775808 ≤ n ∧ n ≤ 9223372036854775807 := by
  obtain ⟨n, rfl, _, hw⟩ := DataW.trod_int he h
  simp [Lit.wf, IntKind.min, IntKind.max, IntKind.signed, IntKind.bits] at hw
  exact ⟨n, rfl, by omega⟩
/-- A field that is a row of numbers. -/
theorem field_u64s {P : Program} {t e : TypeId} (ht : P.underlying t = some (.slice e)) (he : P.underlying e = some (.int .u64)) (hsz : P.cellsOf e = 1) {fuel : Nat} {v : Value} {x : DataW H × List MemPlace} (h : DataW.trod enc P w 0 spare held fuel t [v] = some x) :
    ∃ A c, ∃ l : List Nat, v = .slice A l.length c ∧ (∀ n ∈ l, n < 18446744073709551616) ∧ (A = none → c = 0) ∧ l.length ≤ c ∧ c ≤ maxLen ∧ Rd w (fun k => k < w.heap.size) A l.length (l.map U64) := by
  have hv : ∃ A n c, v = .slice A n c := by
    rcases open_slice ht h with ⟨hcs, _⟩ | ⟨a, len, cap, m, k, D, Pl, hcs, _⟩
    · injection hcs with hcs _; exact ⟨_, _, _, hcs⟩
    · injection hcs with hcs _; exact ⟨_, _, _, hcs⟩
  obtain ⟨A, n, c, rfl⟩ := hv
  obtain ⟨l, hl, ho, -, h1, h2, h3, h4⟩ := open_list (fun n => [U64 n]) (fun n => n < 18446744073709551616) (H := H) (enc := enc) (P := P) (w := w) (spare := spare) (held := held) (d := x.1) (ps := x.2) ht hsz (by decide) (fun _ _ _ hx => elem_u64 he hx) A n c rfl ⟨fuel, by simpa [Value.cells] using h⟩
  subst hl
  rw [flat_map1] at h4
  exact ⟨A, c, l, rfl, ho, h1, h2, h3, h4.rd⟩
theorem open_ticket {fuel : Nat} {cs : List Value} {x : DataW H × List MemPlace} (h : DataW.trod enc Try.prog w 0 spare held fuel 32 cs = some x) : ∃ t : TkV, cs = t.cells ∧ t.ok ∧ t.id < 18446744073709551616 := by
  obtain ⟨ys, n, _, _, hlen, hyl, hf⟩ := DataW.trod_struct Try.underlying32 h
  rw [show Try.prog.cellsOf 32 = 9 from by kernel_rfl] at hlen
  match cs, hlen, ys, hyl with
  | [c0, c1, c2, c3, c4, c5, c6, c7, c8], _, [y0, y1, y2, y3, y4, y5, y6, y7, y8], _ =>
    have k0 := hf 0 _ rfl; have k1 := hf 1 _ rfl; have k2 := hf 2 _ rfl; have k3 := hf 3 _ rfl; have k4 := hf 4 _ rfl; have k5 := hf 5 _ rfl; have k6 := hf 6 _ rfl; have k7 := hf 7 _ rfl; have k8 := hf 8 _ rfl
    have z0 : Try.prog.cellsOf 29 = 1 := by kernel_rfl
    have z1 : Try.prog.cellsOf 3 = 1 := by kernel_rfl
    have z2 : Try.prog.cellsOf 2 = 1 := by kernel_rfl
    simp [z0, z1, z2] at k0 k1 k2 k3 k4 k5 k6 k7 k8
    obtain ⟨n0, e0, o0⟩ := elem_u64 Try.underlying29 k0
    obtain ⟨n1, e1, o1⟩ := elem_i64 Try.underlying3 k1
    obtain ⟨n2, e2, o2⟩ := elem_i64 Try.underlying3 k2
    obtain ⟨n3, e3, o3⟩ := elem_i64 Try.underlying3 k3
    obtain ⟨n4, e4, o4⟩ := elem_u64 Try.underlying29 k4
    obtain ⟨n5, e5, o5⟩ := elem_i64 Try.underlying2 k5
    obtain ⟨n6, e6, o6⟩ := elem_i64 Try.underlying2 k6
    obtain ⟨n7, e7, o7⟩ := elem_i64 Try.underlying2 k7
    obtain ⟨n8, e8, o8⟩ := elem_i64 Try.underlying3 k8
    injection e0 with e0 _; injection e1 with e1 _; injection e2 with e2 _; injection e3 with e3 _; injection e4 with e4 _; injection e5 with e5 _; injection e6 with e6 _; injection e7 with e7 _; injection e8 with e8 _
    subst e0 e1 e2 e3 e4 e5 e6 e7 e8
    exact ⟨⟨n0, n1, n2, n3, n4, n5, n6, n7, n8⟩, rfl, ⟨o5.1, o5.2, o6.1, o6.2, o7.1, o7.2⟩, o0⟩
theorem open_reply {fuel : Nat} {cs : List Value} {x : DataW H × List MemPlace} (h : DataW.trod enc Try.prog w 0 spare held fuel 35 cs = some x) :
    ∃ (a : RpV) (A : Option Addr) (c : Nat), cs = [.int .i64 a.code, .int .i64 a.time, .int .u64 a.t.id, .int .i64 a.t.contract, .int .i64 a.t.state, .int .i64 a.t.level, .int .u64 a.t.gen, .int .i64 a.t.from_, .int .i64 a.t.left, .int .i64 a.t.due, .int .i64 a.t.told, .slice A a.fired.length c, .int .u64 a.notice, .int .i64 a.dead] ∧
      a.okp ∧ (A = none → c = 0) ∧ a.fired.length ≤ c ∧ c ≤ maxLen ∧ Rd w (fun k => k < w.heap.size) A a.fired.length (a.fired.map U64) := by
  obtain ⟨ys, n, _, _, hlen, hyl, hf⟩ := DataW.trod_struct Try.underlying35 h
  rw [show Try.prog.cellsOf 35 = 14 from by kernel_rfl] at hlen
  match cs, hlen, ys, hyl with
  | [c0, c1, c2, c3, c4, c5, c6, c7, c8, c9, c10, c11, c12, c13], _, [y0, y1, y2, y3, y4, y5], _ =>
    have k0 := hf 0 _ rfl; have k1 := hf 1 _ rfl; have k2 := hf 2 _ rfl; have k3 := hf 3 _ rfl; have k4 := hf 4 _ rfl; have k5 := hf 5 _ rfl
    have z0 : Try.prog.cellsOf 30 = 1 := by kernel_rfl
    have z1 : Try.prog.cellsOf 2 = 1 := by kernel_rfl
    have z2 : Try.prog.cellsOf 32 = 9 := by kernel_rfl
    have z3 : Try.prog.cellsOf 33 = 1 := by kernel_rfl
    have z4 : Try.prog.cellsOf 29 = 1 := by kernel_rfl
    have z5 : Try.prog.cellsOf 3 = 1 := by kernel_rfl
    simp [z0, z1, z2, z3, z4, z5] at k0 k1 k2 k3 k4 k5
    obtain ⟨n0, e0, o0⟩ := elem_i64 Try.underlying30 k0
    obtain ⟨n1, e1, o1⟩ := elem_i64 Try.underlying2 k1
    obtain ⟨t, e2, o2, o2'⟩ := open_ticket k2
    obtain ⟨A, c, l, rfl, ol, q1, q2, q3, q4⟩ := field_u64s Try.underlying33 Try.underlying29 (by kernel_rfl) k3
    obtain ⟨n4, e4, o4⟩ := elem_u64 Try.underlying29 k4
    obtain ⟨n5, e5, o5⟩ := elem_i64 Try.underlying3 k5
    injection e0 with e0 _; injection e1 with e1 _; injection e4 with e4 _; injection e5 with e5 _
    subst e0 e1 e4 e5
    simp only [TkV.cells, List.cons.injEq, and_true] at e2
    obtain ⟨rfl, rfl, rfl, rfl, rfl, rfl, rfl, rfl, rfl⟩ := e2
    exact ⟨⟨n0, n1, t, l, n4, n5⟩, A, c, rfl, ⟨o2, o2', o4, fun m hm => by have := ol m hm; omega⟩, q1, q2, q3, q4⟩
end
end Go.Proofs.Ytmgmjehebbggaaa
end

section
namespace Go.Proofs.Ytmgmjehebbggaaa
open Go.RowKit Go.ChangeShapes Go.WideShapes Go.ChangeAt Go.Deep
set_option maxHeartbeats 4000000
set_option maxRecDepth 100000
set_option linter.unusedVariables false
structure SOpV where
  kind : Int
  client : Nat
  req : Nat
  a : RpV
  A : Option Addr
  c : Nat
def SOpV.cells (o : SOpV) : List Value := [.int .i64 o.kind, .int .u64 o.client, .int .u64 o.req, .int .i64 o.a.code, .int .i64 o.a.time, .int .u64 o.a.t.id, .int .i64 o.a.t.contract, .int .i64 o.a.t.state, .int .i64 o.a.t.level, .int .u64 o.a.t.gen, .int .i64 o.a.t.from_, .int .i64 o.a.t.left, .int .i64 o.a.t.due, .int .i64 o.a.t.told, .slice o.A o.a.fired.length o.c, .int .u64 o.a.notice, .int .i64 o.a.dead]
def SOpV.ok (w : World) (o : SOpV) : Prop := o.client < 18446744073709551616 ∧ o.req < 18446744073709551616 ∧ o.a.okp ∧ o.a.fired.length ≤ 9223372036854775807 ∧ Rd w (fun k => k < w.heap.size) o.A o.a.fired.length (o.a.fired.map U64)
section
variable {H : Type} {enc : TypeId × Value → H} {w : World} {spare : Nat → Bool} {held : Bool}
theorem elem_sop {fuel : Nat} {cs : List Value} {x : DataW H × List MemPlace} (h : DataW.trod enc Try.prog w 0 spare held fuel 37 cs = some x) : ∃ o : SOpV, cs = o.cells ∧ o.ok w := by
  obtain ⟨ys, n, _, _, hlen, hyl, hf⟩ := DataW.trod_struct Try.underlying37 h
  rw [show Try.prog.cellsOf 37 = 17 from by kernel_rfl] at hlen
  match cs, hlen, ys, hyl with
  | [c0, c1, c2, c3, c4, c5, c6, c7, c8, c9, c10, c11, c12, c13, c14, c15, c16], _, [y0, y1, y2, y3], _ =>
    have k0 := hf 0 _ rfl; have k1 := hf 1 _ rfl; have k2 := hf 2 _ rfl; have k3 := hf 3 _ rfl
    have z0 : Try.prog.cellsOf 3 = 1 := by kernel_rfl
    have z1 : Try.prog.cellsOf 29 = 1 := by kernel_rfl
    have z2 : Try.prog.cellsOf 35 = 14 := by kernel_rfl
    simp [z0, z1, z2] at k0 k1 k2 k3
    obtain ⟨n0, e0, o0⟩ := elem_i64 Try.underlying3 k0
    obtain ⟨n1, e1, o1⟩ := elem_u64 Try.underlying29 k1
    obtain ⟨n2, e2, o2⟩ := elem_u64 Try.underlying29 k2
    obtain ⟨a, A, c, e3, o3, q1, q2, q3, q4⟩ := open_reply k3
    injection e0 with e0 _; injection e1 with e1 _; injection e2 with e2 _
    simp only [List.cons.injEq, and_true] at e3
    obtain ⟨rfl, rfl, rfl, rfl, rfl, rfl, rfl, rfl, rfl, rfl, rfl, rfl, rfl, rfl⟩ := e3
    subst e0 e1 e2
    exact ⟨⟨n0, n1, n2, a, A, c⟩, rfl, o1, o2, o3, (show a.fired.length ≤ 9223372036854775807 by unfold maxLen at q3; omega), q4⟩
end
end Go.Proofs.Ytmgmjehebbggaaa
end
