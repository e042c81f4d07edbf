/- The statement TicketSoundSaid: the law's walk, put under the given row. No condition. -/
import Derived.Test.YtcblbjhhlnmkjaaRows
import Derived.Test.YtcblbjhhlnmkjaaVTkH
import Derived.ProofKit
import Derived.OpenShut
import Derived.ShutString
import Derived.ChangeOld
import Derived.Below
import Derived.Test.YtcblbjhhlnmkjaaVArgsT
section
namespace Go.Proofs.Ytcblbjhhlnmkjaa
open Go.RowKit Go.ChangeShapes Go.WideShapes Go.ChangeAt Go.Deep Cal
set_option maxHeartbeats 4000000
set_option maxRecDepth 100000
set_option linter.unusedVariables false
section
variable {H : Type} {enc : TypeId × Value → H} {w : World} {spare : Nat → Bool} {held : Bool}
theorem elem_u32k {P : Program} {e : TypeId} (he : P.underlying e = some (.int .u32)) {fuel : Nat} {cs : List Value} {x : DataW H × List MemPlace} (h : DataW.trod enc P w 0 spare held fuel e cs = some x) : ∃ n : Nat, cs = [.int .u32 n] ∧ n < 4294967296 := by
  obtain ⟨n, rfl, _, hw⟩ := DataW.trod_int he h
  simp [Lit.wf, IntKind.min, IntKind.max, IntKind.signed, IntKind.bits] at hw
  exact ⟨n.toNat, by rw [Int.toNat_of_nonneg (by omega)], by omega⟩
theorem elem_act {fuel : Nat} {cs : List Value} {x : DataW H × List MemPlace} (h : DataW.trod enc Try.prog w 0 spare held fuel 98 cs = some x) : ∃ a : Ac, cs = acC a ∧ ((-9223372036854775808 ≤ a.kd ∧ a.kd ≤ 9223372036854775807) ∧ a.wt < 4294967296) := by
  obtain ⟨ys, n, _, _, hlen, hyl, hf⟩ := DataW.trod_struct Try.underlying98 h
  rw [show Try.prog.cellsOf 98 = 2 from by kernel_rfl] at hlen
  match cs, hlen, ys, hyl with
  | [c0, c1], _, [y0, y1], _ =>
    have k0 := hf 0 _ rfl; have k1 := hf 1 _ rfl
    have z1 : Try.prog.cellsOf 3 = 1 := by kernel_rfl
    have z2 : Try.prog.cellsOf 96 = 1 := by kernel_rfl
    simp [z1, z2] at k0 k1
    obtain ⟨n0, e0, o0⟩ := elem_i64c Try.underlying3 k0
    obtain ⟨n1, e1, o1⟩ := elem_u32k Try.underlying96 k1
    injection e0 with e0 _; injection e1 with e1 _
    subst e0 e1
    exact ⟨⟨n0, n1⟩, rfl, o0, o1⟩
end
end Go.Proofs.Ytcblbjhhlnmkjaa
end
namespace Go.Proofs.Ytcblbjhhlnmkjaa.ticketSound
open Go.ChangeShapes Go.WideShapes Go.ChangeAt Go.RowKit Go.Deep
open Go.ChangeMaps (open_string shut_string)
set_option linter.unusedVariables false

theorem own : ownKnob Try.prog.godebug = none := by kernel_rfl
theorem laidOut : laidOutB Try.prog = true := by kernel_rfl

set_option maxRecDepth 100000 in
theorem lifted (os : Os) (started : os.Started) (H : Type) (enc : TypeId × Value → H) :
    ReturnsInHanded {} Try.checked os 11 .any (Rows.ticketSoundSpec.pre6 enc Try.prog Try.f11 Rows.ticketSoundRow.domain false) (Rows.ticketSoundSpec.post enc Try.prog Try.f11 false true false false) := by
  refine returnsInHanded_of_change (C := Try.checked) own started (by kernel_rfl) Try.func11
    (ChangeSpec.witness6 (enc := enc) (C := Try.checked) false ⟨#[], #[.agg #[.int .i64 0, .slice none 0 0, .slice none 0 0], .agg #[.int .i64 0, .slice none 0 0, .int .i64 0, .int .i64 0], .int .i64 0, .slice none 0 0], []⟩ 8 (by kernel_rfl) (by kernel_rfl) (by kernel_rfl) (by kernel_rfl)) ?_
  intro W base args ds gs before hval0 hW hcnd _
  have hval : ∀ (j : Nat) t v, Try.f11.params[j]? = some t → args[j]? = some v → Value.okWide Try.prog W .any base t v := hval0
  have hW' := hW
  obtain ⟨p, q, hA0, hV, rfl, hfz, hnd⟩ := hW
  have hA : DataW.TrodAll enc Try.prog W 0 (fun _ => true) true Try.f11.params.toList args.toList ds p := hA0
  rw [Try.params11] at hA hval
  obtain ⟨v0, vs0, d0, ds0, p0, q0, hargs, rfl, rfl, h0, r0⟩ := trodAll_cons hA
  obtain ⟨v1, vs1, d1, ds1, p1, q1, rfl, rfl, rfl, h1, r1⟩ := trodAll_cons r0
  obtain ⟨v2, vs2, d2, ds2, p2, q2, rfl, rfl, rfl, h2, r2⟩ := trodAll_cons r1
  obtain ⟨v3, vs3, d3, ds3, p3, q3, rfl, rfl, rfl, h3, r3⟩ := trodAll_cons r2
  obtain ⟨rfl, rfl, rfl⟩ := trodAll_nil r3
  obtain rfl : args = #[v0, v1, v2, v3] := by cases args; simp_all
  obtain ⟨rfl, rfl⟩ := trodVars_none hV
  obtain ⟨cs0, rfl, hz0⟩ := okWide_struct Try.underlying25 (hval 0 25 v0 rfl rfl)
  have k0 := h0
  have lt0 : ∀ x ∈ p0, x.block < W.heap.size := by obtain ⟨m, hm⟩ := k0; exact DataW.trod_lt m _ _ _ hm
  obtain ⟨fu0, hfu0⟩ := h0
  obtain ⟨x0, A0, B0, c0, m0, hx0, s0, u0⟩ := open_cal hfu0
  obtain rfl : cs0 = #[.int .i64 x0.off, .slice A0 x0.wk.length c0, .slice B0 x0.cl.length m0] := by apply Array.ext'; simpa [Value.cells] using hx0
  obtain ⟨cs1, rfl, hz1⟩ := okWide_struct Try.underlying28 (hval 1 28 v1 rfl rfl)
  have k1 := h1
  have lt1 : ∀ x ∈ p1, x.block < W.heap.size := by obtain ⟨m, hm⟩ := k1; exact DataW.trod_lt m _ _ _ hm
  obtain ⟨fu1, hfu1⟩ := h1
  obtain ⟨x1, A1, c1, hx1, s1, u1⟩ := open_con hfu1
  obtain rfl : cs1 = #[.int .i64 x1.cal, .slice A1 x1.lv.length c1, .int .i64 x1.rt, .int .i64 x1.bk] := by apply Array.ext'; simpa [Value.cells] using hx1
  obtain ⟨a2, rfl, rfl, rfl, w2⟩ := open_int Try.underlying2 (hval 2 2 v2 rfl rfl) h2
  have k2 := w2
  simp [Lit.wf, IntKind.min, IntKind.max, IntKind.signed, IntKind.bits] at k2
  obtain ⟨A3, n3, c3, rfl⟩ := okWide_slice Try.underlying92 (hval 3 92 v3 rfl rfl)
  have k3 := h3
  have lt3 : ∀ x ∈ p3, x.block < W.heap.size := by obtain ⟨m, hm⟩ := k3; exact DataW.trod_lt m _ _ _ hm
  obtain ⟨l3, e3, o3, z3, g3, u3, m3, s3⟩ := open_list acC (fun a => (-9223372036854775808 ≤ a.kd ∧ a.kd ≤ 9223372036854775807) ∧ a.wt < 4294967296) Try.underlying92 (sz := 2) (by kernel_rfl) (by decide) (fun _ _ _ hx => elem_act hx) A3 n3 c3 rfl h3
  clear hA0 hval0
  refine (walk_TicketSound (w := W) x0 A0 B0 c0 m0 s0 u0 x1 A1 c1 s1 u1 a2 k2 A3 n3 c3 l3 e3 o3 z3 g3 u3 m3 s3).mono fun e W' ⟨he, bel⟩ => ?_
  subst he
  exact ⟨_, rfl, _, _, _, [], _, [], hW', trodAll_mk1 (shut_bool Try.underlying4 _), (trodAll_cons_mk (Below.trod laidOut (by kernel_rfl) (of_decide_eq_true (by kernel_rfl)) k0 bel lt0) (trodAll_cons_mk (Below.trod laidOut (by kernel_rfl) (of_decide_eq_true (by kernel_rfl)) k1 bel lt1) (trodAll_cons_mk (shut_int Try.underlying2 w2) (trodAll_cons_mk (Below.trod laidOut (by kernel_rfl) (of_decide_eq_true (by kernel_rfl)) k3 bel lt3) trodAll_mk0)))), rfl, bel.frame _, fun h => by cases h⟩

theorem over : Rows.ticketSoundRow.holds Try.pinned (OpenSpec.ofChange Rows.ticketSoundSpec) :=
  OpenClaim.holds_of_wide 11 Try.f11 rfl rfl rfl rfl rfl rfl rfl ⟨rfl, rfl, rfl, rfl, rfl⟩ rfl rfl rfl rfl rfl (by kernel_rfl) Try.func11 (by kernel_rfl)
    (of_decide_eq_true (by kernel_rfl)) (by unfold Func.isWrapper; first | (rw [if_pos (by decide +kernel)]; kernel_rfl) | (rw [if_neg (by decide +kernel)]; exact ⟨rfl, rfl⟩))
    (fun os started H enc _ => lifted os started H enc)

theorem proved : Rows.TicketSoundSaid := over
#print axioms proved
end Go.Proofs.Ytcblbjhhlnmkjaa.ticketSound
