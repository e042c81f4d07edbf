/- The statement DiskKeepsSaid: the law's walk, put under the given row. No condition. The power goes at a step: the program's disk that is armed beside the document's that is not, in plain words. -/
import Derived.Test.YtpgakkpmpnebnaaRows
import Derived.Test.YtpgakkpmpnebnaaVDlD
import Derived.Test.YtpgakkpmpnebnaaVArgsD
import Derived.ProofKit
import Derived.OpenShut
import Derived.ShutString
import Derived.ChangeOld
import Derived.Below
import Derived.Test.YtpgakkpmpnebnaaVDlA
section
namespace Go.Proofs.Ytpgakkpmpnebnaa.diskKeeps
open Go.ChangeShapes Go.WideShapes Go.ChangeAt Go.RowKit Go.Deep
open Go.ChangeMaps (open_string shut_string)
set_option linter.unusedVariables false

theorem own : ownKnob Try.prog.godebug = none := by kernel_rfl
theorem laidOut : laidOutB Try.prog = true := by kernel_rfl

set_option maxRecDepth 100000 in
theorem lifted (os : Os) (started : os.Started) (H : Type) (enc : TypeId × Value → H) :
    ReturnsInHanded {} Try.checked os 8 .any (Rows.diskKeepsSpec.pre6 enc Try.prog Try.f8 Rows.diskKeepsRow.domain false) (Rows.diskKeepsSpec.post enc Try.prog Try.f8 false true false false) := by
  refine returnsInHanded_of_change (C := Try.checked) own started (by kernel_rfl) Try.func8
    (ChangeSpec.witness6 (enc := enc) (C := Try.checked) false ⟨#[], #[.slice none 0 0, .slice none 0 0], []⟩ 8 (by kernel_rfl) (by kernel_rfl) (by kernel_rfl) (by kernel_rfl)) ?_
  intro W base args ds gs before hval0 hW hcnd _
  have hval : ∀ (j : Nat) t v, Try.f8.params[j]? = some t → args[j]? = some v → Value.okWide Try.prog W .any base t v := hval0
  have hW' := hW
  obtain ⟨p, q, hA0, hV, rfl, hfz, hnd⟩ := hW
  have hA : DataW.TrodAll enc Try.prog W 0 (fun _ => true) true Try.f8.params.toList args.toList ds p := hA0
  rw [Try.params8] at hA hval
  obtain ⟨v0, vs0, d0, ds0, p0, q0, hargs, rfl, rfl, h0, r0⟩ := trodAll_cons hA
  obtain ⟨v1, vs1, d1, ds1, p1, q1, rfl, rfl, rfl, h1, r1⟩ := trodAll_cons r0
  obtain ⟨rfl, rfl, rfl⟩ := trodAll_nil r1
  obtain rfl : args = #[v0, v1] := by cases args; simp_all
  obtain ⟨rfl, rfl⟩ := trodVars_none hV
  obtain ⟨A0, n0, c0, rfl⟩ := okWide_slice Try.underlying61 (hval 0 61 v0 rfl rfl)
  have k0 := h0
  have lt0 : ∀ x ∈ p0, x.block < W.heap.size := by obtain ⟨m, hm⟩ := k0; exact DataW.trod_lt m _ _ _ hm
  obtain ⟨l0, e0, o0, z0, g0, u0, m0, s0⟩ := open_list Op23.cells (Op23.okA W) Try.underlying61 (sz := 6) (by kernel_rfl) (by decide) (fun _ _ _ hx => elem_op23 hx) A0 n0 c0 rfl h0
  obtain ⟨A1, n1, c1, rfl⟩ := okWide_slice Try.underlying69 (hval 1 69 v1 rfl rfl)
  have k1 := h1
  have lt1 : ∀ x ∈ p1, x.block < W.heap.size := by obtain ⟨m, hm⟩ := k1; exact DataW.trod_lt m _ _ _ hm
  obtain ⟨l1, e1, o1, z1, g1, u1, m1, s1⟩ := open_list trC trOk Try.underlying69 (sz := 2) (by kernel_rfl) (by decide) (fun _ _ _ hx => elem_tr hx) A1 n1 c1 rfl h1
  clear hA0 hval0
  refine (walk_DiskKeeps (w := W) A0 n0 c0 l0 e0 o0 z0 g0 u0 m0 s0 A1 n1 c1 l1 e1 o1 z1 g1 u1 m1 s1).mono fun e W' ⟨he, bel⟩ => ?_
  subst he
  exact ⟨_, rfl, _, _, _, [], _, [], hW', trodAll_mk1 (shut_bool Try.underlying4 _), (trodAll_cons_mk (Below.trod laidOut (by kernel_rfl) (of_decide_eq_true (by kernel_rfl)) k0 bel lt0) (trodAll_cons_mk (Below.trod laidOut (by kernel_rfl) (of_decide_eq_true (by kernel_rfl)) k1 bel lt1) trodAll_mk0)), rfl, bel.frame _, fun h => by cases h⟩

theorem over : Rows.diskKeepsRow.holds Try.pinned (OpenSpec.ofChange Rows.diskKeepsSpec) :=
  OpenClaim.holds_of_wide 8 Try.f8 rfl rfl rfl rfl rfl rfl rfl ⟨rfl, rfl, rfl, rfl, rfl⟩ rfl rfl rfl rfl rfl (by kernel_rfl) Try.func8 (by kernel_rfl)
    (of_decide_eq_true (by kernel_rfl)) (by unfold Func.isWrapper; first | (rw [if_pos (by decide +kernel)]; kernel_rfl) | (rw [if_neg (by decide +kernel)]; exact ⟨rfl, rfl⟩))
    (fun os started H enc _ => lifted os started H enc)

theorem proved : Rows.DiskKeepsSaid := over
#print axioms proved
end Go.Proofs.Ytpgakkpmpnebnaa.diskKeeps
end

section
namespace Go.Proofs.Ytpgakkpmpnebnaa
set_option maxRecDepth 100000
set_option linter.unusedVariables false

/-- The program's disk D, armed for st steps at first; the document's, R, never armed. -/
def ArmI (st : Nat) (D R : Dk) : Prop := D.down = false → D.room = R.room ∧ D.fs = R.fs ∧ R.down = false ∧ R.armed = -1 ∧ D.armed = (st : Int) - (D.steps : Int) ∧ D.steps ≤ st
def isApp (k : Int) : Bool := decide (k = 0) || decide (9 < k) || decide (k < 0)
theorem ArmI.ok {st : Nat} {D R : Dk} (h : ArmI st D R) (hd : D.down = false) (ho : D.Ok) : R.Ok := by
  obtain ⟨h1, h2, h3, h4, h5, h6⟩ := h hd
  exact ⟨h2 ▸ ho.so, h2 ▸ ho.nm, h2 ▸ ho.n, h2 ▸ ho.tot, h1 ▸ ho.room, by rw [h4]; omega⟩
theorem step_on {st : Nat} {D : Dk} (ha : D.armed = (st : Int) - (D.steps : Int)) (hs : D.steps ≤ st) :
    (D.steps = st ∧ D.step = ({ D with steps := D.steps + 1, down := true, armed := -1 }, false)) ∨ (D.steps < st ∧ D.step = ({ D with steps := D.steps + 1, armed := D.armed - 1 }, true)) := by
  by_cases h : D.steps = st
  · left
    refine ⟨h, ?_⟩
    unfold Dk.step
    rw [if_pos (by omega)]
  · right
    refine ⟨by omega, ?_⟩
    unfold Dk.step
    rw [if_neg (by omega), if_pos (by omega)]
theorem step_off {R : Dk} (ha : R.armed = -1) : R.step = ({ R with steps := R.steps + 1 }, true) := by
  unfold Dk.step
  rw [if_neg (by omega), if_neg (by omega)]
/-- What is so behind a call. -/
structure ArmS (st : Nat) (D R E R' : Dk) (k : Int) : Prop where
  inv : ArmI st E R'
  n : E.steps = D.steps ∨ E.steps = D.steps + 1
  down : E.down = decide (st < E.steps)
  app : E.down = true → isApp k = true → E.fs = R'.fs
  oth : E.down = true → isApp k = false → E.fs = D.fs
theorem ArmS.same {st : Nat} {D R : Dk} {k : Int} (h : ArmI st D R) (hd : D.down = false) : ArmS st D R D R k := by
  obtain ⟨h1, h2, h3, h4, h5, h6⟩ := h hd
  refine ⟨h, .inl rfl, ?_, fun _ _ => h2, fun _ _ => rfl⟩
  rw [hd]; symm; simp only [decide_eq_false_iff_not]; omega
/-- A call that turns the files if the power stays. -/
theorem ArmS.put {st : Nat} {D R : Dk} {k : Int} (h : ArmI st D R) (hd : D.down = false) (hk : isApp k = false) (fs' : List Fi) :
    ArmS st D R (if D.step.2 = true then { D.step.1 with fs := fs' } else D.step.1) (if R.step.2 = true then { R.step.1 with fs := fs' } else R.step.1) k := by
  obtain ⟨h1, h2, h3, h4, h5, h6⟩ := h hd
  rw [step_off h4]
  rcases step_on h5 h6 with ⟨e, hs⟩ | ⟨e, hs⟩
  · rw [hs]
    refine ⟨fun hx => by simp at hx, .inr rfl, ?_, fun _ hx => (by rw [hk] at hx; cases hx), fun _ _ => rfl⟩
    simp; omega
  · rw [hs]
    refine ⟨fun _ => ⟨h1, rfl, h3, h4, by simp; omega, by simp; omega⟩, .inr rfl, ?_, fun hx => by simp [hd] at hx, fun hx => by simp [hd] at hx⟩
    simp [hd]; omega
theorem arm_step {st : Nat} {D R : Dk} (h : ArmI st D R) (hd : D.down = false) (o : Op23) (hk : ¬ (6 ≤ o.k ∧ o.k ≤ 9)) : ArmS st D R (doV D o) (doV R o) o.k := by
  have hI := h
  obtain ⟨h1, h2, h3, h4, h5, h6⟩ := h hd
  unfold doV
  have e6 : ¬ o.k = 6 := by omega
  have e7 : ¬ o.k = 7 := by omega
  have e8 : ¬ o.k = 8 := by omega
  have e9 : ¬ o.k = 9 := by omega
  simp only [if_neg e6, if_neg e7, if_neg e8, if_neg e9]
  have hap : 1 ≤ o.k → o.k ≤ 5 → isApp o.k = false := fun a b => by
    unfold isApp
    rw [decide_eq_false (by omega), decide_eq_false (by omega), decide_eq_false (by omega)]; rfl
  split
  · rename_i e
    unfold Dk.sync
    rw [hd, h3, ← h2]
    simp only [Bool.false_eq_true, if_false]
    cases hg : getF D.fs o.nm with
    | none => exact ArmS.same hI hd
    | some f =>
      have := ArmS.put hI hd (hap (by omega) (by omega)) (putF D.fs { f with kp := f.al.length })
      simp only at this ⊢
      rw [apply_ite Prod.fst, apply_ite Prod.fst]
      exact this
  split
  · rename_i e
    unfold Dk.cut
    rw [hd, h3, ← h2]
    simp only [Bool.false_eq_true, if_false]
    cases hg : getF D.fs o.nm with
    | none => exact ArmS.same hI hd
    | some f =>
      simp only
      by_cases hb : o.n < 0 ∨ (f.al.length : Int) < o.n
      · rw [if_pos hb, if_pos hb]; exact ArmS.same hI hd
      · rw [if_neg hb, if_neg hb]
        have := ArmS.put hI hd (hap (by omega) (by omega)) (putF D.fs { f with al := f.al.take o.n.toNat, kp := min f.kp o.n.toNat })
        rw [apply_ite Prod.fst, apply_ite Prod.fst]
        exact this
  split
  · rename_i e
    unfold Dk.remove
    rw [hd, h3, ← h2]
    simp only [Bool.false_eq_true, if_false]
    cases hg : getF D.fs o.nm with
    | none => exact ArmS.same hI hd
    | some f =>
      have := ArmS.put hI hd (hap (by omega) (by omega)) (outF D.fs o.nm)
      simp only at this ⊢
      rw [apply_ite Prod.fst, apply_ite Prod.fst]
      exact this
  split
  · rename_i e
    unfold Dk.move
    rw [hd, h3, ← h2]
    simp only [Bool.false_eq_true, if_false]
    cases hg : getF D.fs o.nm with
    | none => exact ArmS.same hI hd
    | some f =>
      simp only
      cases hn : namedF o.to_
      · simp only [if_true]; exact ArmS.same hI hd
      · simp only [Bool.true_eq_false, if_false]
        have := ArmS.put hI hd (hap (by omega) (by omega)) (putF (outF D.fs o.nm) { f with nm := o.to_ })
        rw [apply_ite Prod.fst, apply_ite Prod.fst]
        exact this
  split
  · exact ArmS.same hI hd
  · have hfr : D.free = R.free := by unfold Dk.free; rw [h1, h2]
    unfold Dk.append
    rw [hd, h3, ← h2, ← hfr]
    simp only [Bool.false_eq_true, if_false]
    cases hn : namedF o.nm
    · simp only [if_true]; exact ArmS.same hI hd
    · simp only [Bool.true_eq_false, if_false]
      by_cases hb : ((getF D.fs o.nm).isNone = true ∧ 128 ≤ D.fs.length) ∨ D.free < (o.tx.length : Int)
      · rw [if_pos hb, if_pos hb]; exact ArmS.same hI hd
      · rw [if_neg hb, if_neg hb]
        generalize (getF D.fs o.nm).getD ⟨o.nm, [], 0⟩ = f
        generalize hP : putF D.fs { f with al := f.al ++ o.tx } = P
        have hso := step_off (R := { R with fs := P }) h4
        have hsd := step_on (D := { D with fs := P }) (st := st) h5 h6
        simp only at hso hsd ⊢
        rw [h3] at hso
        rw [hd] at hsd
        rw [hso]
        rcases hsd with ⟨e, hs⟩ | ⟨e, hs⟩
        · rw [hs]
          refine ⟨fun hx => by simp at hx, .inr rfl, ?_, fun _ _ => rfl, fun _ hx => ?_⟩
          · simp; omega
          · exfalso
            rename_i n1 n2 n3 n4 n5 _
            unfold isApp at hx
            simp at hx
            omega
        · rw [hs]
          refine ⟨fun _ => ⟨h1, rfl, rfl, h4, by simp; omega, by simp; omega⟩, .inr rfl, ?_, fun hx => by simp at hx, fun hx => by simp at hx⟩
          simp; omega
end Go.Proofs.Ytpgakkpmpnebnaa
end
