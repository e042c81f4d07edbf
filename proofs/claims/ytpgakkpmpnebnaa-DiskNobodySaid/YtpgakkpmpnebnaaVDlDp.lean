/- The statement DiskPlaysSaid: the law's walk, put under the given row. No condition. A crash, file by file, in plain words: what stays of each. -/
import Derived.Test.YtpgakkpmpnebnaaRows
import Derived.Test.YtpgakkpmpnebnaaVDlC
import Derived.Test.YtpgakkpmpnebnaaVArgsD
import Derived.ProofKit
import Derived.OpenShut
import Derived.ShutString
import Derived.ChangeOld
import Derived.Below
import Derived.Test.YtpgakkpmpnebnaaVDkL
section
namespace Go.Proofs.Ytpgakkpmpnebnaa.diskPlays
open Go.ChangeShapes Go.WideShapes Go.ChangeAt Go.RowKit Go.Deep
open Go.ChangeMaps (open_string shut_string)
set_option linter.unusedVariables false

theorem own : ownKnob Try.prog.godebug = none := by kernel_rfl
theorem laidOut : laidOutB Try.prog = true := by kernel_rfl

set_option maxRecDepth 100000 in
theorem lifted (os : Os) (started : os.Started) (H : Type) (enc : TypeId × Value → H) :
    ReturnsInHanded {} Try.checked os 7 .any (Rows.diskPlaysSpec.pre6 enc Try.prog Try.f7 Rows.diskPlaysRow.domain false) (Rows.diskPlaysSpec.post enc Try.prog Try.f7 false true false false) := by
  refine returnsInHanded_of_change (C := Try.checked) own started (by kernel_rfl) Try.func7
    (ChangeSpec.witness6 (enc := enc) (C := Try.checked) false ⟨#[], #[.int .i64 0, .slice none 0 0], []⟩ 8 (by kernel_rfl) (by kernel_rfl) (by kernel_rfl) (by kernel_rfl)) ?_
  intro W base args ds gs before hval0 hW hcnd _
  have hval : ∀ (j : Nat) t v, Try.f7.params[j]? = some t → args[j]? = some v → Value.okWide Try.prog W .any base t v := hval0
  have hW' := hW
  obtain ⟨p, q, hA0, hV, rfl, hfz, hnd⟩ := hW
  have hA : DataW.TrodAll enc Try.prog W 0 (fun _ => true) true Try.f7.params.toList args.toList ds p := hA0
  rw [Try.params7] at hA hval
  obtain ⟨v0, vs0, d0, ds0, p0, q0, hargs, rfl, rfl, h0, r0⟩ := trodAll_cons hA
  obtain ⟨v1, vs1, d1, ds1, p1, q1, rfl, rfl, rfl, h1, r1⟩ := trodAll_cons r0
  obtain ⟨rfl, rfl, rfl⟩ := trodAll_nil r1
  obtain rfl : args = #[v0, v1] := by cases args; simp_all
  obtain ⟨rfl, rfl⟩ := trodVars_none hV
  obtain ⟨a0, rfl, rfl, rfl, w0⟩ := open_int Try.underlying3 (hval 0 3 v0 rfl rfl) h0
  have k0 := w0
  simp [Lit.wf, IntKind.min, IntKind.max, IntKind.signed, IntKind.bits] at k0
  obtain ⟨A1, n1, c1, rfl⟩ := okWide_slice Try.underlying61 (hval 1 61 v1 rfl rfl)
  have k1 := h1
  have lt1 : ∀ x ∈ p1, x.block < W.heap.size := by obtain ⟨m, hm⟩ := k1; exact DataW.trod_lt m _ _ _ hm
  obtain ⟨l1, e1, o1, z1, g1, u1, m1, s1⟩ := open_list Op23.cells (Op23.okA W) Try.underlying61 (sz := 6) (by kernel_rfl) (by decide) (fun _ _ _ hx => elem_op23 hx) A1 n1 c1 rfl h1
  clear hA0 hval0
  refine (walk_DiskPlays (w := W) a0 k0 A1 n1 c1 l1 e1 o1 z1 g1 u1 m1 s1).mono fun e W' ⟨he, bel⟩ => ?_
  subst he
  exact ⟨_, rfl, _, _, _, [], _, [], hW', trodAll_mk1 (shut_bool Try.underlying4 _), (trodAll_cons_mk (shut_int Try.underlying3 w0) (trodAll_cons_mk (Below.trod laidOut (by kernel_rfl) (of_decide_eq_true (by kernel_rfl)) k1 bel lt1) trodAll_mk0)), rfl, bel.frame _, fun h => by cases h⟩

theorem over : Rows.diskPlaysRow.holds Try.pinned (OpenSpec.ofChange Rows.diskPlaysSpec) :=
  OpenClaim.holds_of_wide 7 Try.f7 rfl rfl rfl rfl rfl rfl rfl ⟨rfl, rfl, rfl, rfl, rfl⟩ rfl rfl rfl rfl rfl (by kernel_rfl) Try.func7 (by kernel_rfl)
    (of_decide_eq_true (by kernel_rfl)) (by unfold Func.isWrapper; first | (rw [if_pos (by decide +kernel)]; kernel_rfl) | (rw [if_neg (by decide +kernel)]; exact ⟨rfl, rfl⟩))
    (fun os started H enc _ => lifted os started H enc)

theorem proved : Rows.DiskPlaysSaid := over
#print axioms proved
end Go.Proofs.Ytpgakkpmpnebnaa.diskPlays
end

section
namespace Go.Proofs.Ytpgakkpmpnebnaa
open Go.RowKit Go.Maps
set_option maxRecDepth 100000
set_option linter.unusedVariables false

theorem tornF_take (l : List UInt8) (t : Tr) : (tornF l t).take ((tornF l t).length - 3) = l.take ((tornF l t).length - 3) := by
  unfold tornF
  simp only
  split
  · rename_i h
    have hk : (List.take (t.keep % (l.length + 1)) l).length = min (t.keep % (l.length + 1)) l.length := by simp
    have hm : t.keep % (l.length + 1) < l.length + 1 := Nat.mod_lt _ (by omega)
    rw [hk] at h ⊢
    obtain ⟨k, hkd⟩ : ∃ k, k = t.keep % (l.length + 1) := ⟨_, rfl⟩
    rw [← hkd] at h hm ⊢
    have h1 : ∀ (a b c : UInt8), (List.take (min k l.length - 3) (List.take k l) ++ [a, b, c]).length - 3 = k - 3 := by
      intro a b c; simp; omega
    rw [h1]
    rw [List.take_append_of_le_length (by simp; omega), List.take_take, List.take_take]
    congr 1
    omega
  · rw [List.take_take]
    congr 1
    simp
    omega
/-- What a crash leaves of a file: nothing of one that has nothing kept, or all that was kept and the first of the rest, but for the last three bytes. -/
theorem crash_step (f : Fi) (r : List Fi) (ts : List Tr) (hk : f.kp ≤ f.al.length) :
    ∃ ts', (∃ k : List UInt8, crashF (f :: r) ts = ⟨f.nm, k, k.length⟩ :: crashF r ts' ∧ k.length ≤ f.al.length ∧ f.kp ≤ k.length ∧ k.take f.kp = f.al.take f.kp ∧
        k.take (max f.kp (k.length - 3)) = f.al.take (max f.kp (k.length - 3))) ∨
      (crashF (f :: r) ts = crashF r ts' ∧ f.kp = 0) := by
  by_cases h : f.kp < f.al.length
  · rw [crash_torn h]
    obtain ⟨t, ht⟩ : ∃ t, t = ts.headD ⟨0, 0⟩ := ⟨_, rfl⟩
    rw [← ht]
    refine ⟨ts.tail, ?_⟩
    by_cases h0 : 0 < (cutA f t).length
    · rw [if_pos h0]
      refine .inl ⟨cutA f t, rfl, cutA_len f t hk, ?_, ?_, ?_⟩
      · unfold cutA; simp; omega
      · unfold cutA
        rw [List.take_append_of_le_length (by simp; omega), List.take_take]
        simp
      · have hl : (cutA f t).length = f.kp + (tornF (f.al.drop f.kp) t).length := by unfold cutA; simp; omega
        rw [hl, show max f.kp (f.kp + (tornF (f.al.drop f.kp) t).length - 3) = f.kp + ((tornF (f.al.drop f.kp) t).length - 3) by omega]
        unfold cutA
        have htk : (f.al.take f.kp).length = f.kp := by simp; omega
        rw [List.take_append, htk, show f.kp + ((tornF (f.al.drop f.kp) t).length - 3) - f.kp = (tornF (f.al.drop f.kp) t).length - 3 by omega, tornF_take, List.take_of_length_le (by omega), ← List.take_add]
    · rw [if_neg h0]
      refine .inr ⟨rfl, ?_⟩
      have : (cutA f t).length = f.kp + (tornF (f.al.drop f.kp) t).length := by unfold cutA; simp; omega
      omega
  · rw [crash_whole h]
    have he : f.kp = f.al.length := by omega
    refine ⟨ts, ?_⟩
    by_cases h0 : 0 < f.al.length
    · rw [if_pos h0]
      refine .inl ⟨f.al, ?_, Nat.le_refl _, hk, rfl, rfl⟩
      rw [← he]
      rfl
    · rw [if_neg h0]
      exact .inr ⟨rfl, by omega⟩
theorem crash_sub : ∀ {fs : List Fi} {ts : List Tr} {x : Fi}, x ∈ crashF fs ts → ∃ f ∈ fs, f.nm = x.nm
  | [], _, _, h => by simp [crashF] at h
  | f :: r, ts, x, h => by
    by_cases hk : f.kp < f.al.length
    · rw [crash_torn hk] at h
      rcases List.mem_append.1 h with h | h
      · split at h
        · rw [List.mem_singleton.1 h]; exact ⟨f, by simp, rfl⟩
        · cases h
      · obtain ⟨g, hg, e⟩ := crash_sub h
        exact ⟨g, List.mem_cons_of_mem _ hg, e⟩
    · rw [crash_whole hk] at h
      rcases List.mem_append.1 h with h | h
      · split at h
        · rw [List.mem_singleton.1 h]; exact ⟨f, by simp, rfl⟩
        · cases h
      · obtain ⟨g, hg, e⟩ := crash_sub h
        exact ⟨g, List.mem_cons_of_mem _ hg, e⟩
end Go.Proofs.Ytpgakkpmpnebnaa
end
