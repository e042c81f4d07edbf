/- A disk's map: stores, deletions, how many; what stays right. -/
import Derived.Test.YtpgakkpmpnebnaaVDkD
namespace Go.Proofs.Ytpgakkpmpnebnaa
open Go.RowKit Go.Maps
set_option maxHeartbeats 4000000
set_option maxRecDepth 100000
set_option linter.unusedVariables false
attribute [local irreducible] wpPlan

theorem insF_len (f : Fi) : ∀ l, (insF f l).length = l.length + 1
  | [] => rfl
  | e :: r => by unfold insF; split <;> simp [insF_len f r]
theorem insF_tot (f : Fi) : ∀ l, totF (insF f l) = f.al.length + totF l
  | [] => by simp [insF, totF]
  | e :: r => by
    have ih := insF_tot f r
    unfold insF
    split
    · simp [totF]
    · unfold totF at ih ⊢; simp only [List.map_cons, List.sum_cons, ih]; omega
theorem outF_none {fs : List Fi} {nm : List UInt8} (h : getF fs nm = none) : outF fs nm = fs := by
  unfold outF
  rw [List.filter_eq_self]
  intro f hf
  have := getF_none h f hf
  simpa using this
theorem outF_some {fs : List Fi} (hs : Sorted fs) {nm : List UInt8} {x : Fi} (h : getF fs nm = some x) : totF (outF fs nm) + x.al.length = totF fs ∧ (outF fs nm).length + 1 = fs.length := by
  induction fs with
  | nil => cases h
  | cons y r ih =>
    obtain ⟨h1, h2⟩ := List.pairwise_cons.1 hs
    by_cases e : y.nm = nm
    · have hy : x = y := by
        have := getF_of hs (f := y) (by simp)
        rw [e, h] at this; injection this
      subst hy
      have hr : outF r nm = r := by
        unfold outF
        rw [List.filter_eq_self]
        intro f hf
        have := h1 f hf
        by_cases e' : f.nm = nm
        · rw [e, e', ltB_irr] at this; cases this
        · simpa using e'
      have h3 : outF (x :: r) nm = r := by
        rw [outF, List.filter_cons_of_neg (by simp [e])]; exact hr
      rw [h3]
      simp [totF]; omega
    · have hg : getF r nm = some x := by
        unfold getF at h ⊢
        rw [List.find?_cons_of_neg (by simpa using e)] at h
        exact h
      obtain ⟨h3, h4⟩ := ih h2 hg
      have h5 : outF (y :: r) nm = y :: outF r nm := by
        rw [outF, List.filter_cons_of_pos (by simpa using e)]; rfl
      rw [h5]
      unfold totF at h3 ⊢
      simp only [List.map_cons, List.sum_cons, List.length_cons]
      omega
theorem outF_len (fs : List Fi) (nm : List UInt8) : (outF fs nm).length ≤ fs.length := List.length_filter_le _ _
theorem putF_len {fs : List Fi} (hs : Sorted fs) (f : Fi) : (putF fs f).length = if (getF fs f.nm).isSome = true then fs.length else fs.length + 1 := by
  unfold putF
  rw [insF_len]
  cases hg : getF fs f.nm with
  | none => rw [outF_none hg]; simp
  | some x => have := (outF_some hs hg).2; simp; omega
theorem putF_tot {fs : List Fi} (hs : Sorted fs) (f : Fi) : totF (putF fs f) = f.al.length + (totF fs - ((getF fs f.nm).map fun x => x.al.length).getD 0) := by
  unfold putF
  rw [insF_tot]
  cases hg : getF fs f.nm with
  | none => rw [outF_none hg]; simp
  | some x => have := (outF_some hs hg).1; simp; omega
theorem outF_tot_le (fs : List Fi) (nm : List UInt8) : totF (outF fs nm) ≤ totF fs := by
  induction fs with
  | nil => exact Nat.le_refl _
  | cons y r ih =>
    unfold totF outF at *
    by_cases e : y.nm = nm
    · rw [List.filter_cons_of_neg (by simp [e])]; simp only [List.map_cons, List.sum_cons]; omega
    · rw [List.filter_cons_of_pos (by simpa using e)]; simp only [List.map_cons, List.sum_cons]; omega
theorem len_le_tot {fs : List Fi} {x : Fi} (h : x ∈ fs) : x.al.length ≤ totF fs := by
  induction fs with
  | nil => cases h
  | cons y r ih =>
    unfold totF at *
    simp only [List.map_cons, List.sum_cons]
    rcases List.mem_cons.1 h with e | e
    · subst e; omega
    · have := ih e; omega
section
variable {w w' : World} {b : Nat} {fs : List Fi} {F : Nat → Prop}
theorem FlM.store (h : FlM w b fs F) (so : Sorted fs) (hin : ∀ x ∈ fs, inS x.nm) (fi : Fi) (hfi : inS fi.nm) (hn : (putF fs fi).length ≤ 128) (A : Option Addr) (c : Nat) (F' : Nat → Prop) (hF : ∀ q, F q → F' q) (hFb : ∀ q, F' q → q ≠ b) (hr : BtR w F' A c fi.al) :
    ∃ w', (Instr.mapUpdate 99 (.map (some b)) (St fi.nm) (.agg (ctA A fi.al.length c fi.kp))).run Try.prog w = .ok () w' ∧ FlM w' b (putF fs fi) F' ∧ Touch (fun q => q = b) w w' := by
  obtain ⟨f, hm, hs⟩ := h
  obtain ⟨w', hrun, hm', ht⟩ := hm.store lawS Try.underlying99 (by omega) (keyS hfi) (.agg (ctA A fi.al.length c fi.kp))
  refine ⟨w', hrun, ⟨setV f (.string fi.nm) (.agg (ctA A fi.al.length c fi.kp)), ?_, fun nm hnm => ?_⟩, ht⟩
  · refine (hm'.tight lawS ((putF fs fi).map fun x => Lit.string x.nm) (fun kl hk hsm => ?_)).mono (by simpa using hn)
    obtain ⟨l, hl, rfl⟩ := keysS hk
    by_cases e : l = fi.nm
    · subst e; exact List.mem_map.2 ⟨fi, putF_mem.2 (.inl rfl), rfl⟩
    · have e' : ¬ (Lit.string l) = Lit.string fi.nm := fun e' => e (by injection e')
      simp only [setV, if_neg e'] at hsm
      cases hc : getF fs l with
      | none => rw [(hs l hl).1 hc] at hsm; cases hsm
      | some x =>
        obtain ⟨h1, h2⟩ := getF_some hc
        exact List.mem_map.2 ⟨x, putF_mem.2 (.inr ⟨h1, fun e2 => e (h2.symm.trans e2)⟩), by rw [h2]⟩
  · rw [getF_put so]
    by_cases e : nm = fi.nm
    · subst e
      simp only [setV, if_true]
      refine ⟨(fun h => by cases h), fun x hx => ?_⟩
      injection hx with hx
      subst hx
      exact ⟨A, c, rfl, hr.touch ht hFb⟩
    · have e' : ¬ (Lit.string nm) = Lit.string fi.nm := fun e' => e (by injection e')
      simp only [setV, if_neg e, if_neg e']
      refine ⟨(hs nm hnm).1, fun x hx => ?_⟩
      obtain ⟨A', c', h1, h2⟩ := (hs nm hnm).2 x hx
      exact ⟨A', c', h1, (h2.mono hF).touch ht hFb⟩
theorem FlM.dropped {nm0 : List UInt8} (h : ∃ f, MapV Try.prog 9 w' b 128 (delV f (.string nm0)) ∧ Touch (fun q => q = b) w w' ∧ ∀ nm : List UInt8, nm.length ≤ maxLen → (getF fs nm = none → f (.string nm) = none) ∧ (∀ x, getF fs nm = some x → ∃ A c, f (.string nm) = some (.agg (ctA A x.al.length c x.kp)) ∧ BtR w F A c x.al)) (so : Sorted fs) (hFb : ∀ q, F q → q ≠ b) : FlM w' b (outF fs nm0) F := by
  obtain ⟨f, hm, ht, hs⟩ := h
  refine ⟨_, hm, fun nm hnm => ?_⟩
  rw [getF_out so]
  by_cases e : nm = nm0
  · subst e
    simp only [delV, if_true]
    exact ⟨fun _ => trivial, fun x hx => by cases hx⟩
  · have e' : ¬ (Lit.string nm) = Lit.string nm0 := fun e' => e (by injection e')
    simp only [delV, if_neg e, if_neg e']
    refine ⟨(hs nm hnm).1, fun x hx => ?_⟩
    obtain ⟨A', c', h1, h2⟩ := (hs nm hnm).2 x hx
    exact ⟨A', c', h1, h2.touch ht hFb⟩
/-- As an arm: a deletion. -/
theorem FlM.drop {ops : Array Oper} {rest : List Oper} {o : Oper} {a : Act} {Q : Exit → Act → World → Prop} (h : FlM w b fs F) (so : Sorted fs) (hFb : ∀ q, F q → q ≠ b) (nm0 : List UInt8) (hn : inS nm0) (hg : o.guard = none) (m x : Operand)
    (hop : o.op = Op.call { callee := Callee.builtin Builtin.delete, args := #[m, x], argTypes := #[99, 9] }) (hm : a.eval m = .map (some b)) (hx : a.eval x = St nm0)
    (hK : ∀ w', FlM w' b (outF fs nm0) F → Touch (fun q => q = b) w w' → wpList Try.prog ops Q rest (a.put o.dst (.tuple #[])) w') : wpList Try.prog ops Q (o :: rest) a w := by
  obtain ⟨f, hmv, hs⟩ := h
  refine dropV w hg m x _ _ hop _ lawS Try.underlying99 b 128 f hm hmv _ _ hx (keyS hn) ?_
  intro w' h' t'
  exact hK w' (FlM.dropped ⟨f, h', t', hs⟩ so hFb) t'
theorem FlM.look (h : FlM w b fs F) {nm : List UInt8} (hn : inS nm) {x : Fi} (hg : getF fs nm = some x) : ∃ A c, (Instr.lookup 99 (.map (some b)) (St nm) false).run Try.prog w = .ok (.agg (ctA A x.al.length c x.kp)) w ∧ BtR w F A c x.al := by
  obtain ⟨f, hm, hs⟩ := h
  obtain ⟨A, c, hf, hr⟩ := (hs nm hn).2 x hg
  have h1 := hm.look lawS Try.underlying99 (zeroCt w) (keyS hn)
  rw [hf] at h1
  exact ⟨A, c, h1, hr⟩
theorem namesOf_nodup {fs : List Fi} (h : Sorted fs) : (fs.map fun x => Lit.string x.nm).Nodup := by
  unfold List.Nodup
  rw [List.pairwise_map]
  refine h.imp fun {a b} hl e => ?_
  injection e with e
  rw [e, ltB_irr] at hl; cases hl
theorem FlM.len (h : FlM w b fs F) (so : Sorted fs) (hin : ∀ x ∈ fs, inS x.nm) (ty : TypeId) : (Builtin.len_ #[99] ty #[.map (some b)]).run Try.prog w = .ok (.int .i64 (fs.length : Nat)) w := by
  obtain ⟨f, hm, hs⟩ := h.ff
  have := hm.size lawS (fs.map fun x => Lit.string x.nm) (namesOf_nodup so) (fun kl hk hsm => by
    obtain ⟨l, hl, rfl⟩ := keysS hk
    rw [hs l hl] at hsm
    obtain ⟨x, hx⟩ := Option.isSome_iff_exists.1 hsm
    obtain ⟨h1, h2⟩ := getF_some hx
    exact List.mem_map.2 ⟨x, h1, by rw [h2]⟩) (fun kl hk => by
    obtain ⟨x, hx, rfl⟩ := List.mem_map.1 hk
    exact ⟨_, keyS (hin x hx)⟩) Try.underlying99 ty
  have he : ((fs.map fun x => Lit.string x.nm).filter fun kl => (f kl).isSome).length = fs.length := by
    rw [List.filter_eq_self.2 (fun kl hk => by
      obtain ⟨x, hx, rfl⟩ := List.mem_map.1 hk
      rw [hs _ (hin x hx), getF_of so hx]; rfl)]
    simp
  rw [he] at this
  exact this
end
end Go.Proofs.Ytpgakkpmpnebnaa
