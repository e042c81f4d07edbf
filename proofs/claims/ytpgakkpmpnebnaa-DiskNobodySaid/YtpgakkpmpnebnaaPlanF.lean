/- A region that draws its order and in which two writers may come up in either order: a plan up to there, then one for each order (a fork). No program in sight. -/
import Derived.Test.YtpgakkpmpnebnaaPlan
namespace Go.Proofs.Ytpgakkpmpnebnaa.PF
open Go

def planFromE (md : Region.Mode) (ops : Array Oper) (fl lt : Nat → Bool) (e : Array Bool → Bool) : List Stp → Array Bool → Bool
  | [], listed => e listed
  | (k, i) :: rest, listed =>
    (if k == 2 || k == 3 then (Region.ready md ops listed == [i]) && !fl i && (k == 2 || lt i)
     else decide (k < 2) && (Region.ready md ops listed).contains i && fl i && depB md ops listed (deps md ops listed i) i && !listed.getD i true &&
       freeB ops listed (deps md ops listed i) i (if k == 0 then fl else fun j => !lt j)) && planFromE md ops fl lt e rest (listed.setIfInBounds i true)

section
variable {P : Program} {ops : Array Oper} {Q : Exit → Act → World → Prop} {E : Act → World → Prop} {md : Region.Mode} {T : Nat → Prop} {fl lt : Nat → Bool}
/-- The plan, walked; at its end stands E. -/
def wpPlan (P : Program) (ops : Array Oper) (Q : Exit → Act → World → Prop) (E : Act → World → Prop) (T : Nat → Prop) : List Stp → Act → World → Prop
  | [], a, w => E a w
  | (k, i) :: rest, a, w =>
    if k = 0 then stOp P ops w i (fun a' => wpPlan P ops Q E T rest a' w) a
    else if k = 1 then ∃ v, (∀ o, ops[i]? = some o → YieldsIf P ops (Touch T w) o v a ∧ wpPlan P ops Q E T rest (a.put o.dst v) w)
    else if k = 3 then wpOp P ops Q i (fun a' w' => wpPlan P ops Q E T rest a' w') a w
    else wpOp P ops Q i (fun a' w' => Touch T w w' ∧ wpPlan P ops Q E T rest a' w') a w

theorem wpPlan_sound {e : Array Bool → Bool} {n : Nat} (hE : ∀ listed a w, e listed = true → E a w → wpMix P md ops Q T fl lt n listed a w)
    (hQ : ∀ c a d v w, Q (.panic c) (Act.put a d v) w → Q (.panic c) a w) (hsel : Region.noSelect ops = true) : ∀ (plan : List Stp) (listed : Array Bool) (a : Act) (w : World),
    planFromE md ops fl lt e plan listed = true → wpPlan P ops Q E T plan a w → wpMix P md ops Q T fl lt (n + plan.length) listed a w
  | [], listed, a, w, hB, h => hE listed a w (by simpa [planFromE] using hB) h
  | (k, i) :: rest, listed, a, w, hB, h => by
    simp only [planFromE, Bool.and_eq_true] at hB
    obtain ⟨hB1, hB2⟩ := hB
    have ih := fun a' w' => wpPlan_sound hE hQ hsel rest (listed.setIfInBounds i true) a' w' hB2
    have hs := Region.noSelect_spec hsel
    show wpMix P md ops Q T fl lt ((n + rest.length) + 1) listed a w
    by_cases hk2 : k = 2
    · subst hk2
      simp only [beq_self_eq_true, Bool.true_or, if_true, Bool.and_eq_true, beq_iff_eq, Bool.not_eq_true', and_true] at hB1
      refine ⟨fun h0 => (by rw [hB1.1] at h0; cases h0), fun j hj => ?_⟩
      rw [hB1.1, List.mem_singleton] at hj
      subst hj
      rw [if_neg (by rw [hB1.2]; simp)]
      simp only [wpPlan, show ¬ ((2 : Nat) = 0) by decide, show ¬ ((2 : Nat) = 1) by decide, show ¬ ((2 : Nat) = 3) by decide, if_false] at h
      exact wpOp_mono (fun a' w' h' => ⟨.inr h'.1, ih a' w' h'.2⟩) h
    by_cases hk3 : k = 3
    · subst hk3
      simp only [beq_self_eq_true, Bool.or_true, if_true, Bool.and_eq_true, beq_iff_eq, Bool.not_eq_true', show ((3 : Nat) == 2) = false from rfl, Bool.false_or] at hB1
      refine ⟨fun h0 => (by rw [hB1.1.1] at h0; cases h0), fun j hj => ?_⟩
      rw [hB1.1.1, List.mem_singleton] at hj
      subst hj
      rw [if_neg (by rw [hB1.1.2]; simp)]
      simp only [wpPlan, show ¬ ((3 : Nat) = 0) by decide, show ¬ ((3 : Nat) = 1) by decide, if_false, if_true] at h
      exact wpOp_mono (fun a' w' h' => ⟨.inl hB1.2, ih a' w' h'⟩) h
    · have hkb : (k == 2) = false := by simpa using hk2
      have hkc : (k == 3) = false := by simpa using hk3
      simp only [hkb, hkc, Bool.or_false, Bool.false_eq_true, if_false, Bool.and_eq_true, List.contains_iff_mem, Bool.not_eq_true'] at hB1
      obtain ⟨⟨⟨⟨⟨hlt, hr⟩, hfi⟩, hdep⟩, hun⟩, hfree⟩ := hB1
      obtain ⟨_, oi, hoi, _⟩ := mem_ready.1 hr
      by_cases hk0 : k = 0
      · subst hk0
        simp only [wpPlan, if_true] at h
        obtain ⟨v, hy, hK⟩ := yieldsAt_of_stOp hoi h
        exact wpMix_still hoi hs hfi _ listed a (depP_of hdep) (freeP_of hoi (by simpa using hfree)) hr hy (ih _ w hK)
      · have hk0b : (k == 0) = false := by simpa using hk0
        simp only [hk0b, Bool.false_eq_true, if_false] at hfree
        have h' : ∃ v, (∀ o, ops[i]? = some o → YieldsIf P ops (Touch T w) o v a ∧ wpPlan P ops Q E T rest (a.put o.dst v) w) := by
          by_cases hk1 : k = 1
          · subst hk1; simpa [wpPlan] using h
          · exfalso; simp only [decide_eq_true_eq] at hlt; omega
        obtain ⟨v, hv⟩ := h'
        obtain ⟨hy, hK⟩ := hv oi hoi
        exact wpMix_held hoi hs hfi (fun c a w h => hQ c a _ _ w h) _ listed a w (depP_of hdep) (freeP_of hoi hfree) hr hy (ih _ w hK)

/-- What stands where two writers may come up: either first. -/
def Fork (P : Program) (ops : Array Oper) (Q : Exit → Act → World → Prop) (T : Nat → Prop) (i j : Nat) (p q : List Stp) (a : Act) (w : World) : Prop :=
  wpOp P ops Q i (fun a' w' => Touch T w w' ∧ wpPlan P ops Q (Q .normal) T p a' w') a w ∧ wpOp P ops Q j (fun a' w' => Touch T w w' ∧ wpPlan P ops Q (Q .normal) T q a' w') a w
def doneB (md : Region.Mode) (ops : Array Oper) (listed : Array Bool) : Bool := (Region.ready md ops listed).isEmpty
def forkB (ops : Array Oper) (pre : List Stp) (i j : Nat) (p q : List Stp) : Bool :=
  Region.noSelect ops && (pre.length + (p.length + 1) == ops.size) && (p.length == q.length) &&
  planFromE .any ops (flOf (pre ++ (p ++ q))) (ltOf (pre ++ (p ++ q))) (fun listed => (Region.ready .any ops listed == [i, j]) && !flOf (pre ++ (p ++ q)) i && !flOf (pre ++ (p ++ q)) j &&
    planFromE .any ops (flOf (pre ++ (p ++ q))) (ltOf (pre ++ (p ++ q))) (doneB .any ops) p (listed.setIfInBounds i true) && planFromE .any ops (flOf (pre ++ (p ++ q))) (ltOf (pre ++ (p ++ q))) (doneB .any ops) q (listed.setIfInBounds j true)) pre (Array.replicate ops.size false)
theorem wp_region_fork {id : Nat} {a : Act} {w : World} {l : List Oper} (pre : List Stp) (i j : Nat) (p q : List Stp) (T : Nat → Prop) (hm : P.follows .mixedOrders = true) (hB : forkB l.toArray pre i j p q = true)
    (hQ : ∀ c a d v w, Q (.panic c) (Act.put a d v) w → Q (.panic c) a w) (h : wpPlan P l.toArray Q (Fork P l.toArray Q T i j p q) T pre a w.drew) : (Code.region id l.toArray true).wp P Q a w := by
  simp only [forkB, Bool.and_eq_true, beq_iff_eq] at hB
  obtain ⟨⟨⟨hsel, hlen⟩, hpq⟩, hB⟩ := hB
  refine wp_region_any hm (wpMix_sound (T := T) (fl := flOf (pre ++ (p ++ q))) (lt := ltOf (pre ++ (p ++ q))) _ _ _ _ ?_)
  have hD : ∀ listed a w, doneB .any l.toArray listed = true → Q .normal a w → wpMix P .any l.toArray Q T (flOf (pre ++ (p ++ q))) (ltOf (pre ++ (p ++ q))) 0 listed a w := fun listed a w h1 h2 => ⟨by simpa [doneB] using h1, h2⟩
  have key := wpPlan_sound (P := P) (md := .any) (ops := l.toArray) (Q := Q) (E := Fork P l.toArray Q T i j p q) (T := T) (fl := flOf (pre ++ (p ++ q))) (lt := ltOf (pre ++ (p ++ q))) (n := p.length + 1) ?_ hQ hsel pre (Array.replicate l.toArray.size false) a w.drew hB h
  · rw [show l.toArray.size = p.length + 1 + pre.length by omega] at key ⊢; exact key
  · intro listed a w he hF
    simp only [Bool.and_eq_true, beq_iff_eq, Bool.not_eq_true'] at he
    obtain ⟨⟨⟨⟨e1, e2⟩, e3⟩, e4⟩, e5⟩ := he
    refine ⟨fun h0 => (by rw [e1] at h0; cases h0), fun k hk => ?_⟩
    rw [e1] at hk
    rcases List.mem_cons.1 hk with rfl | hk
    · rw [if_neg (by rw [e2]; simp)]
      refine wpOp_mono (fun a' w' h' => ⟨.inr h'.1, ?_⟩) hF.1
      have := wpPlan_sound hD hQ hsel p _ a' w' e4 h'.2
      simpa using this
    · rw [List.mem_singleton] at hk
      subst hk
      rw [if_neg (by rw [e3]; simp)]
      refine wpOp_mono (fun a' w' h' => ⟨.inr h'.1, ?_⟩) hF.2
      have := wpPlan_sound hD hQ hsel q _ a' w' e5 h'.2
      rw [hpq]
      simpa using this
/-- A fork, opened: both orders; K is what is left behind the first of them. -/
theorem fork_ {a : Act} {w : World} {i j : Nat} {p q : List Stp} {oi oj : Oper} (hi : ops[i]? = some oi) (hj : ops[j]? = some oj) (hwi : Region.wanted oi (yielded ops a.tmps) = true) (hwj : Region.wanted oj (yielded ops a.tmps) = true)
    (h1 : ∀ K : Act → World → Prop, (∀ a' w', Touch T w w' ∧ wpPlan P ops Q (Q .normal) T p a' w' → K a' w') → oi.wp P a w K Q)
    (h2 : ∀ K : Act → World → Prop, (∀ a' w', Touch T w w' ∧ wpPlan P ops Q (Q .normal) T q a' w' → K a' w') → oj.wp P a w K Q) : wpPlan P ops Q (Fork P ops Q T i j p q) T [] a w := by
  refine ⟨?_, ?_⟩
  · simp only [wpOp, hi]; rw [if_pos hwi]; exact .inl (h1 _ (fun _ _ h => h))
  · simp only [wpOp, hj]; rw [if_pos hwj]; exact .inl (h2 _ (fun _ _ h => h))
theorem plan_done {a : Act} {w : World} (h : E a w) : wpPlan P ops Q E T [] a w := h
theorem plan_s {i : Nat} {o : Oper} {rest : List Stp} {a : Act} {w : World} (hi : ops[i]? = some o)
    (h : ∀ K : Act → Prop, (∀ a', wpPlan P ops Q E T rest a' w → K a') → if Region.wanted o (yielded ops a.tmps) = true then o.still P a w K else K (a.put o.dst undef)) : wpPlan P ops Q E T ((0, i) :: rest) a w := by
  simp only [wpPlan, if_true, stOp, hi]
  exact h _ (fun _ h => h)
theorem plan_s1 {i : Nat} {o : Oper} {rest : List Stp} {a : Act} {w : World} (hi : ops[i]? = some o) (hw : Region.wanted o (yielded ops a.tmps) = true)
    (h : ∀ K : Act → Prop, (∀ a', wpPlan P ops Q E T rest a' w → K a') → o.still P a w K) : wpPlan P ops Q E T ((0, i) :: rest) a w :=
  plan_s hi fun K hK => by rw [if_pos hw]; exact h K hK
theorem plan_h {i : Nat} {o : Oper} {rest : List Stp} {a : Act} {w : World} {v : Value} (hi : ops[i]? = some o) (hw : Region.wanted o (yielded ops a.tmps) = true)
    (hy : ∀ w', Touch T w w' → (execOp a.eval o).run P w' = .ok (.value v) w') (h : wpPlan P ops Q E T rest (a.put o.dst v) w) : wpPlan P ops Q E T ((1, i) :: rest) a w := by
  simp only [wpPlan, show ¬ ((1 : Nat) = 0) by decide, if_false, if_true]
  refine ⟨v, fun o' ho' => ?_⟩
  rw [hi] at ho'
  injection ho' with ho'
  subst ho'
  exact ⟨.inl ⟨hw, hy⟩, h⟩
theorem plan_hn {i : Nat} {o : Oper} {rest : List Stp} {a : Act} {w : World} (hi : ops[i]? = some o) (hw : Region.wanted o (yielded ops a.tmps) = false)
    (h : wpPlan P ops Q E T rest (a.put o.dst undef) w) : wpPlan P ops Q E T ((1, i) :: rest) a w := by
  simp only [wpPlan, show ¬ ((1 : Nat) = 0) by decide, if_false, if_true]
  refine ⟨undef, fun o' ho' => ?_⟩
  rw [hi] at ho'
  injection ho' with ho'
  subst ho'
  exact ⟨.inr ⟨hw, rfl⟩, h⟩
theorem plan_a {i : Nat} {o : Oper} {rest : List Stp} {a : Act} {w : World} (hi : ops[i]? = some o)
    (h : ∀ K : Act → World → Prop, (∀ a' w', Touch T w w' ∧ wpPlan P ops Q E T rest a' w' → K a' w') → if Region.wanted o (yielded ops a.tmps) = true then o.wp P a w K Q else K (a.put o.dst undef) w) : wpPlan P ops Q E T ((2, i) :: rest) a w := by
  have h1 := h _ (fun _ _ h => h)
  simp only [wpPlan, show ¬ ((2 : Nat) = 0) by decide, show ¬ ((2 : Nat) = 1) by decide, show ¬ ((2 : Nat) = 3) by decide, if_false, wpOp, hi]
  split
  · rename_i hw; rw [if_pos hw] at h1; exact .inl h1
  · rename_i hw; rw [if_neg hw] at h1; exact h1
theorem plan_a1 {i : Nat} {o : Oper} {rest : List Stp} {a : Act} {w : World} (hi : ops[i]? = some o) (hw : Region.wanted o (yielded ops a.tmps) = true)
    (h : ∀ K : Act → World → Prop, (∀ a' w', Touch T w w' ∧ wpPlan P ops Q E T rest a' w' → K a' w') → o.wp P a w K Q) : wpPlan P ops Q E T ((2, i) :: rest) a w :=
  plan_a hi fun K hK => by rw [if_pos hw]; exact h K hK
end
end Go.Proofs.Ytpgakkpmpnebnaa.PF
