/- A region that draws its order and in which two writers may come up in either order: a plan up to there, then one for each order (a fork). No program in sight. Plans that fork several times (PlanF's fork, one in another). No program in sight. A struct's cells as one array in a plan that forks: held loads, stores alone. The reference's client: its cells. The reference's client: next. The reference's client: Tick. The reference's client: Want. -/
import Derived.Test.YtlcefchbfjfifaaVPlan
import Derived.Test.YtlcefchbfjfifaaVCalT
import Derived.Test.YtlcefchbfjfifaaVArgsQ
import Derived.Test.YtlcefchbfjfifaaVCdF
section
namespace Go.Proofs.Ytlcefchbfjfifaa.PF
open Go

def planFromE (md : Region.Mode) (ops : Array Oper) (fl lt : Nat → Bool) (e : Array Bool → Bool) : List Stp → Array Bool → Bool
  | [], listed => e listed
  | (k, i) :: rest, listed =>
    (if k == 2 || k == 3 then (Region.ready md ops listed == [i]) && !fl i && (k == 2 || lt i)
     else decide (k < 2) && (Region.ready md ops listed).contains i && fl i && depB md ops listed (deps md ops listed i) i && !listed.getD i true &&
       freeB ops listed (deps md ops listed i) i (if k == 0 then fl else fun j => !lt j)) && planFromE md ops fl lt e rest (listed.setIfInBounds i true)

section
variable {P : Program} {ops : Array Oper} {Q : Exit → Act → World → Prop} {E : Act → World → Prop} {md : Region.Mode} {T : Nat → Prop} {fl lt : Nat → Bool}
/-- The plan, walked; at its end stands E. -/
def wpPlan (P : Program) (ops : Array Oper) (Q : Exit → Act → World → Prop) (E : Act → World → Prop) (T : Nat → Prop) : List Stp → Act → World → Prop
  | [], a, w => E a w
  | (k, i) :: rest, a, w =>
    if k = 0 then stOp P ops w i (fun a' => wpPlan P ops Q E T rest a' w) a
    else if k = 1 then ∃ v, (∀ o, ops[i]? = some o → YieldsIf P ops (Touch T w) o v a ∧ wpPlan P ops Q E T rest (a.put o.dst v) w)
    else if k = 3 then wpOp P ops Q i (fun a' w' => wpPlan P ops Q E T rest a' w') a w
    else wpOp P ops Q i (fun a' w' => Touch T w w' ∧ wpPlan P ops Q E T rest a' w') a w

theorem wpPlan_sound {e : Array Bool → Bool} {n : Nat} (hE : ∀ listed a w, e listed = true → E a w → wpMix P md ops Q T fl lt n listed a w)
    (hQ : ∀ c a d v w, Q (.panic c) (Act.put a d v) w → Q (.panic c) a w) (hsel : Region.noSelect ops = true) : ∀ (plan : List Stp) (listed : Array Bool) (a : Act) (w : World),
    planFromE md ops fl lt e plan listed = true → wpPlan P ops Q E T plan a w → wpMix P md ops Q T fl lt (n + plan.length) listed a w
  | [], listed, a, w, hB, h => hE listed a w (by simpa [planFromE] using hB) h
  | (k, i) :: rest, listed, a, w, hB, h => by
    simp only [planFromE, Bool.and_eq_true] at hB
    obtain ⟨hB1, hB2⟩ := hB
    have ih := fun a' w' => wpPlan_sound hE hQ hsel rest (listed.setIfInBounds i true) a' w' hB2
    have hs := Region.noSelect_spec hsel
    show wpMix P md ops Q T fl lt ((n + rest.length) + 1) listed a w
    by_cases hk2 : k = 2
    · subst hk2
      simp only [beq_self_eq_true, Bool.true_or, if_true, Bool.and_eq_true, beq_iff_eq, Bool.not_eq_true', and_true] at hB1
      refine ⟨fun h0 => (by rw [hB1.1] at h0; cases h0), fun j hj => ?_⟩
      rw [hB1.1, List.mem_singleton] at hj
      subst hj
      rw [if_neg (by rw [hB1.2]; simp)]
      simp only [wpPlan, show ¬ ((2 : Nat) = 0) by decide, show ¬ ((2 : Nat) = 1) by decide, show ¬ ((2 : Nat) = 3) by decide, if_false] at h
      exact wpOp_mono (fun a' w' h' => ⟨.inr h'.1, ih a' w' h'.2⟩) h
    by_cases hk3 : k = 3
    · subst hk3
      simp only [beq_self_eq_true, Bool.or_true, if_true, Bool.and_eq_true, beq_iff_eq, Bool.not_eq_true', show ((3 : Nat) == 2) = false from rfl, Bool.false_or] at hB1
      refine ⟨fun h0 => (by rw [hB1.1.1] at h0; cases h0), fun j hj => ?_⟩
      rw [hB1.1.1, List.mem_singleton] at hj
      subst hj
      rw [if_neg (by rw [hB1.1.2]; simp)]
      simp only [wpPlan, show ¬ ((3 : Nat) = 0) by decide, show ¬ ((3 : Nat) = 1) by decide, if_false, if_true] at h
      exact wpOp_mono (fun a' w' h' => ⟨.inl hB1.2, ih a' w' h'⟩) h
    · have hkb : (k == 2) = false := by simpa using hk2
      have hkc : (k == 3) = false := by simpa using hk3
      simp only [hkb, hkc, Bool.or_false, Bool.false_eq_true, if_false, Bool.and_eq_true, List.contains_iff_mem, Bool.not_eq_true'] at hB1
      obtain ⟨⟨⟨⟨⟨hlt, hr⟩, hfi⟩, hdep⟩, hun⟩, hfree⟩ := hB1
      obtain ⟨_, oi, hoi, _⟩ := mem_ready.1 hr
      by_cases hk0 : k = 0
      · subst hk0
        simp only [wpPlan, if_true] at h
        obtain ⟨v, hy, hK⟩ := yieldsAt_of_stOp hoi h
        exact wpMix_still hoi hs hfi _ listed a (depP_of hdep) (freeP_of hoi (by simpa using hfree)) hr hy (ih _ w hK)
      · have hk0b : (k == 0) = false := by simpa using hk0
        simp only [hk0b, Bool.false_eq_true, if_false] at hfree
        have h' : ∃ v, (∀ o, ops[i]? = some o → YieldsIf P ops (Touch T w) o v a ∧ wpPlan P ops Q E T rest (a.put o.dst v) w) := by
          by_cases hk1 : k = 1
          · subst hk1; simpa [wpPlan] using h
          · exfalso; simp only [decide_eq_true_eq] at hlt; omega
        obtain ⟨v, hv⟩ := h'
        obtain ⟨hy, hK⟩ := hv oi hoi
        exact wpMix_held hoi hs hfi (fun c a w h => hQ c a _ _ w h) _ listed a w (depP_of hdep) (freeP_of hoi hfree) hr hy (ih _ w hK)

/-- What stands where two writers may come up: either first. -/
def Fork (P : Program) (ops : Array Oper) (Q : Exit → Act → World → Prop) (T : Nat → Prop) (i j : Nat) (p q : List Stp) (a : Act) (w : World) : Prop :=
  wpOp P ops Q i (fun a' w' => Touch T w w' ∧ wpPlan P ops Q (Q .normal) T p a' w') a w ∧ wpOp P ops Q j (fun a' w' => Touch T w w' ∧ wpPlan P ops Q (Q .normal) T q a' w') a w
def doneB (md : Region.Mode) (ops : Array Oper) (listed : Array Bool) : Bool := (Region.ready md ops listed).isEmpty
def forkB (ops : Array Oper) (pre : List Stp) (i j : Nat) (p q : List Stp) : Bool :=
  Region.noSelect ops && (pre.length + (p.length + 1) == ops.size) && (p.length == q.length) &&
  planFromE .any ops (flOf (pre ++ (p ++ q))) (ltOf (pre ++ (p ++ q))) (fun listed => (Region.ready .any ops listed == [i, j]) && !flOf (pre ++ (p ++ q)) i && !flOf (pre ++ (p ++ q)) j &&
    planFromE .any ops (flOf (pre ++ (p ++ q))) (ltOf (pre ++ (p ++ q))) (doneB .any ops) p (listed.setIfInBounds i true) && planFromE .any ops (flOf (pre ++ (p ++ q))) (ltOf (pre ++ (p ++ q))) (doneB .any ops) q (listed.setIfInBounds j true)) pre (Array.replicate ops.size false)
theorem wp_region_fork {id : Nat} {a : Act} {w : World} {l : List Oper} (pre : List Stp) (i j : Nat) (p q : List Stp) (T : Nat → Prop) (hm : P.follows .mixedOrders = true) (hB : forkB l.toArray pre i j p q = true)
    (hQ : ∀ c a d v w, Q (.panic c) (Act.put a d v) w → Q (.panic c) a w) (h : wpPlan P l.toArray Q (Fork P l.toArray Q T i j p q) T pre a w.drew) : (Code.region id l.toArray true).wp P Q a w := by
  simp only [forkB, Bool.and_eq_true, beq_iff_eq] at hB
  obtain ⟨⟨⟨hsel, hlen⟩, hpq⟩, hB⟩ := hB
  refine wp_region_any hm (wpMix_sound (T := T) (fl := flOf (pre ++ (p ++ q))) (lt := ltOf (pre ++ (p ++ q))) _ _ _ _ ?_)
  have hD : ∀ listed a w, doneB .any l.toArray listed = true → Q .normal a w → wpMix P .any l.toArray Q T (flOf (pre ++ (p ++ q))) (ltOf (pre ++ (p ++ q))) 0 listed a w := fun listed a w h1 h2 => ⟨by simpa [doneB] using h1, h2⟩
  have key := wpPlan_sound (P := P) (md := .any) (ops := l.toArray) (Q := Q) (E := Fork P l.toArray Q T i j p q) (T := T) (fl := flOf (pre ++ (p ++ q))) (lt := ltOf (pre ++ (p ++ q))) (n := p.length + 1) ?_ hQ hsel pre (Array.replicate l.toArray.size false) a w.drew hB h
  · rw [show l.toArray.size = p.length + 1 + pre.length by omega] at key ⊢; exact key
  · intro listed a w he hF
    simp only [Bool.and_eq_true, beq_iff_eq, Bool.not_eq_true'] at he
    obtain ⟨⟨⟨⟨e1, e2⟩, e3⟩, e4⟩, e5⟩ := he
    refine ⟨fun h0 => (by rw [e1] at h0; cases h0), fun k hk => ?_⟩
    rw [e1] at hk
    rcases List.mem_cons.1 hk with rfl | hk
    · rw [if_neg (by rw [e2]; simp)]
      refine wpOp_mono (fun a' w' h' => ⟨.inr h'.1, ?_⟩) hF.1
      have := wpPlan_sound hD hQ hsel p _ a' w' e4 h'.2
      simpa using this
    · rw [List.mem_singleton] at hk
      subst hk
      rw [if_neg (by rw [e3]; simp)]
      refine wpOp_mono (fun a' w' h' => ⟨.inr h'.1, ?_⟩) hF.2
      have := wpPlan_sound hD hQ hsel q _ a' w' e5 h'.2
      rw [hpq]
      simpa using this
/-- A fork, opened: both orders; K is what is left behind the first of them. -/
theorem fork_ {a : Act} {w : World} {i j : Nat} {p q : List Stp} {oi oj : Oper} (hi : ops[i]? = some oi) (hj : ops[j]? = some oj) (hwi : Region.wanted oi (yielded ops a.tmps) = true) (hwj : Region.wanted oj (yielded ops a.tmps) = true)
    (h1 : ∀ K : Act → World → Prop, (∀ a' w', Touch T w w' ∧ wpPlan P ops Q (Q .normal) T p a' w' → K a' w') → oi.wp P a w K Q)
    (h2 : ∀ K : Act → World → Prop, (∀ a' w', Touch T w w' ∧ wpPlan P ops Q (Q .normal) T q a' w' → K a' w') → oj.wp P a w K Q) : wpPlan P ops Q (Fork P ops Q T i j p q) T [] a w := by
  refine ⟨?_, ?_⟩
  · simp only [wpOp, hi]; rw [if_pos hwi]; exact .inl (h1 _ (fun _ _ h => h))
  · simp only [wpOp, hj]; rw [if_pos hwj]; exact .inl (h2 _ (fun _ _ h => h))
theorem plan_done {a : Act} {w : World} (h : E a w) : wpPlan P ops Q E T [] a w := h
theorem plan_s {i : Nat} {o : Oper} {rest : List Stp} {a : Act} {w : World} (hi : ops[i]? = some o)
    (h : ∀ K : Act → Prop, (∀ a', wpPlan P ops Q E T rest a' w → K a') → if Region.wanted o (yielded ops a.tmps) = true then o.still P a w K else K (a.put o.dst undef)) : wpPlan P ops Q E T ((0, i) :: rest) a w := by
  simp only [wpPlan, if_true, stOp, hi]
  exact h _ (fun _ h => h)
theorem plan_s1 {i : Nat} {o : Oper} {rest : List Stp} {a : Act} {w : World} (hi : ops[i]? = some o) (hw : Region.wanted o (yielded ops a.tmps) = true)
    (h : ∀ K : Act → Prop, (∀ a', wpPlan P ops Q E T rest a' w → K a') → o.still P a w K) : wpPlan P ops Q E T ((0, i) :: rest) a w :=
  plan_s hi fun K hK => by rw [if_pos hw]; exact h K hK
theorem plan_h {i : Nat} {o : Oper} {rest : List Stp} {a : Act} {w : World} {v : Value} (hi : ops[i]? = some o) (hw : Region.wanted o (yielded ops a.tmps) = true)
    (hy : ∀ w', Touch T w w' → (execOp a.eval o).run P w' = .ok (.value v) w') (h : wpPlan P ops Q E T rest (a.put o.dst v) w) : wpPlan P ops Q E T ((1, i) :: rest) a w := by
  simp only [wpPlan, show ¬ ((1 : Nat) = 0) by decide, if_false, if_true]
  refine ⟨v, fun o' ho' => ?_⟩
  rw [hi] at ho'
  injection ho' with ho'
  subst ho'
  exact ⟨.inl ⟨hw, hy⟩, h⟩
theorem plan_hn {i : Nat} {o : Oper} {rest : List Stp} {a : Act} {w : World} (hi : ops[i]? = some o) (hw : Region.wanted o (yielded ops a.tmps) = false)
    (h : wpPlan P ops Q E T rest (a.put o.dst undef) w) : wpPlan P ops Q E T ((1, i) :: rest) a w := by
  simp only [wpPlan, show ¬ ((1 : Nat) = 0) by decide, if_false, if_true]
  refine ⟨undef, fun o' ho' => ?_⟩
  rw [hi] at ho'
  injection ho' with ho'
  subst ho'
  exact ⟨.inr ⟨hw, rfl⟩, h⟩
theorem plan_a {i : Nat} {o : Oper} {rest : List Stp} {a : Act} {w : World} (hi : ops[i]? = some o)
    (h : ∀ K : Act → World → Prop, (∀ a' w', Touch T w w' ∧ wpPlan P ops Q E T rest a' w' → K a' w') → if Region.wanted o (yielded ops a.tmps) = true then o.wp P a w K Q else K (a.put o.dst undef) w) : wpPlan P ops Q E T ((2, i) :: rest) a w := by
  have h1 := h _ (fun _ _ h => h)
  simp only [wpPlan, show ¬ ((2 : Nat) = 0) by decide, show ¬ ((2 : Nat) = 1) by decide, show ¬ ((2 : Nat) = 3) by decide, if_false, wpOp, hi]
  split
  · rename_i hw; rw [if_pos hw] at h1; exact .inl h1
  · rename_i hw; rw [if_neg hw] at h1; exact h1
theorem plan_a1 {i : Nat} {o : Oper} {rest : List Stp} {a : Act} {w : World} (hi : ops[i]? = some o) (hw : Region.wanted o (yielded ops a.tmps) = true)
    (h : ∀ K : Act → World → Prop, (∀ a' w', Touch T w w' ∧ wpPlan P ops Q E T rest a' w' → K a' w') → o.wp P a w K Q) : wpPlan P ops Q E T ((2, i) :: rest) a w :=
  plan_a hi fun K hK => by rw [if_pos hw]; exact h K hK
end
end Go.Proofs.Ytlcefchbfjfifaa.PF
end

section
namespace Go.Proofs.Ytlcefchbfjfifaa.PF
open Go

/-- A plan as a tree: a list of steps to its end, or to a fork. -/
inductive PT where
  | fin (l : List Stp)
  | fork (l : List Stp) (i j : Nat) (p q : PT)
def PT.len : PT → Nat
  | .fin l => l.length
  | .fork l _ _ p _ => p.len + 1 + l.length
def PT.all : PT → List Stp
  | .fin l => l
  | .fork l _ _ p q => l ++ (p.all ++ q.all)
def ptB (md : Region.Mode) (ops : Array Oper) (fl lt : Nat → Bool) : PT → Array Bool → Bool
  | .fin l => planFromE md ops fl lt (doneB md ops) l
  | .fork l i j p q => planFromE md ops fl lt (fun listed => (Region.ready md ops listed == [i, j]) && !fl i && !fl j && (p.len == q.len) && ptB md ops fl lt p (listed.setIfInBounds i true) && ptB md ops fl lt q (listed.setIfInBounds j true)) l
section
variable {P : Program} {ops : Array Oper} {Q : Exit → Act → World → Prop} {md : Region.Mode} {T : Nat → Prop} {fl lt : Nat → Bool}
def wpT (P : Program) (ops : Array Oper) (Q : Exit → Act → World → Prop) (T : Nat → Prop) : PT → Act → World → Prop
  | .fin l => wpPlan P ops Q (Q .normal) T l
  | .fork l i j p q => wpPlan P ops Q (fun a w => wpOp P ops Q i (fun a' w' => Touch T w w' ∧ wpT P ops Q T p a' w') a w ∧ wpOp P ops Q j (fun a' w' => Touch T w w' ∧ wpT P ops Q T q a' w') a w) T l
theorem wpT_sound (hQ : ∀ c a d v w, Q (.panic c) (Act.put a d v) w → Q (.panic c) a w) (hsel : Region.noSelect ops = true) : ∀ (t : PT) (listed : Array Bool) (a : Act) (w : World),
    ptB md ops fl lt t listed = true → wpT P ops Q T t a w → wpMix P md ops Q T fl lt t.len listed a w
  | .fin l, listed, a, w, hB, h => by
    have := wpPlan_sound (n := 0) (e := doneB md ops) (E := Q .normal) (fl := fl) (lt := lt) (T := T) (P := P) (fun listed a w h1 h2 => (⟨by simpa [doneB] using h1, h2⟩ : wpMix P md ops Q T fl lt 0 listed a w)) hQ hsel l listed a w hB h
    simpa [PT.len] using this
  | .fork l i j p q, listed, a, w, hB, h => by
    refine wpPlan_sound (n := p.len + 1) ?_ hQ hsel l listed a w hB h
    intro listed a w he hF
    simp only [Bool.and_eq_true, beq_iff_eq, Bool.not_eq_true'] at he
    obtain ⟨⟨⟨⟨⟨e1, e2⟩, e3⟩, e6⟩, e4⟩, e5⟩ := he
    refine ⟨fun h0 => (by rw [e1] at h0; cases h0), fun k hk => ?_⟩
    rw [e1] at hk
    rcases List.mem_cons.1 hk with rfl | hk
    · rw [if_neg (by rw [e2]; simp)]
      exact wpOp_mono (fun a' w' h' => ⟨.inr h'.1, wpT_sound hQ hsel p _ a' w' e4 h'.2⟩) hF.1
    · rw [List.mem_singleton] at hk
      subst hk
      rw [if_neg (by rw [e3]; simp), e6]
      exact wpOp_mono (fun a' w' h' => ⟨.inr h'.1, wpT_sound hQ hsel q _ a' w' e5 h'.2⟩) hF.2
def treeB (ops : Array Oper) (t : PT) : Bool :=
  Region.noSelect ops && (t.len == ops.size) && ptB .any ops (flOf t.all) (ltOf t.all) t (Array.replicate ops.size false)
theorem wp_region_tree {id : Nat} {a : Act} {w : World} {l : List Oper} (t : PT) (T : Nat → Prop) (hm : P.follows .mixedOrders = true) (hB : treeB l.toArray t = true)
    (hQ : ∀ c a d v w, Q (.panic c) (Act.put a d v) w → Q (.panic c) a w) (h : wpT P l.toArray Q T t a w.drew) : (Code.region id l.toArray true).wp P Q a w := by
  simp only [treeB, Bool.and_eq_true, beq_iff_eq] at hB
  obtain ⟨⟨hsel, hlen⟩, hB⟩ := hB
  refine wp_region_any hm (wpMix_sound (T := T) (fl := flOf t.all) (lt := ltOf t.all) _ _ _ _ ?_)
  have key := wpT_sound (P := P) (md := .any) (ops := l.toArray) (Q := Q) (T := T) (fl := flOf t.all) (lt := ltOf t.all) hQ hsel t (Array.replicate l.toArray.size false) a w.drew hB h
  rw [← hlen] at key ⊢
  exact key
/-- A tree's fork, opened. -/
theorem treeFork {a : Act} {w : World} {l : List Stp} {i j : Nat} {p q : PT}
    (h : wpPlan P ops Q (fun a w => wpOp P ops Q i (fun a' w' => Touch T w w' ∧ wpT P ops Q T p a' w') a w ∧ wpOp P ops Q j (fun a' w' => Touch T w w' ∧ wpT P ops Q T q a' w') a w) T l a w) : wpT P ops Q T (.fork l i j p q) a w := h
theorem treeFin {a : Act} {w : World} {l : List Stp} (h : wpPlan P ops Q (Q .normal) T l a w) : wpT P ops Q T (.fin l) a w := h
theorem tree_ {a : Act} {w : World} {i j : Nat} {p q : PT} {oi oj : Oper} (hi : ops[i]? = some oi) (hj : ops[j]? = some oj) (hwi : Region.wanted oi (yielded ops a.tmps) = true) (hwj : Region.wanted oj (yielded ops a.tmps) = true)
    (h1 : ∀ K : Act → World → Prop, (∀ a' w', Touch T w w' ∧ wpT P ops Q T p a' w' → K a' w') → oi.wp P a w K Q)
    (h2 : ∀ K : Act → World → Prop, (∀ a' w', Touch T w w' ∧ wpT P ops Q T q a' w' → K a' w') → oj.wp P a w K Q) :
    wpPlan P ops Q (fun a w => wpOp P ops Q i (fun a' w' => Touch T w w' ∧ wpT P ops Q T p a' w') a w ∧ wpOp P ops Q j (fun a' w' => Touch T w w' ∧ wpT P ops Q T q a' w') a w) T [] a w := by
  refine plan_done ⟨?_, ?_⟩
  · simp only [wpOp, hi]; rw [if_pos hwi]; exact .inl (h1 _ (fun _ _ h => h))
  · simp only [wpOp, hj]; rw [if_pos hwj]; exact .inl (h2 _ (fun _ _ h => h))
end
end Go.Proofs.Ytlcefchbfjfifaa.PF
end

section
namespace Go.Proofs.Ytlcefchbfjfifaa
open Go.RowKit
theorem Touch.swapN {S : Nat → Prop} {w : World} (h : S w.heap.size) (cs cs' : Array Value) (t t' : TypeId) : Touch S (w.alloc (.cells cs t)) (w.alloc (.cells cs' t')) :=
  ⟨rfl, rfl, rfl, by simp, fun k hk hn => by
    simp at hk
    have hne : k ≠ w.heap.size := fun e => hn (e ▸ h)
    rw [Below.heap_alloc _ _ _ (by omega), Below.heap_alloc _ _ _ (by omega)]⟩
namespace PF
section
variable {ops : Array Oper} {o : Oper} {a : Act} {w : World} {Q : Exit → Act → World → Prop} {E : Act → World → Prop} {T : Nat → Prop}
theorem plan_hC {t : TypeId} {n : Nat} (R : RowT t n) {i : Nat} {rest : List Stp} (x : Operand) (b k : Nat) (cs : Array Value) (hn : cs.size = n) (hc : ∀ w', Touch T w w' → w'.rangeAt b k cs.toList) (hi : ops[i]? = some o) (ho : o.op = .load t x) (hw : Region.wanted o (yielded ops a.tmps) = true) (hx : a.eval x = .pointer (some ⟨b, k, none⟩))
    (h : wpPlan Try.prog ops Q E T rest (a.put o.dst (.agg cs)) w) : wpPlan Try.prog ops Q E T ((1, i) :: rest) a w := by
  obtain ⟨d, h1, h2⟩ := R.d
  refine plan_h hi hw (fun w' ht => ?_) h
  unfold execOp
  simp only [ho, hx, Instr.loadAt, Instr.sureAddr, Sem.run_bind, Sem.run_pure, Result.andThen_ok, run_loadVar_mid (P := Try.prog) w' b k t cs.toList d (hc w' ht) h1 h2 (by rw [R.z]; simp [hn])]
theorem plan_aM {t : TypeId} {n : Nat} (R : RowT t n) {i : Nat} {rest : List Stp} (x y : Operand) (b k : Nat) (cs : Array Value) (TY : TypeId) (C : Array Value) (hb : Blk w b TY C) (hC : k + n ≤ C.size) (hn : cs.size = n) (h1 : cs.all (·.oneCell') = true) (hS : T b) (hi : ops[i]? = some o) (ho : o.op = .store t x y) (hw : Region.wanted o (yielded ops a.tmps) = true) (hx : a.eval x = .pointer (some ⟨b, k, none⟩)) (hy : a.eval y = .agg cs)
    (h : ∀ w', Blk w' b TY (setAll C k cs.toList) → Touch (fun q => q = b) w w' → w'.heap.size = w.heap.size → wpPlan Try.prog ops Q E T rest (a.put o.dst undef) w') : wpPlan Try.prog ops Q E T ((2, i) :: rest) a w := by
  refine plan_a1 hi hw fun K hK => ?_
  have hth : w.there b k cs.size := fun j hj => by
    have e := hb.cell (k + j)
    have hf := hb.frozen (k + j)
    rw [Array.getElem?_eq_getElem (by omega)] at e
    exact ⟨by rw [e]; rfl, hf⟩
  have hB := hb.setCells cs.toList k
  have hT : Touch (fun q => q = b) w (w.setCells b k cs.toList) := Touch.setCells cs.toList k w (Touch.refl _ _) (fun _ => rfl)
  refine wp_store_mid t x y ho b k cs hx hy hth (by rw [R.z]; simp [hn]) h1 ?_
  exact hK _ _ ⟨hT.mono (fun q _ e => e ▸ hS), h _ hB hT (setCells_hsize _ _ _)⟩
end
end PF
end Go.Proofs.Ytlcefchbfjfifaa
end

section
namespace Go.Proofs.Ytlcefchbfjfifaa
open Go.RowKit Cal
set_option maxHeartbeats 4000000
set_option maxRecDepth 100000
set_option linter.unusedVariables false
attribute [local irreducible] wpPlan

/-- What the document's client has beside the numbers. -/
structure RfM where
  DC : Array Value
  dv : Value
  xs : List ResV
def rfC (c : Cl) (M : RfM) : Array Value := #[.int .u64 c.number, .int .i64 c.servers, .int .u64 c.req, .int .i64 c.at_, .int .i64 c.waited, .bool c.busy.isSome] ++ M.DC ++ #[M.dv]
theorem rfC_list (c : Cl) (M : RfM) : (rfC c M).toList = ([.int .u64 c.number, .int .i64 c.servers, .int .u64 c.req, .int .i64 c.at_, .int .i64 c.waited, .bool c.busy.isSome] : List Value) ++ (M.DC.toList ++ [M.dv]) := by simp [rfC]
theorem rfC_lo (c : Cl) (M : RfM) {i : Nat} (hi : i < 6) : (rfC c M)[i]? = (([.int .u64 c.number, .int .i64 c.servers, .int .u64 c.req, .int .i64 c.at_, .int .i64 c.waited, .bool c.busy.isSome] : List Value) : List Value)[i]? := by
  rw [← Array.getElem?_toList, rfC_list, List.getElem?_append_left (by simpa using hi)]
theorem rfC_dv (c : Cl) (M : RfM) (h : M.DC.size = 13) : (rfC c M)[19]? = some M.dv := by
  rw [← Array.getElem?_toList, rfC_list, List.getElem?_append_right (by simp)]
  simp [h]
theorem rfC_DC (c : Cl) (M : RfM) (h : M.DC.size = 13) : (rfC c M).extract 6 (6 + 13) = M.DC := by
  apply Array.ext'
  rw [Array.toList_extract, rfC_list]
  simp [List.extract, h]
theorem rfC_set (c c' : Cl) (M M' : RfM) (i : Nat) (v : Value) (hd : M'.DC = M.DC) (hv : M'.dv = M.dv) (h : (([.int .u64 c.number, .int .i64 c.servers, .int .u64 c.req, .int .i64 c.at_, .int .i64 c.waited, .bool c.busy.isSome] : List Value) : List Value).set i v = [.int .u64 c'.number, .int .i64 c'.servers, .int .u64 c'.req, .int .i64 c'.at_, .int .i64 c'.waited, .bool c'.busy.isSome]) (hi : i < 6) : (rfC c M).setIfInBounds i v = rfC c' M' := by
  apply Array.ext'
  rw [Array.toList_setIfInBounds, rfC_list, rfC_list, List.set_append_left _ _ (by simpa using hi), h, hd, hv]
theorem rfC_setdv (c : Cl) (M : RfM) (v : Value) (h : M.DC.size = 13) : (rfC c M).setIfInBounds 19 v = rfC c { M with dv := v } := by
  apply Array.ext'
  rw [Array.toList_setIfInBounds, rfC_list, rfC_list, List.set_append_right _ _ (by simp), List.set_append_right _ _ (by simp [h])]
  simp [h]
theorem rfC_setDC (c : Cl) (M : RfM) (L : Array Value) (h : M.DC.size = 13) (hL : L.size = 13) : setAll (rfC c M) 6 L.toList = rfC c { M with DC := L } := by
  have := setAll_app L.toList ([.int .u64 c.number, .int .i64 c.servers, .int .u64 c.req, .int .i64 c.at_, .int .i64 c.waited, .bool c.busy.isSome] : List Value) M.DC.toList [M.dv] (by simp [h, hL])
  have e1 : (([.int .u64 c.number, .int .i64 c.servers, .int .u64 c.req, .int .i64 c.at_, .int .i64 c.waited, .bool c.busy.isSome] : List Value) ++ M.DC.toList ++ [M.dv]).toArray = rfC c M := by
    apply Array.ext'; rw [rfC_list]; simp
  have e2 : (([.int .u64 c.number, .int .i64 c.servers, .int .u64 c.req, .int .i64 c.at_, .int .i64 c.waited, .bool c.busy.isSome] : List Value) ++ L.toList ++ [M.dv]).toArray = rfC c { M with DC := L } := by
    apply Array.ext'; rw [rfC_list]; simp
  rw [e1, e2] at this
  exact this
theorem rfC_size {c : Cl} {M : RfM} (h : M.DC.size = 13) : (rfC c M).size = 20 := by simp [rfC, h]
theorem rowRf : RowT 38 20 := ⟨⟨_, Try.underlying38, rfl⟩, by kernel_rfl⟩
/-- Its rows in memory. -/
structure RfR (w : World) (F : Nat → Prop) (c : Cl) (M : RfM) : Prop where
  dn : M.DC.size = 13
  d1 : M.DC.all (·.oneCell') = true
  bu : ∀ x, c.busy = some x → ∃ A B D k m n, M.DC = cmA x A B D k m n ∧ CmR w F x A B D
  dv : ∃ A cap, M.dv = .slice A c.done.length cap ∧ (A = none → cap = 0) ∧ c.done.length ≤ cap ∧ cap ≤ maxLen ∧ RdZ w F 27 A c.done.length (M.xs.flatMap ResV.cells)
  eqs : M.xs.map ResV.p = c.done
  rows : ∀ x ∈ M.xs, ResR w F x
theorem RfR.touch {w w' : World} {F S : Nat → Prop} {c : Cl} {M : RfM} (h : RfR w F c M) (t : Touch S w w') (hd : ∀ k, F k → ¬ S k) : RfR w' F c M := by
  refine ⟨h.dn, h.d1, fun x hx => ?_, ?_, h.eqs, fun x hx => (h.rows x hx).touch t hd⟩
  · obtain ⟨A, B, D, k, m, n, e, hr⟩ := h.bu x hx
    exact ⟨A, B, D, k, m, n, e, hr.touch t hd⟩
  · obtain ⟨A, cap, e, h1, h2, h3, h4⟩ := h.dv
    exact ⟨A, cap, e, h1, h2, h3, h4.touch t hd⟩
end Go.Proofs.Ytlcefchbfjfifaa
end

section
namespace Go.Proofs.Ytlcefchbfjfifaa
open Go.RowKit Cal
set_option maxHeartbeats 4000000
set_option maxRecDepth 100000
set_option linter.unusedVariables false
attribute [local irreducible] wpPlan

/-- A client by value in its box, the result's zero cells behind it. -/
theorem bxX (w : World) (X : Array Value) : Blk ((w.alloc (.cells X 38)).alloc (.cells #[.int .u64 0, .int .i64 0, .int .u64 0, .int .i64 0, .int .i64 0, .bool false, .int .i64 0, .int .u64 0, .int .u64 0, .int .u64 0, .int .i64 0, .int .i64 0, .int .i64 0, .slice none 0 0, .slice none 0 0, .int .i64 0, .slice none 0 0, .int .i64 0, .int .i64 0, .slice none 0 0] 38)) w.heap.size 38 X := (Blk.new w _ X).alloc _
theorem bxZ (w : World) (X : Array Value) : Blk ((w.alloc (.cells X 38)).alloc (.cells #[.int .u64 0, .int .i64 0, .int .u64 0, .int .i64 0, .int .i64 0, .bool false, .int .i64 0, .int .u64 0, .int .u64 0, .int .u64 0, .int .i64 0, .int .i64 0, .int .i64 0, .slice none 0 0, .slice none 0 0, .int .i64 0, .slice none 0 0, .int .i64 0, .int .i64 0, .slice none 0 0] 38)) (w.heap.size + 1) 38 #[.int .u64 0, .int .i64 0, .int .u64 0, .int .i64 0, .int .i64 0, .bool false, .int .i64 0, .int .u64 0, .int .u64 0, .int .u64 0, .int .i64 0, .int .i64 0, .int .i64 0, .slice none 0 0, .slice none 0 0, .int .i64 0, .slice none 0 0, .int .i64 0, .int .i64 0, .slice none 0 0] := by simpa using Blk.new (w.alloc (.cells X 38)) 38 #[.int .u64 0, .int .i64 0, .int .u64 0, .int .i64 0, .int .i64 0, .bool false, .int .i64 0, .int .u64 0, .int .u64 0, .int .u64 0, .int .i64 0, .int .i64 0, .int .i64 0, .slice none 0 0, .slice none 0 0, .int .i64 0, .slice none 0 0, .int .i64 0, .int .i64 0, .slice none 0 0]
theorem bxT (w : World) (X : Array Value) : Touch (fun _ => False) w ((w.alloc (.cells X 38)).alloc (.cells #[.int .u64 0, .int .i64 0, .int .u64 0, .int .i64 0, .int .i64 0, .bool false, .int .i64 0, .int .u64 0, .int .u64 0, .int .u64 0, .int .i64 0, .int .i64 0, .int .i64 0, .slice none 0 0, .slice none 0 0, .int .i64 0, .slice none 0 0, .int .i64 0, .int .i64 0, .slice none 0 0] 38)) := ((Touch.refl _ w).alloc _).alloc _
theorem rfC_one {c : Cl} {M : RfM} (h : M.DC.all (·.oneCell') = true) (hv : M.dv.oneCell' = true) : (rfC c M).all (·.oneCell') = true := by
  have h2 : (#[M.dv] : Array Value).all (·.oneCell') = true := by simpa using hv
  rw [rfC, Array.all_append, Array.all_append, h, h2]; simp [Value.oneCell']
theorem fnext_any (c : Cl) (M : RfM) (hd : M.DC.size = 13) (hd1 : M.DC.all (·.oneCell') = true) (hv : M.dv.oneCell' = true) (h1 : c.at_ < c.servers) (h7 : c.servers ≤ 7) (w : World) : Calls Try.prog 50 #[.agg (rfC c M)] w fun e w' => e = .returned (.agg (rfC c.nxt M)) ∧ Touch (fun _ => False) w w' := by
  obtain ⟨a1, ha1⟩ : ∃ a1, a1 = c.at_ + 1 := ⟨_, rfl⟩
  obtain ⟨c1, hc1⟩ : ∃ c1 : Cl, c1 = { c with at_ := a1 } := ⟨_, rfl⟩
  have e1 := rfC_set c c1 M M 3 (.int .i64 ((c.at_ : Int) + 1)) rfl rfl (by rw [hc1, ha1]; simp) (by omega)
  have HZn := Lib.hid (show (#[.int .u64 0, .int .i64 0, .int .u64 0, .int .i64 0, .int .i64 0, .bool false, .int .i64 0, .int .u64 0, .int .u64 0, .int .u64 0, .int .i64 0, .int .i64 0, .int .i64 0, .slice none 0 0, .slice none 0 0, .int .i64 0, .slice none 0 0, .int .i64 0, .int .i64 0, .slice none 0 0] : Array Value).size = 20 from rfl)
  have HXn := Lib.hid (rfC_size (c := c.nxt) hd)
  have HX1 := Lib.hid (rfC_one (c := c.nxt) hd1 hv)
  have q3 := (bxX w (rfC c M)).cell 3
  rw [rfC_lo c M (by omega)] at q3
  simp at q3
  have f3 := (bxX w (rfC c M)).frozen 3
  have r3 := (bxX w (rfC c1 M)).cell 3
  have r1 := (bxX w (rfC c1 M)).cell 1
  have r4 := (bxX w (rfC c1 M)).cell 4
  rw [rfC_lo c1 M (by omega)] at r3 r1 r4
  simp at r3 r1 r4
  have s3 := (bxX w (rfC c1 M)).frozen 3
  have s4 := (bxX w (rfC c1 M)).frozen 4
  have hwp : IntKind.i64.wrap ((c.at_ : Int) + 1) = (c.at_ : Int) + 1 := IntWalk.i64_in _ (by omega)
  have hca : c1.at_ = a1 := by rw [hc1]
  have hcs : c1.servers = c.servers := by rw [hc1]
  rw [hca] at r3
  rw [hcs] at r1
  by_cases he : a1 = c.servers
  · obtain ⟨c2, hc2⟩ : ∃ c2 : Cl, c2 = { c with at_ := 0 } := ⟨_, rfl⟩
    have e2 := rfC_set c1 c2 M M 3 (.int .i64 0) rfl rfl (by rw [hc1, hc2]; simp) (by omega)
    have hn : c.nxt = { c with at_ := 0, waited := 0 } := by unfold Cl.nxt; rw [← ha1, he, Nat.mod_self]
    have e3 := rfC_set c2 c.nxt M M 4 (.int .i64 0) rfl rfl (by rw [hc2, hn]; simp) (by omega)
    have t4 := (bxX w (rfC c2 M)).cell 4
    rw [rfC_lo c2 M (by omega)] at t4
    simp at t4
    have u4 := (bxX w (rfC c2 M)).frozen 4
    have HB := Lib.hid (bxX w (rfC c.nxt M))
    have HR := Lib.hid (bxZ w (rfC c.nxt M))
    have HT := Lib.hid (bxT w (rfC c.nxt M))
    generalize rfC c M = X0 at *
    generalize rfC c1 M = X1 at *
    generalize rfC c2 M = X2 at *
    generalize rfC c.nxt M = X3 at *
    have hb : ((c.servers : Int) == (c.servers : Int)) = true := by simp
    clear hn hc2 hc1 hca hcs ha1 h1
    subst he
    go_enter Try.func50, Try.ntmps50
    go_wp2_with (first
      | ((with_reducible apply HB.out.ld rowRf HXn.out); exact rfl; exact rfl; exact rfl)
      | ((with_reducible apply HR.out.st rowRf HZn.out HXn.out HX1.out); exact rfl; exact rfl; exact rfl; exact rfl
         intro w4 hb4 t4
         have HB4 := Lib.hid hb4
         have HT4 := Lib.hid (HT.out.trans t4 (S := fun _ => False) (fun k hk e => by omega))
         clear hb4 t4))
    refine bodyPost_ret (results_cell1 2 rowRf HXn.out (HB4.out.whole) rfl rfl) rfl ?_
    exact ⟨rfl, HT4.out⟩
  · have hlt : a1 < c.servers := by omega
    have hn : c.nxt = { c with at_ := a1, waited := 0 } := by unfold Cl.nxt; rw [← ha1, Nat.mod_eq_of_lt hlt]
    have e3 := rfC_set c1 c.nxt M M 4 (.int .i64 0) rfl rfl (by rw [hc1, hn]; simp) (by omega)
    have HB := Lib.hid (bxX w (rfC c.nxt M))
    have HR := Lib.hid (bxZ w (rfC c.nxt M))
    have HT := Lib.hid (bxT w (rfC c.nxt M))
    generalize rfC c M = X0 at *
    generalize rfC c1 M = X1 at *
    generalize rfC c.nxt M = X3 at *
    have hb : ((a1 : Int) == (c.servers : Int)) = false := by simp; omega
    have hne : ¬ (a1 : Int) = (c.servers : Int) := by omega
    clear hn hc1 hca hcs h1 he hlt
    clear ha1
    go_enter Try.func50, Try.ntmps50
    go_wp2_with (first
      | ((with_reducible apply HB.out.ld rowRf HXn.out); exact rfl; exact rfl; exact rfl)
      | ((with_reducible apply HR.out.st rowRf HZn.out HXn.out HX1.out); exact rfl; exact rfl; exact rfl; exact rfl
         intro w4 hb4 t4
         have HB4 := Lib.hid hb4
         have HT4 := Lib.hid (HT.out.trans t4 (S := fun _ => False) (fun k hk e => by omega))
         clear hb4 t4))
    refine bodyPost_ret (results_cell1 2 rowRf HXn.out (HB4.out.whole) rfl rfl) rfl ?_
    exact ⟨rfl, HT4.out⟩
end Go.Proofs.Ytlcefchbfjfifaa
end

section
namespace Go.Proofs.Ytlcefchbfjfifaa
open Go.RowKit Cal
set_option maxHeartbeats 4000000
set_option maxRecDepth 100000
set_option linter.unusedVariables false
attribute [local irreducible] wpPlan

theorem ftick_any (c : Cl) (M : RfM) (hd : M.DC.size = 13) (hd1 : M.DC.all (·.oneCell') = true) (hv : M.dv.oneCell' = true) (h1 : c.at_ < c.servers) (h7 : c.servers ≤ 7) (hw4 : c.waited < 4) (w : World) : Calls Try.prog 26 #[.agg (rfC c M)] w fun e w' => e = .returned (.agg (rfC c.tick M)) ∧ Touch (fun _ => False) w w' := by
  have HZn := Lib.hid (show (#[.int .u64 0, .int .i64 0, .int .u64 0, .int .i64 0, .int .i64 0, .bool false, .int .i64 0, .int .u64 0, .int .u64 0, .int .u64 0, .int .i64 0, .int .i64 0, .int .i64 0, .slice none 0 0, .slice none 0 0, .int .i64 0, .slice none 0 0, .int .i64 0, .int .i64 0, .slice none 0 0] : Array Value).size = 20 from rfl)
  have HXn := Lib.hid (rfC_size (c := c.tick) hd)
  have HX1 := Lib.hid (rfC_one (c := c.tick) hd1 hv)
  have q5 := (bxX w (rfC c M)).cell 5
  rw [rfC_lo c M (by omega)] at q5
  simp at q5
  have HB := Lib.hid (bxX w (rfC c.tick M))
  have HR := Lib.hid (bxZ w (rfC c.tick M))
  have HT := Lib.hid (bxT w (rfC c.tick M))
  cases hb : c.busy with
  | none =>
    have ht : c.tick = c := by simp [Cl.tick, hb]
    rw [hb] at q5
    simp at q5
    rw [ht] at HB HR HT HXn HX1 ⊢
    generalize rfC c M = X0 at *
    clear h1 h7 hw4 hb ht
    go_enter Try.func26, Try.ntmps26
    go_wp2_with (first
      | ((with_reducible apply HB.out.ld rowRf HXn.out); exact rfl; exact rfl; exact rfl)
      | ((with_reducible apply HR.out.st rowRf HZn.out HXn.out HX1.out); exact rfl; exact rfl; exact rfl; exact rfl
         intro w4 hb4 t4
         have HB4 := Lib.hid hb4
         have HT4 := Lib.hid (HT.out.trans t4 (S := fun _ => False) (fun k hk e => by omega))
         clear hb4 t4))
    refine bodyPost_ret (results_cell1 2 rowRf HXn.out (HB4.out.whole) rfl rfl) rfl ?_
    exact ⟨rfl, HT4.out⟩
  | some x =>
    rw [hb] at q5
    simp at q5
    obtain ⟨c1, hc1⟩ : ∃ c1 : Cl, c1 = { c with waited := c.waited + 1 } := ⟨_, rfl⟩
    have e1 := rfC_set c c1 M M 4 (.int .i64 ((c.waited : Int) + 1)) rfl rfl (by rw [hc1]; simp) (by omega)
    have q4 := (bxX w (rfC c M)).cell 4
    rw [rfC_lo c M (by omega)] at q4
    simp at q4
    have f4 := (bxX w (rfC c M)).frozen 4
    have r4 := (bxX w (rfC c1 M)).cell 4
    rw [rfC_lo c1 M (by omega)] at r4
    have hcw : c1.waited = c.waited + 1 := by rw [hc1]
    simp [hcw] at r4
    have hwp : IntKind.i64.wrap ((c.waited : Int) + 1) = (c.waited : Int) + 1 := IntWalk.i64_in _ (by omega)
    have HBc := Lib.hid (bxX w (rfC c1 M))
    have HRc := Lib.hid (bxZ w (rfC c1 M))
    have HTc := Lib.hid (bxT w (rfC c1 M))
    have HXc := Lib.hid (rfC_size (c := c1) hd)
    by_cases h4 : 4 ≤ c.waited + 1
    · have ht : c.tick = c1.nxt := by unfold Cl.tick; rw [if_pos (by rw [hb]; rfl), if_pos h4, hc1]; rfl
      have HN := Lib.hid (fun w => fnext_any c1 M hd hd1 hv (by rw [hc1]; exact h1) (by rw [hc1]; exact h7) w)
      have h4' : (4 : Int) ≤ (c.waited : Int) + 1 := by omega
      rw [← ht] at HN
      generalize rfC c M = X0 at *
      generalize rfC c1 M = X1 at *
      generalize rfC c.tick M = X2 at *
      generalize c.waited = wt at *
      clear h1 h7 hw4 hb ht hc1 hcw h4
      go_enter Try.func26, Try.ntmps26
      go_wp2_with (first
        | ((with_reducible apply HBc.out.ld rowRf HXc.out); exact rfl; exact rfl; exact rfl)
        | (go_at_call 50; go_must (refine (HN.out _).mono ?_); rintro e w2 ⟨rfl, t2⟩; have HT2 := Lib.hid (HTc.out.trans t2 (fun _ _ e => e)); have HR2 := Lib.hid (t2.blk HRc.out (fun e => e)); clear t2)
        | ((with_reducible apply HR2.out.st rowRf HZn.out HXn.out HX1.out); exact rfl; exact rfl; exact rfl; exact rfl
           intro w4 hb4 t4
           have HB4 := Lib.hid hb4
           have HT4 := Lib.hid (HT2.out.trans t4 (S := fun _ => False) (fun k hk e => by omega))
           clear hb4 t4))
      refine bodyPost_ret (results_cell1 2 rowRf HXn.out (HB4.out.whole) rfl rfl) rfl ?_
      exact ⟨rfl, HT4.out⟩
    · have ht : c.tick = c1 := by unfold Cl.tick; rw [if_pos (by rw [hb]; rfl), if_neg h4, hc1]
      have h4' : ¬ (4 : Int) ≤ (c.waited : Int) + 1 := by omega
      rw [ht] at HXn HX1 ⊢
      generalize rfC c M = X0 at *
      generalize rfC c1 M = X1 at *
      generalize c.waited = wt at *
      clear h1 h7 hw4 hb ht hc1 hcw h4
      go_enter Try.func26, Try.ntmps26
      go_wp2_with (first
        | ((with_reducible apply HBc.out.ld rowRf HXc.out); exact rfl; exact rfl; exact rfl)
        | ((with_reducible apply HRc.out.st rowRf HZn.out HXn.out HX1.out); exact rfl; exact rfl; exact rfl; exact rfl
           intro w4 hb4 t4
           have HB4 := Lib.hid hb4
           have HT4 := Lib.hid (HTc.out.trans t4 (S := fun _ => False) (fun k hk e => by omega))
           clear hb4 t4))
      refine bodyPost_ret (results_cell1 2 rowRf HXn.out (HB4.out.whole) rfl rfl) rfl ?_
      exact ⟨rfl, HT4.out⟩
end Go.Proofs.Ytlcefchbfjfifaa
end

section
namespace Go.Proofs.Ytlcefchbfjfifaa
open Go.RowKit Cal
set_option maxHeartbeats 4000000
set_option maxRecDepth 100000
set_option linter.unusedVariables false
attribute [local irreducible] wpPlan

section
variable (w : World) (X Y : Array Value) (T : TypeId)
/-- A client by value in its box, another struct in the next, the result's zero cells behind them. -/
theorem by3X : Blk (((w.alloc (.cells X 38)).alloc (.cells Y T)).alloc (.cells #[.int .u64 0, .int .i64 0, .int .u64 0, .int .i64 0, .int .i64 0, .bool false, .int .i64 0, .int .u64 0, .int .u64 0, .int .u64 0, .int .i64 0, .int .i64 0, .int .i64 0, .slice none 0 0, .slice none 0 0, .int .i64 0, .slice none 0 0, .int .i64 0, .int .i64 0, .slice none 0 0] 38)) w.heap.size 38 X := ((Blk.new w _ X).alloc _).alloc _
theorem by3Y : Blk (((w.alloc (.cells X 38)).alloc (.cells Y T)).alloc (.cells #[.int .u64 0, .int .i64 0, .int .u64 0, .int .i64 0, .int .i64 0, .bool false, .int .i64 0, .int .u64 0, .int .u64 0, .int .u64 0, .int .i64 0, .int .i64 0, .int .i64 0, .slice none 0 0, .slice none 0 0, .int .i64 0, .slice none 0 0, .int .i64 0, .int .i64 0, .slice none 0 0] 38)) (w.heap.size + 1) T Y := by
  have := (Blk.new (w.alloc (.cells X 38)) T Y).alloc (.cells #[.int .u64 0, .int .i64 0, .int .u64 0, .int .i64 0, .int .i64 0, .bool false, .int .i64 0, .int .u64 0, .int .u64 0, .int .u64 0, .int .i64 0, .int .i64 0, .int .i64 0, .slice none 0 0, .slice none 0 0, .int .i64 0, .slice none 0 0, .int .i64 0, .int .i64 0, .slice none 0 0] 38)
  simpa using this
theorem by3Z : Blk (((w.alloc (.cells X 38)).alloc (.cells Y T)).alloc (.cells #[.int .u64 0, .int .i64 0, .int .u64 0, .int .i64 0, .int .i64 0, .bool false, .int .i64 0, .int .u64 0, .int .u64 0, .int .u64 0, .int .i64 0, .int .i64 0, .int .i64 0, .slice none 0 0, .slice none 0 0, .int .i64 0, .slice none 0 0, .int .i64 0, .int .i64 0, .slice none 0 0] 38)) (w.heap.size + 2) 38 #[.int .u64 0, .int .i64 0, .int .u64 0, .int .i64 0, .int .i64 0, .bool false, .int .i64 0, .int .u64 0, .int .u64 0, .int .u64 0, .int .i64 0, .int .i64 0, .int .i64 0, .slice none 0 0, .slice none 0 0, .int .i64 0, .slice none 0 0, .int .i64 0, .int .i64 0, .slice none 0 0] := by
  have := Blk.new ((w.alloc (.cells X 38)).alloc (.cells Y T)) 38 #[.int .u64 0, .int .i64 0, .int .u64 0, .int .i64 0, .int .i64 0, .bool false, .int .i64 0, .int .u64 0, .int .u64 0, .int .u64 0, .int .i64 0, .int .i64 0, .int .i64 0, .slice none 0 0, .slice none 0 0, .int .i64 0, .slice none 0 0, .int .i64 0, .int .i64 0, .slice none 0 0]
  simpa using this
theorem by3T : Touch (fun _ => False) w (((w.alloc (.cells X 38)).alloc (.cells Y T)).alloc (.cells #[.int .u64 0, .int .i64 0, .int .u64 0, .int .i64 0, .int .i64 0, .bool false, .int .i64 0, .int .u64 0, .int .u64 0, .int .u64 0, .int .i64 0, .int .i64 0, .int .i64 0, .slice none 0 0, .slice none 0 0, .int .i64 0, .slice none 0 0, .int .i64 0, .int .i64 0, .slice none 0 0] 38)) := (((Touch.refl _ w).alloc _).alloc _).alloc _
end
def FwP (e : Int) (c : Cl) (M : RfM) (w : World) (en : Ending) (w' : World) : Prop := en = .returned (.tuple #[.agg (rfC c M), .int .i64 e]) ∧ Touch (fun _ => False) w w'
/-- What the document's client has beside the numbers, behind Want. -/
def RfM.want (M : RfM) (c : Cl) (x : Cm) (A B D : Option Addr) (k m n : Nat) : RfM := if c.wantE x = 0 then { M with DC := cmA (c.mk_ x) A B D k m n } else M
theorem fwant_no (c : Cl) (M : RfM) (hd : M.DC.size = 13) (hd1 : M.DC.all (·.oneCell') = true) (hv : M.dv.oneCell' = true) (x : Cm) (A B D : Option Addr) (k m n : Nat) (w : World) (h : c.busy.isSome = true ∨ 1152921504606846976 ≤ c.req) : Calls Try.prog 27 #[.agg (rfC c M), .agg (cmA x A B D k m n)] w (FwP (c.wantE x) (c.want x) (M.want c x A B D k m n) w) := by
  have hne : c.wantE x = if c.busy.isSome = true then 52 else 10 := by
    unfold Cl.wantE
    split
    · rfl
    · rename_i h1
      rw [if_pos (h.resolve_left h1)]
  have hz : ¬ c.wantE x = 0 := by rw [hne]; split <;> omega
  rw [show c.want x = c by rw [Cl.want, if_neg hz], show M.want c x A B D k m n = M by rw [RfM.want, if_neg hz], hne]
  unfold FwP
  have HZn := Lib.hid (show (#[.int .u64 0, .int .i64 0, .int .u64 0, .int .i64 0, .int .i64 0, .bool false, .int .i64 0, .int .u64 0, .int .u64 0, .int .u64 0, .int .i64 0, .int .i64 0, .int .i64 0, .slice none 0 0, .slice none 0 0, .int .i64 0, .slice none 0 0, .int .i64 0, .int .i64 0, .slice none 0 0] : Array Value).size = 20 from rfl)
  have HXn := Lib.hid (rfC_size (c := c) hd)
  have HX1 := Lib.hid (rfC_one (c := c) hd1 hv)
  have HB := Lib.hid (by3X w (rfC c M) (cmA x A B D k m n) 35)
  have HR := Lib.hid (by3Z w (rfC c M) (cmA x A B D k m n) 35)
  have HT := Lib.hid (by3T w (rfC c M) (cmA x A B D k m n) 35)
  have q5 := HB.out.cell 5
  have q2 := HB.out.cell 2
  rw [rfC_lo c M (by omega)] at q5 q2
  simp at q5 q2
  generalize rfC c M = X0 at *
  generalize cmA x A B D k m n = Y0 at *
  cases hb : c.busy.isSome
  · rw [hb] at h q5
    rw [if_neg (by simp)]
    have hr := h.resolve_left (by simp)
    have hd1 : decide ((1152921504606846976 : Int) ≤ (c.req : Int)) = true := decide_eq_true (by omega)
    have hd2 : decide (1152921504606846976 ≤ c.req) = true := decide_eq_true hr
    clear h hr hb hne hz
    go_enter Try.func27, Try.ntmps27
    go_wp2_with (first
      | ((with_reducible apply HB.out.ld rowRf HXn.out); exact rfl; exact rfl; exact rfl)
      | ((with_reducible apply HR.out.st rowRf HZn.out HXn.out HX1.out); exact rfl; exact rfl; exact rfl; exact rfl
         intro w4 hb4 t4
         have HB4 := Lib.hid hb4
         have HT4 := Lib.hid (HT.out.trans t4 (S := fun _ => False) (fun k hk e => by omega))
         clear hb4 t4))
    refine bodyPost_ret (results_cell2 4 5 rowRf HXn.out (HB4.out.whole) rfl rfl) rfl ?_
    exact ⟨rfl, HT4.out⟩
  · rw [hb] at q5
    rw [if_pos rfl]
    clear h hb hne hz
    go_enter Try.func27, Try.ntmps27
    go_wp2_with (first
      | ((with_reducible apply HB.out.ld rowRf HXn.out); exact rfl; exact rfl; exact rfl)
      | ((with_reducible apply HR.out.st rowRf HZn.out HXn.out HX1.out); exact rfl; exact rfl; exact rfl; exact rfl
         intro w4 hb4 t4
         have HB4 := Lib.hid hb4
         have HT4 := Lib.hid (HT.out.trans t4 (S := fun _ => False) (fun k hk e => by omega))
         clear hb4 t4))
    refine bodyPost_ret (results_cell2 4 5 rowRf HXn.out (HB4.out.whole) rfl rfl) rfl ?_
    exact ⟨rfl, HT4.out⟩
end Go.Proofs.Ytlcefchbfjfifaa
end
