/- Plans that fork several times (PlanF's fork, one in another). No program in sight. -/
import Derived.Test.YtcblbjhhlnmkjaaPlanF
namespace Go.Proofs.Ytcblbjhhlnmkjaa.PF
open Go

/-- A plan as a tree: a list of steps to its end, or to a fork. -/
inductive PT where
  | fin (l : List Stp)
  | fork (l : List Stp) (i j : Nat) (p q : PT)
def PT.len : PT → Nat
  | .fin l => l.length
  | .fork l _ _ p _ => p.len + 1 + l.length
def PT.all : PT → List Stp
  | .fin l => l
  | .fork l _ _ p q => l ++ (p.all ++ q.all)
def ptB (md : Region.Mode) (ops : Array Oper) (fl lt : Nat → Bool) : PT → Array Bool → Bool
  | .fin l => planFromE md ops fl lt (doneB md ops) l
  | .fork l i j p q => planFromE md ops fl lt (fun listed => (Region.ready md ops listed == [i, j]) && !fl i && !fl j && (p.len == q.len) && ptB md ops fl lt p (listed.setIfInBounds i true) && ptB md ops fl lt q (listed.setIfInBounds j true)) l
section
variable {P : Program} {ops : Array Oper} {Q : Exit → Act → World → Prop} {md : Region.Mode} {T : Nat → Prop} {fl lt : Nat → Bool}
def wpT (P : Program) (ops : Array Oper) (Q : Exit → Act → World → Prop) (T : Nat → Prop) : PT → Act → World → Prop
  | .fin l => wpPlan P ops Q (Q .normal) T l
  | .fork l i j p q => wpPlan P ops Q (fun a w => wpOp P ops Q i (fun a' w' => Touch T w w' ∧ wpT P ops Q T p a' w') a w ∧ wpOp P ops Q j (fun a' w' => Touch T w w' ∧ wpT P ops Q T q a' w') a w) T l
theorem wpT_sound (hQ : ∀ c a d v w, Q (.panic c) (Act.put a d v) w → Q (.panic c) a w) (hsel : Region.noSelect ops = true) : ∀ (t : PT) (listed : Array Bool) (a : Act) (w : World),
    ptB md ops fl lt t listed = true → wpT P ops Q T t a w → wpMix P md ops Q T fl lt t.len listed a w
  | .fin l, listed, a, w, hB, h => by
    have := wpPlan_sound (n := 0) (e := doneB md ops) (E := Q .normal) (fl := fl) (lt := lt) (T := T) (P := P) (fun listed a w h1 h2 => (⟨by simpa [doneB] using h1, h2⟩ : wpMix P md ops Q T fl lt 0 listed a w)) hQ hsel l listed a w hB h
    simpa [PT.len] using this
  | .fork l i j p q, listed, a, w, hB, h => by
    refine wpPlan_sound (n := p.len + 1) ?_ hQ hsel l listed a w hB h
    intro listed a w he hF
    simp only [Bool.and_eq_true, beq_iff_eq, Bool.not_eq_true'] at he
    obtain ⟨⟨⟨⟨⟨e1, e2⟩, e3⟩, e6⟩, e4⟩, e5⟩ := he
    refine ⟨fun h0 => (by rw [e1] at h0; cases h0), fun k hk => ?_⟩
    rw [e1] at hk
    rcases List.mem_cons.1 hk with rfl | hk
    · rw [if_neg (by rw [e2]; simp)]
      exact wpOp_mono (fun a' w' h' => ⟨.inr h'.1, wpT_sound hQ hsel p _ a' w' e4 h'.2⟩) hF.1
    · rw [List.mem_singleton] at hk
      subst hk
      rw [if_neg (by rw [e3]; simp), e6]
      exact wpOp_mono (fun a' w' h' => ⟨.inr h'.1, wpT_sound hQ hsel q _ a' w' e5 h'.2⟩) hF.2
def treeB (ops : Array Oper) (t : PT) : Bool :=
  Region.noSelect ops && (t.len == ops.size) && ptB .any ops (flOf t.all) (ltOf t.all) t (Array.replicate ops.size false)
theorem wp_region_tree {id : Nat} {a : Act} {w : World} {l : List Oper} (t : PT) (T : Nat → Prop) (hm : P.follows .mixedOrders = true) (hB : treeB l.toArray t = true)
    (hQ : ∀ c a d v w, Q (.panic c) (Act.put a d v) w → Q (.panic c) a w) (h : wpT P l.toArray Q T t a w.drew) : (Code.region id l.toArray true).wp P Q a w := by
  simp only [treeB, Bool.and_eq_true, beq_iff_eq] at hB
  obtain ⟨⟨hsel, hlen⟩, hB⟩ := hB
  refine wp_region_any hm (wpMix_sound (T := T) (fl := flOf t.all) (lt := ltOf t.all) _ _ _ _ ?_)
  have key := wpT_sound (P := P) (md := .any) (ops := l.toArray) (Q := Q) (T := T) (fl := flOf t.all) (lt := ltOf t.all) hQ hsel t (Array.replicate l.toArray.size false) a w.drew hB h
  rw [← hlen] at key ⊢
  exact key
/-- A tree's fork, opened. -/
theorem treeFork {a : Act} {w : World} {l : List Stp} {i j : Nat} {p q : PT}
    (h : wpPlan P ops Q (fun a w => wpOp P ops Q i (fun a' w' => Touch T w w' ∧ wpT P ops Q T p a' w') a w ∧ wpOp P ops Q j (fun a' w' => Touch T w w' ∧ wpT P ops Q T q a' w') a w) T l a w) : wpT P ops Q T (.fork l i j p q) a w := h
theorem treeFin {a : Act} {w : World} {l : List Stp} (h : wpPlan P ops Q (Q .normal) T l a w) : wpT P ops Q T (.fin l) a w := h
theorem tree_ {a : Act} {w : World} {i j : Nat} {p q : PT} {oi oj : Oper} (hi : ops[i]? = some oi) (hj : ops[j]? = some oj) (hwi : Region.wanted oi (yielded ops a.tmps) = true) (hwj : Region.wanted oj (yielded ops a.tmps) = true)
    (h1 : ∀ K : Act → World → Prop, (∀ a' w', Touch T w w' ∧ wpT P ops Q T p a' w' → K a' w') → oi.wp P a w K Q)
    (h2 : ∀ K : Act → World → Prop, (∀ a' w', Touch T w w' ∧ wpT P ops Q T q a' w' → K a' w') → oj.wp P a w K Q) :
    wpPlan P ops Q (fun a w => wpOp P ops Q i (fun a' w' => Touch T w w' ∧ wpT P ops Q T p a' w') a w ∧ wpOp P ops Q j (fun a' w' => Touch T w w' ∧ wpT P ops Q T q a' w') a w) T [] a w := by
  refine plan_done ⟨?_, ?_⟩
  · simp only [wpOp, hi]; rw [if_pos hwi]; exact .inl (h1 _ (fun _ _ h => h))
  · simp only [wpOp, hj]; rw [if_pos hwj]; exact .inl (h2 _ (fun _ _ h => h))
end
end Go.Proofs.Ytcblbjhhlnmkjaa.PF
