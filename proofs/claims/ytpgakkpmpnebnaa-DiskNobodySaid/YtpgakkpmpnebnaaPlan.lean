/- A region that draws its order, walked once, in an order of mine: what only reads may come up anywhere where nobody may write; the rest comes up alone. No program in sight. -/
import Derived.Test.YtpgakkpmpnebnaaMem
import Derived.StillTactics
import Derived.OrdersHeld
namespace Go.Proofs.Ytpgakkpmpnebnaa
open Go

/-- A step of the plan: its kind (0: it only reads, and whatever may come between only reads; 1: it yields in every later world; 2: it comes up alone; 3: it comes up alone, and every step of kind 1 listed so far is ahead of it), and the operation's number. -/
abbrev Stp := Nat × Nat

/-- Who waits for i. -/
def deps (md : Region.Mode) (ops : Array Oper) (listed : Array Bool) (i : Nat) : Array Bool :=
  (List.range ops.size).foldl (fun D j => if !listed.getD j true && ((ops[j]?).map (·.after.any fun e => Region.binds md e && D.getD e.on false)).getD false then D.setIfInBounds j true else D)
    ((Array.replicate ops.size false).setIfInBounds i true)
def depB (md : Region.Mode) (ops : Array Oper) (listed D : Array Bool) (i : Nat) : Bool :=
  decide (D.size ≤ ops.size) && (List.range ops.size).all fun j => !D.getD j false || j == i || (!listed.getD j true && ((ops[j]?).map (·.after.any fun e => Region.binds md e && D.getD e.on false)).getD false)
def freeB (ops : Array Oper) (listed D : Array Bool) (i : Nat) (fl : Nat → Bool) : Bool :=
  match ops[i]? with
  | none => false
  | some oi => (List.range ops.size).all fun j => j == i || listed.getD j true || D.getD j false || (fl j && ((ops[j]?).map (oi.apart ops ·)).getD false)
def planFrom (md : Region.Mode) (ops : Array Oper) (fl lt : Nat → Bool) : List Stp → Array Bool → Bool
  | [], listed => (Region.ready md ops listed).isEmpty
  | (k, i) :: rest, listed =>
    (if k == 2 || k == 3 then (Region.ready md ops listed == [i]) && !fl i && (k == 2 || lt i)
     else decide (k < 2) && (Region.ready md ops listed).contains i && fl i && depB md ops listed (deps md ops listed i) i && !listed.getD i true &&
       freeB ops listed (deps md ops listed i) i (if k == 0 then fl else fun j => !lt j)) && planFrom md ops fl lt rest (listed.setIfInBounds i true)
def flOf (plan : List Stp) (i : Nat) : Bool := plan.any fun s => s.2 == i && decide (s.1 < 2)
def ltOf (plan : List Stp) (i : Nat) : Bool := plan.any fun s => s.2 == i && s.1 == 3
def planB (ops : Array Oper) (plan : List Stp) : Bool := Region.noSelect ops && (plan.length == ops.size) && planFrom .any ops (flOf plan) (ltOf plan) plan (Array.replicate ops.size false)

section
variable {P : Program} {ops : Array Oper} {Q : Exit → Act → World → Prop} {md : Region.Mode} {T : Nat → Prop} {fl lt : Nat → Bool}

def wpMix (P : Program) (md : Region.Mode) (ops : Array Oper) (Q : Exit → Act → World → Prop) (T : Nat → Prop) (fl lt : Nat → Bool) : Nat → Array Bool → Act → World → Prop
  | 0, listed, a, w => Region.ready md ops listed = [] ∧ Q .normal a w
  | f + 1, listed, a, w =>
    (Region.ready md ops listed = [] → Q .normal a w) ∧
    ∀ i ∈ Region.ready md ops listed, if fl i then stOp P ops w i (fun a' => wpMix P md ops Q T fl lt f (listed.setIfInBounds i true) a' w) a
      else wpOp P ops Q i (fun a' w' => (lt i = true ∨ Touch T w w') ∧ wpMix P md ops Q T fl lt f (listed.setIfInBounds i true) a' w') a w

theorem wpMix_sound : ∀ (f : Nat) (listed : Array Bool) (a : Act) (w : World), wpMix P md ops Q T fl lt f listed a w → wpAny P md ops Q f listed a w
  | 0, _, _, _, h => h
  | f + 1, listed, a, w, h => ⟨h.1, fun i hi => by
    have h1 := h.2 i hi
    split at h1
    · exact wpOp_of_stOp (fun a' h' => wpMix_sound f _ a' w h') h1
    · exact wpOp_mono (fun a' w' h' => wpMix_sound f _ a' w' h'.2) h1⟩

/-- D: those who wait for i. -/
def DepP (md : Region.Mode) (ops : Array Oper) (listed D : Array Bool) (i : Nat) : Prop :=
  ∀ j, D.getD j false = true → j = i ∨ (listed.getD j true = false ∧ ∃ oj, ops[j]? = some oj ∧ ∃ e ∈ oj.after, Region.binds md e = true ∧ D.getD e.on false = true)
def FreeP (ops : Array Oper) (listed D : Array Bool) (i : Nat) (oi : Oper) (fl : Nat → Bool) : Prop :=
  ∀ j oj, ops[j]? = some oj → j ≠ i → listed.getD j true = false → D.getD j false = false → fl j = true ∧ oi.apart ops oj = true

theorem depP_of {listed D : Array Bool} {i : Nat} (h : depB md ops listed D i = true) : DepP md ops listed D i := by
  simp only [depB, Bool.and_eq_true, decide_eq_true_eq] at h
  intro j hj
  have hjl : j < D.size := by
    rcases Nat.lt_or_ge j D.size with h' | h'
    · exact h'
    · simp [Array.getElem?_eq_none h'] at hj
  have h1 := List.all_eq_true.1 h.2 j (List.mem_range.2 (by omega))
  simp only [hj, Bool.not_true, Bool.false_or, Bool.or_eq_true, beq_iff_eq, Bool.and_eq_true, Bool.not_eq_true'] at h1
  refine h1.imp id fun h2 => ⟨h2.1, ?_⟩
  cases ho : ops[j]? with
  | none => rw [ho] at h2; simp at h2
  | some oj =>
    rw [ho] at h2
    simp only [Option.map_some, Option.getD_some] at h2
    obtain ⟨e, he, hb⟩ := Array.any_eq_true'.1 h2.2
    simp only [Bool.and_eq_true] at hb
    exact ⟨oj, rfl, e, he, hb.1, hb.2⟩
theorem freeP_of {listed D : Array Bool} {i : Nat} {oi : Oper} (hi : ops[i]? = some oi) (h : freeB ops listed D i fl = true) : FreeP ops listed D i oi fl := by
  simp only [freeB, hi] at h
  intro j oj hj hji hl hD
  have h1 := List.all_eq_true.1 h j (List.mem_range.2 (Array.getElem?_eq_some_iff.1 hj).1)
  simp only [hl, hD, hj, Bool.or_eq_true, beq_iff_eq, hji, false_or, Bool.and_eq_true, Option.map_some, Option.getD_some] at h1
  simpa using h1
theorem depP_set {listed D : Array Bool} {i j : Nat} (h : DepP md ops listed D i) (hj : D.getD j false = false) : DepP md ops (listed.setIfInBounds j true) D i := by
  intro k hk
  refine (h k hk).imp id fun h2 => ⟨?_, h2.2⟩
  rw [getD_set_ne true (by rintro rfl; rw [hj] at hk; cases hk)]
  exact h2.1
theorem freeP_set {listed D : Array Bool} {i j : Nat} {oi : Oper} (h : FreeP ops listed D i oi fl) : FreeP ops (listed.setIfInBounds j true) D i oi fl := by
  intro k ok hk hki hl hD
  refine h k ok hk hki ?_ hD
  by_cases hjk : j = k
  · subst hjk
    rcases Nat.lt_or_ge j listed.size with h' | h'
    · simp [h'] at hl
    · simp at hl
  · rwa [getD_set_ne true hjk] at hl

theorem unlisted_absurd {listed : Array Bool} {i : Nat} (h : listed.getD i true = false) (h' : listed.getD i false = true) : False := by
  rcases Nat.lt_or_ge i listed.size with h1 | h1
  · simp [h1] at h h'; rw [h] at h'; cases h'
  · simp [Array.getElem?_eq_none h1] at h'
/-- What waits does not come up. -/
theorem not_ready {listed D : Array Bool} {i j : Nat} (hD : DepP md ops listed D i) (hi : listed.getD i true = false) (hj : D.getD j false = true) (hji : j ≠ i) : j ∉ Region.ready md ops listed := by
  intro hr
  obtain ⟨_, oj, hoj, e, he, hb, hDe⟩ := (hD j hj).resolve_left hji
  obtain ⟨_, oj', hoj', hall⟩ := mem_ready.1 hr
  rw [hoj] at hoj'
  injection hoj' with hoj'
  subst hoj'
  have h3 := hall e he hb
  rcases hD e.on hDe with h4 | h4
  · rw [h4] at h3; exact unlisted_absurd hi h3
  · exact unlisted_absurd h4.1 h3

theorem wpMix_still {i : Nat} {oi : Oper} {v : Value} {D : Array Bool} {w : World} (hi : ops[i]? = some oi) (hsel : ∀ (j : Nat) (o : Oper) cs b, ops[j]? = some o → o.op ≠ .select cs b) (hfi : fl i = true) :
    ∀ (f : Nat) (listed : Array Bool) (a : Act), DepP md ops listed D i → FreeP ops listed D i oi fl → i ∈ Region.ready md ops listed → YieldsAt P ops w oi v a →
      wpMix P md ops Q T fl lt f (listed.setIfInBounds i true) (a.put oi.dst v) w → wpMix P md ops Q T fl lt (f + 1) listed a w := by
  intro f
  induction f with
  | zero =>
    intro listed a _ _ hr hy H
    refine ⟨fun h => (by rw [h] at hr; cases hr), fun j hj => ?_⟩
    by_cases hji : j = i
    · subst hji; rw [if_pos hfi]; exact hy.stOp hi H
    · have := ready_mono hj hji
      rw [H.1] at this
      cases this
  | succ f ih =>
    intro listed a hD hF hr hy H
    refine ⟨fun h => (by rw [h] at hr; cases hr), fun j hj => ?_⟩
    by_cases hji : j = i
    · subst hji; rw [if_pos hfi]; exact hy.stOp hi H
    · have hun := (mem_ready.1 hr).1
      have hDj : D.getD j false = false := by
        cases h : D.getD j false
        · rfl
        · exact absurd hj (not_ready hD hun h hji)
      obtain ⟨hjun, oj, hoj, _⟩ := mem_ready.1 hj
      obtain ⟨hfj, hap⟩ := hF j oj hoj hji hjun hDj
      have h1 := H.2 j (ready_mono hj hji)
      rw [if_pos hfj] at h1 ⊢
      obtain ⟨h1a, h2a, h3a⟩ := Oper.apart_spec hap
      obtain ⟨u, hyj, hK⟩ := yieldsAt_of_stOp hoj h1
      refine YieldsAt.stOp hoj (hyj.of_same (execOp_put oj (fun cs b => hsel j oj cs b hoj) a oi.dst v h1a).symm (wanted_put oj a oi.dst v h1a).symm) ?_
      refine ih _ _ (depP_set hD hDj) (freeP_set hF) (ready_mono hr (Ne.symm hji)) (hy.of_same (execOp_put oi (fun cs b => hsel i oi cs b hi) a oj.dst u h3a) (wanted_put oi a oj.dst u h3a)) ?_
      rw [← Act.put_comm a v u h2a, Array.setIfInBounds_comm _ _ hji]
      exact hK

theorem held_at {o : Oper} {v : Value} {a : Act} {w : World} (h : YieldsIf P ops (Touch T w) o v a) : YieldsAt P ops w o v a :=
  h.imp (fun ⟨h1, h2⟩ => ⟨h1, .inl (h2 w (Touch.refl _ _))⟩) id

theorem wpMix_held {i : Nat} {oi : Oper} {v : Value} {D : Array Bool} (hi : ops[i]? = some oi) (hsel : ∀ (j : Nat) (o : Oper) cs b, ops[j]? = some o → o.op ≠ .select cs b) (hfi : fl i = true)
    (hQ : ∀ c a w, Q (.panic c) (a.put oi.dst v) w → Q (.panic c) a w) :
    ∀ (f : Nat) (listed : Array Bool) (a : Act) (w : World), DepP md ops listed D i → FreeP ops listed D i oi (fun j => !lt j) → i ∈ Region.ready md ops listed → YieldsIf P ops (Touch T w) oi v a →
      wpMix P md ops Q T fl lt f (listed.setIfInBounds i true) (a.put oi.dst v) w → wpMix P md ops Q T fl lt (f + 1) listed a w := by
  intro f
  induction f with
  | zero =>
    intro listed a w _ _ hr hy H
    refine ⟨fun h => (by rw [h] at hr; cases hr), fun j hj => ?_⟩
    by_cases hji : j = i
    · subst hji; rw [if_pos hfi]; exact (held_at hy).stOp hi H
    · have := ready_mono hj hji
      rw [H.1] at this
      cases this
  | succ f ih =>
    intro listed a w hD hF hr hy H
    refine ⟨fun h => (by rw [h] at hr; cases hr), fun j hj => ?_⟩
    by_cases hji : j = i
    · subst hji; rw [if_pos hfi]; exact (held_at hy).stOp hi H
    · have hun := (mem_ready.1 hr).1
      have hDj : D.getD j false = false := by
        cases h : D.getD j false
        · rfl
        · exact absurd hj (not_ready hD hun h hji)
      obtain ⟨hjun, oj, hoj, _⟩ := mem_ready.1 hj
      obtain ⟨hltj, hap⟩ := hF j oj hoj hji hjun hDj
      have hltj : ¬ lt j = true := by simpa using hltj
      have h1 := H.2 j (ready_mono hj hji)
      obtain ⟨h1a, h2a, h3a⟩ := Oper.apart_spec hap
      by_cases hfj : fl j = true
      · rw [if_pos hfj] at h1 ⊢
        obtain ⟨u, hyj, hK⟩ := yieldsAt_of_stOp hoj h1
        refine YieldsAt.stOp hoj (hyj.of_same (execOp_put oj (fun cs b => hsel j oj cs b hoj) a oi.dst v h1a).symm (wanted_put oj a oi.dst v h1a).symm) ?_
        refine ih _ _ _ (depP_set hD hDj) (freeP_set hF) (ready_mono hr (Ne.symm hji)) (hy.of_same (execOp_put oi (fun cs b => hsel i oi cs b hi) a oj.dst u h3a) (wanted_put oi a oj.dst u h3a)) ?_
        rw [← Act.put_comm a v u h2a, Array.setIfInBounds_comm _ _ hji]
        exact hK
      · rw [if_neg hfj] at h1 ⊢
        have h2 := wpOp_putIf hoj hap (fun cs b => hsel i oi cs b hi) (fun cs b => hsel j oj cs b hoj) hQ hy h1
        refine wpOp_mono (fun a' w' h3 => ⟨.inr (h3.2.1.resolve_left hltj), ih _ a' w' (depP_set hD hDj) (freeP_set hF) (ready_mono hr (Ne.symm hji)) (h3.1.imp (fun ⟨p1, p2⟩ => ⟨p1, fun w'' t => p2 w'' ((h3.2.1.resolve_left hltj).trans t (fun _ _ e => e))⟩) id) ?_⟩) h2
        rw [Array.setIfInBounds_comm _ _ hji]
        exact h3.2.2

/-- The plan, walked. -/
def wpPlan (P : Program) (ops : Array Oper) (Q : Exit → Act → World → Prop) (T : Nat → Prop) : List Stp → Act → World → Prop
  | [], a, w => Q .normal a w
  | (k, i) :: rest, a, w =>
    if k = 0 then stOp P ops w i (fun a' => wpPlan P ops Q T rest a' w) a
    else if k = 1 then ∃ v, (∀ o, ops[i]? = some o → YieldsIf P ops (Touch T w) o v a ∧ wpPlan P ops Q T rest (a.put o.dst v) w)
    else if k = 3 then wpOp P ops Q i (fun a' w' => wpPlan P ops Q T rest a' w') a w
    else wpOp P ops Q i (fun a' w' => Touch T w w' ∧ wpPlan P ops Q T rest a' w') a w

theorem wpPlan_sound (hQ : ∀ c a d v w, Q (.panic c) (Act.put a d v) w → Q (.panic c) a w) (hsel : Region.noSelect ops = true) : ∀ (plan : List Stp) (listed : Array Bool) (a : Act) (w : World),
    planFrom md ops fl lt plan listed = true → wpPlan P ops Q T plan a w → wpMix P md ops Q T fl lt plan.length listed a w
  | [], listed, a, w, hB, h => ⟨by simpa [planFrom] using hB, h⟩
  | (k, i) :: rest, listed, a, w, hB, h => by
    simp only [planFrom, Bool.and_eq_true] at hB
    obtain ⟨hB1, hB2⟩ := hB
    have ih := fun a' w' => wpPlan_sound hQ hsel rest (listed.setIfInBounds i true) a' w' hB2
    have hs := Region.noSelect_spec hsel
    by_cases hk2 : k = 2
    · subst hk2
      simp only [beq_self_eq_true, Bool.true_or, if_true, Bool.and_eq_true, beq_iff_eq, Bool.not_eq_true', and_true] at hB1
      refine ⟨fun h0 => (by rw [hB1.1] at h0; cases h0), fun j hj => ?_⟩
      rw [hB1.1, List.mem_singleton] at hj
      subst hj
      rw [if_neg (by rw [hB1.2]; simp)]
      simp only [wpPlan, show ¬ ((2 : Nat) = 0) by decide, show ¬ ((2 : Nat) = 1) by decide, show ¬ ((2 : Nat) = 3) by decide, if_false] at h
      exact wpOp_mono (fun a' w' h' => ⟨.inr h'.1, ih a' w' h'.2⟩) h
    by_cases hk3 : k = 3
    · subst hk3
      simp only [beq_self_eq_true, Bool.or_true, if_true, Bool.and_eq_true, beq_iff_eq, Bool.not_eq_true', show ((3 : Nat) == 2) = false from rfl, Bool.false_or] at hB1
      refine ⟨fun h0 => (by rw [hB1.1.1] at h0; cases h0), fun j hj => ?_⟩
      rw [hB1.1.1, List.mem_singleton] at hj
      subst hj
      rw [if_neg (by rw [hB1.1.2]; simp)]
      simp only [wpPlan, show ¬ ((3 : Nat) = 0) by decide, show ¬ ((3 : Nat) = 1) by decide, if_false, if_true] at h
      exact wpOp_mono (fun a' w' h' => ⟨.inl hB1.2, ih a' w' h'⟩) h
    · have hkb : (k == 2) = false := by simpa using hk2
      have hkc : (k == 3) = false := by simpa using hk3
      simp only [hkb, hkc, Bool.or_false, Bool.false_eq_true, if_false, Bool.and_eq_true, List.contains_iff_mem, Bool.not_eq_true'] at hB1
      obtain ⟨⟨⟨⟨⟨hlt, hr⟩, hfi⟩, hdep⟩, hun⟩, hfree⟩ := hB1
      obtain ⟨_, oi, hoi, _⟩ := mem_ready.1 hr
      by_cases hk0 : k = 0
      · subst hk0
        simp only [wpPlan, if_true] at h
        obtain ⟨v, hy, hK⟩ := yieldsAt_of_stOp hoi h
        exact wpMix_still hoi hs hfi _ listed a (depP_of hdep) (freeP_of hoi (by simpa using hfree)) hr hy (ih _ w hK)
      · have hk0b : (k == 0) = false := by simpa using hk0
        simp only [hk0b, Bool.false_eq_true, if_false] at hfree
        have h' : ∃ v, (∀ o, ops[i]? = some o → YieldsIf P ops (Touch T w) o v a ∧ wpPlan P ops Q T rest (a.put o.dst v) w) := by
          by_cases hk1 : k = 1
          · subst hk1; simpa [wpPlan] using h
          · exfalso; simp only [decide_eq_true_eq] at hlt; omega
        obtain ⟨v, hv⟩ := h'
        obtain ⟨hy, hK⟩ := hv oi hoi
        exact wpMix_held hoi hs hfi (fun c a w h => hQ c a _ _ w h) _ listed a w (depP_of hdep) (freeP_of hoi hfree) hr hy (ih _ w hK)

/-- The beginning. -/
theorem wp_region_plan {id : Nat} {a : Act} {w : World} {l : List Oper} (plan : List Stp) (T : Nat → Prop) (hm : P.follows .mixedOrders = true) (hB : planB l.toArray plan = true)
    (hQ : ∀ c a d v w, Q (.panic c) (Act.put a d v) w → Q (.panic c) a w) (h : wpPlan P l.toArray Q T plan a w.drew) : (Code.region id l.toArray true).wp P Q a w := by
  simp only [planB, Bool.and_eq_true, beq_iff_eq] at hB
  obtain ⟨⟨hsel, hlen⟩, hB⟩ := hB
  refine wp_region_any hm (wpMix_sound (T := T) (fl := flOf plan) (lt := ltOf plan) _ _ _ _ ?_)
  rw [← hlen]
  have := wpPlan_sound (md := .any) hQ hsel plan (Array.replicate l.toArray.size false) a w.drew hB h
  simpa [hlen] using this
theorem plan_done {a : Act} {w : World} (h : Q .normal a w) : wpPlan P ops Q T [] a w := h
theorem plan_s {i : Nat} {o : Oper} {rest : List Stp} {a : Act} {w : World} (hi : ops[i]? = some o)
    (h : ∀ K : Act → Prop, (∀ a', wpPlan P ops Q T rest a' w → K a') → if Region.wanted o (yielded ops a.tmps) = true then o.still P a w K else K (a.put o.dst undef)) : wpPlan P ops Q T ((0, i) :: rest) a w := by
  simp only [wpPlan, if_true, stOp, hi]
  exact h _ (fun _ h => h)
theorem plan_s1 {i : Nat} {o : Oper} {rest : List Stp} {a : Act} {w : World} (hi : ops[i]? = some o) (hw : Region.wanted o (yielded ops a.tmps) = true)
    (h : ∀ K : Act → Prop, (∀ a', wpPlan P ops Q T rest a' w → K a') → o.still P a w K) : wpPlan P ops Q T ((0, i) :: rest) a w :=
  plan_s hi fun K hK => by rw [if_pos hw]; exact h K hK
theorem plan_s0 {i : Nat} {o : Oper} {rest : List Stp} {a : Act} {w : World} (hi : ops[i]? = some o) (hw : Region.wanted o (yielded ops a.tmps) = false)
    (h : wpPlan P ops Q T rest (a.put o.dst undef) w) : wpPlan P ops Q T ((0, i) :: rest) a w :=
  plan_s hi fun K hK => by rw [hw]; exact hK _ h
theorem plan_h {i : Nat} {o : Oper} {rest : List Stp} {a : Act} {w : World} {v : Value} (hi : ops[i]? = some o) (hw : Region.wanted o (yielded ops a.tmps) = true)
    (hy : ∀ w', Touch T w w' → (execOp a.eval o).run P w' = .ok (.value v) w') (h : wpPlan P ops Q T rest (a.put o.dst v) w) : wpPlan P ops Q T ((1, i) :: rest) a w := by
  simp only [wpPlan, show ¬ ((1 : Nat) = 0) by decide, if_false, if_true]
  refine ⟨v, fun o' ho' => ?_⟩
  rw [hi] at ho'
  injection ho' with ho'
  subst ho'
  exact ⟨.inl ⟨hw, hy⟩, h⟩
theorem plan_hn {i : Nat} {o : Oper} {rest : List Stp} {a : Act} {w : World} (hi : ops[i]? = some o) (hw : Region.wanted o (yielded ops a.tmps) = false)
    (h : wpPlan P ops Q T rest (a.put o.dst undef) w) : wpPlan P ops Q T ((1, i) :: rest) a w := by
  simp only [wpPlan, show ¬ ((1 : Nat) = 0) by decide, if_false, if_true]
  refine ⟨undef, fun o' ho' => ?_⟩
  rw [hi] at ho'
  injection ho' with ho'
  subst ho'
  exact ⟨.inr ⟨hw, rfl⟩, h⟩
theorem plan_a {i : Nat} {o : Oper} {rest : List Stp} {a : Act} {w : World} (hi : ops[i]? = some o)
    (h : ∀ K : Act → World → Prop, (∀ a' w', Touch T w w' ∧ wpPlan P ops Q T rest a' w' → K a' w') → if Region.wanted o (yielded ops a.tmps) = true then o.wp P a w K Q else K (a.put o.dst undef) w) : wpPlan P ops Q T ((2, i) :: rest) a w := by
  have h1 := h _ (fun _ _ h => h)
  simp only [wpPlan, show ¬ ((2 : Nat) = 0) by decide, show ¬ ((2 : Nat) = 1) by decide, show ¬ ((2 : Nat) = 3) by decide, if_false, wpOp, hi]
  split
  · rename_i hw; rw [if_pos hw] at h1; exact .inl h1
  · rename_i hw; rw [if_neg hw] at h1; exact h1
theorem plan_a1 {i : Nat} {o : Oper} {rest : List Stp} {a : Act} {w : World} (hi : ops[i]? = some o) (hw : Region.wanted o (yielded ops a.tmps) = true)
    (h : ∀ K : Act → World → Prop, (∀ a' w', Touch T w w' ∧ wpPlan P ops Q T rest a' w' → K a' w') → o.wp P a w K Q) : wpPlan P ops Q T ((2, i) :: rest) a w :=
  plan_a hi fun K hK => by rw [if_pos hw]; exact h K hK
theorem plan_a0 {i : Nat} {o : Oper} {rest : List Stp} {a : Act} {w : World} (hi : ops[i]? = some o) (hw : Region.wanted o (yielded ops a.tmps) = false)
    (h : wpPlan P ops Q T rest (a.put o.dst undef) w) : wpPlan P ops Q T ((2, i) :: rest) a w :=
  plan_a hi fun K hK => by rw [hw]; exact hK _ _ ⟨Touch.refl _ _, h⟩
theorem plan_b1 {i : Nat} {o : Oper} {rest : List Stp} {a : Act} {w : World} (hi : ops[i]? = some o) (hw : Region.wanted o (yielded ops a.tmps) = true)
    (h : ∀ K : Act → World → Prop, (∀ a' w', wpPlan P ops Q T rest a' w' → K a' w') → o.wp P a w K Q) : wpPlan P ops Q T ((3, i) :: rest) a w := by
  have h1 := h _ (fun _ _ h => h)
  simp only [wpPlan, show ¬ ((3 : Nat) = 0) by decide, show ¬ ((3 : Nat) = 1) by decide, if_false, if_true, wpOp, hi]
  rw [if_pos hw]
  exact .inl h1
theorem calls_flip {f : FuncId} {args : Array Value} {w : World} {v : Value} (h : Calls P f args w fun e w' => e = .returned v ∧ w = w') : Calls P f args w fun e w' => e = .returned v ∧ w' = w :=
  h.mono fun _ _ ⟨h1, h2⟩ => ⟨h1, h2.symm⟩
end
end Go.Proofs.Ytpgakkpmpnebnaa
