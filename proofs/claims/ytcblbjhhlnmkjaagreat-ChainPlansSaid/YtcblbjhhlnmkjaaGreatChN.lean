/- Package chain: what a plan holds (the plain law of ChainPlans). -/
import Derived.Test.YtcblbjhhlnmkjaaGreatChL
namespace Go.Proofs.YtcblbjhhlnmkjaaGreat
open Go.RowKit Cal
set_option maxHeartbeats 4000000
set_option maxRecDepth 100000
set_option linter.unusedVariables false

theorem due_ok {c : Ca} {x b : Int} (hb : 1 ≤ b) (h : (c.due x b).2 = 0) : 0 ≤ x ∧ x < (c.due x b).1 ∧ (c.due x b).1 ≤ 1125899906842624 ∧ cnt c.op x (c.due x b).1 = b := by
  unfold Ca.due at h ⊢
  by_cases h1 : x < 0 ∨ 1125899906842624 < x ∨ b < 0
  · rw [if_pos h1] at h; exact absurd h (by decide)
  rw [if_neg h1, if_neg (show ¬ b = 0 by omega)] at h ⊢
  by_cases h2 : len c.wk = 0
  · rw [if_pos h2] at h; exact absurd h (by decide)
  rw [if_neg h2] at h ⊢
  by_cases h3 : cnt c.op x 1125899906842624 < b
  · rw [if_pos h3] at h; exact absurd h (by decide)
  rw [if_neg h3]
  obtain ⟨d, h4, h5⟩ := IsDue.of_cnt (p := c.op) (s := x) (e := 1125899906842624) (by omega) hb (by omega)
  rw [dueOf_eq h5]
  exact ⟨by omega, h5.1, h4, h5.2.1⟩
theorem begV_ok {c : Ca} {l b x : Int} (hb : 1 ≤ b) (h : (begV c l b x).2 = 0) : (begV c l b x).1.lv = l ∧ 0 ≤ x ∧ x < (begV c l b x).1.du ∧ (begV c l b x).1.du ≤ 1125899906842624 ∧ cnt c.op x (begV c l b x).1.du = b := by
  unfold begV at h ⊢
  split at h
  · rename_i h1; rw [if_pos h1]; exact ⟨rfl, due_ok hb h1⟩
  · rename_i h1; exact absurd h h1
/-- The budgets of the first levels together. -/
def budS (t : Co) : Nat → Int
  | 0 => 0
  | k + 1 => budS t k + bud t k
theorem planGo_each (c : Ca) (t : Co) : ∀ (n : Nat) (x : Int) (i : Nat), (∀ j, i ≤ j → j < i + n → 1 ≤ bud t j) → (planGo c t n x i).2 = 0 → (planGo c t n x i).1.length = n ∧ ∀ j s, (planGo c t n x i).1[j]? = some s → s.lv = ((i + j : Nat) : Int) ∧ 0 ≤ x ∧ x < s.du ∧ s.du ≤ 1125899906842624 ∧ cnt c.op x s.du = budS t (i + j + 1) - budS t i
  | 0, x, i, _, _ => by simp [planGo]
  | n + 1, x, i, hb, h => by
    rw [planGo] at h ⊢
    by_cases h1 : (begV c i (bud t i) x).2 = 0
    rotate_left
    · rw [if_neg h1] at h; exact absurd h h1
    rw [if_pos h1] at h ⊢
    by_cases h2 : (planGo c t n (begV c i (bud t i) x).1.du (i + 1)).2 = 0
    rotate_left
    · rw [if_neg h2] at h; exact absurd h h2
    rw [if_pos h2]
    obtain ⟨b1, b2, b3, b4, b5⟩ := begV_ok (hb i (by omega) (by omega)) h1
    obtain ⟨g1, g2⟩ := planGo_each c t n _ (i + 1) (fun j hj hl => hb j (by omega) (by omega)) h2
    refine ⟨by simp [g1], fun j s hj => ?_⟩
    rcases j with _ | j
    · simp at hj; subst hj
      refine ⟨by simpa using b1, b2, b3, b4, ?_⟩
      rw [b5]; simp only [budS]; omega
    · simp at hj
      obtain ⟨e1, e2, e3, e4, e5⟩ := g2 j s hj
      refine ⟨by rw [e1]; omega, b2, by omega, e4, ?_⟩
      rw [cnt_add (b := (begV c i (bud t i) x).1.du) (by omega) (by omega), b5, e5, show i + 1 + j + 1 = i + (j + 1) + 1 by omega]
      simp only [budS]; omega
theorem planGo_none (c : Ca) (t : Co) : ∀ (n : Nat) (x : Int) (i : Nat), ¬ (planGo c t n x i).2 = 0 → (planGo c t n x i).1 = []
  | 0, x, i, h => by simp [planGo] at h
  | n + 1, x, i, h => by
    rw [planGo] at h ⊢
    split
    · rename_i h1
      rw [if_pos h1] at h
      split
      · rename_i h2; rw [if_pos h2] at h; exact absurd rfl h
      · rfl
    · rfl
theorem good_bud {t : Co} (h : goodB t = true) {j : Nat} (hj : j < t.lv.length) : 1 ≤ bud t j ∧ bud t j ≤ 1125899906842624 := by
  have h1 := good_lv h _ (List.getElem_mem hj)
  unfold bud
  rw [List.getElem?_eq_getElem hj]
  exact ⟨h1.1, h1.2.1⟩
theorem budS_bd {t : Co} (h : goodB t = true) : ∀ j : Nat, j ≤ t.lv.length → 0 ≤ budS t j ∧ budS t j ≤ j * 1125899906842624
  | 0, _ => by simp [budS]
  | j + 1, hj => by
    have h1 := budS_bd h j (by omega)
    have h2 := good_bud h (j := j) (by omega)
    rw [budS]; omega
/-- Each step of a plan that stands, and a plan that does not. -/
theorem plan_each {c : Ca} {t : Co} {now : Int} (h : (planV c t now).2 = 0) : goodB t = true ∧ (planV c t now).1.length = t.lv.length ∧ ∀ (j : Nat) (s : St), (planV c t now).1[j]? = some s → s.lv = (j : Int) ∧ c.el now s.du = (budS t (j + 1), 0) := by
  unfold planV at h ⊢
  by_cases hg : goodB t = true
  rotate_left
  · rw [if_neg hg] at h; exact absurd h (by decide)
  rw [if_pos hg] at h ⊢
  obtain ⟨h1, h2⟩ := planGo_each c t t.lv.length now 0 (fun j _ hj => (good_bud hg (by omega)).1) h
  refine ⟨hg, h1, fun j s hj => ?_⟩
  obtain ⟨e1, e2, e3, e4, e5⟩ := h2 j s hj
  refine ⟨by simpa using e1, ?_⟩
  rw [Ca.el, if_neg (by omega), e5, show 0 + j + 1 = j + 1 by omega]
  simp [budS]
theorem plan_none {c : Ca} {t : Co} {now : Int} (h : ¬ (planV c t now).2 = 0) : (planV c t now).1 = [] := by
  unfold planV at h ⊢
  by_cases hg : goodB t = true
  · rw [if_pos hg] at h ⊢; exact planGo_none c t _ _ _ h
  · rw [if_neg hg]
theorem plan_len (c : Ca) (t : Co) (now : Int) : (planV c t now).1.length ≤ t.lv.length := by
  by_cases h : (planV c t now).2 = 0
  · rw [(plan_each h).2.1]; exact Nat.le_refl _
  · rw [plan_none h]; simp
end Go.Proofs.YtcblbjhhlnmkjaaGreat
