/- Package chain: Plan by a clock. (written by genchl.py) -/
import Derived.Test.YtcblbjhhlnmkjaaGreatChB
import Derived.Test.YtcblbjhhlnmkjaaGreatArgsT
namespace Go.Proofs.YtcblbjhhlnmkjaaGreat
open Go.RowKit Cal
set_option maxHeartbeats 4000000
set_option maxRecDepth 100000
set_option linter.unusedVariables false

/-- A plan from a level on: n levels are left. -/
noncomputable def planGo (c : Ca) (t : Co) : Nat → Int → Nat → List St × Int
  | 0, _, _ => ([], 0)
  | n + 1, x, i => if (begV c i (bud t i) x).2 = 0 then (if (planGo c t n (begV c i (bud t i) x).1.du (i + 1)).2 = 0 then ((begV c i (bud t i) x).1 :: (planGo c t n (begV c i (bud t i) x).1.du (i + 1)).1, 0) else ([], (planGo c t n (begV c i (bud t i) x).1.du (i + 1)).2)) else ([], (begV c i (bud t i) x).2)
noncomputable def planV (c : Ca) (t : Co) (now : Int) : List St × Int := if goodB t = true then planGo c t t.lv.length now 0 else ([], 2)
/-- Between two steps: what is laid down so far (L), the step at hand (s, of level L.length), its error (e). -/
def PlanAt (c : Ca) (t : Co) (now : Int) (L : List St) (s : St) (e : Int) : Prop :=
  (e ≠ 0 ∧ planV c t now = ([], e)) ∨
  (e = 0 ∧ goodB t = true ∧ L.length < t.lv.length ∧ s.lv = L.length ∧ planV c t now = (if (planGo c t (t.lv.length - (L.length + 1)) s.du (L.length + 1)).2 = 0 then (L ++ s :: (planGo c t (t.lv.length - (L.length + 1)) s.du (L.length + 1)).1, 0) else ([], (planGo c t (t.lv.length - (L.length + 1)) s.du (L.length + 1)).2)))
theorem begV_lv {c : Ca} {l x y : Int} (h : (begV c l x y).2 = 0) : (begV c l x y).1.lv = l := by
  unfold begV at h ⊢; split at h
  · rename_i h1; rw [if_pos h1]
  · rename_i h1; exact absurd h h1
theorem PlanAt.start (c : Ca) (t : Co) (now : Int) : PlanAt c t now [] (firstV c t now).1 (firstV c t now).2 := by
  by_cases hg : goodB t = true
  · have hgl := good_hd hg
    rw [firstV, if_pos hg]
    obtain ⟨m, hm⟩ : ∃ m, t.lv.length = m + 1 := ⟨t.lv.length - 1, by omega⟩
    by_cases he : (begV c 0 (bud t 0) now).2 = 0
    · refine .inr ⟨he, hg, by simp; omega, by rw [begV_lv he]; rfl, ?_⟩
      rw [planV, if_pos hg, hm, planGo]
      simp only [List.length_nil, show ((0 : Nat) : Int) = 0 from rfl, Nat.zero_add, Nat.add_sub_cancel, List.nil_append]
      rw [if_pos he]
    · refine .inl ⟨he, ?_⟩
      rw [planV, if_pos hg, hm, planGo]
      simp only [show ((0 : Nat) : Int) = 0 from rfl]
      rw [if_neg he]
  · rw [firstV, if_neg hg]
    exact .inl ⟨by show (2 : Int) ≠ 0; omega, by rw [planV, if_neg hg]⟩
theorem PlanAt.last {c : Ca} {t : Co} {now : Int} {L : List St} {s : St} (h : PlanAt c t now L s 0) (hl : L.length + 1 = t.lv.length) : planV c t now = (L ++ [s], 0) ∧ nextV c t s s.du = ((St.z, false), 0) := by
  rcases h with h | ⟨-, hg, h1, h2, h3⟩
  · exact absurd rfl h.1
  · rw [show t.lv.length - (L.length + 1) = 0 by omega] at h3
    refine ⟨by rw [h3, planGo]; simp, ?_⟩
    rw [nextV, if_pos ⟨hg, by omega, by omega⟩, if_pos (by omega)]
theorem PlanAt.next {c : Ca} {t : Co} {now : Int} {L : List St} {s : St} (h : PlanAt c t now L s 0) (hl : L.length + 1 < t.lv.length) :
    PlanAt c t now (L ++ [s]) (nextV c t s s.du).1.1 (nextV c t s s.du).2 ∧ (nextV c t s s.du).1.2 = decide ((nextV c t s s.du).2 = 0) := by
  rcases h with h | ⟨-, hg, h1, h2, h3⟩
  · exact absurd rfl h.1
  · have e : nextV c t s s.du = (((begV c (s.lv + 1) (bud t (s.lv + 1).toNat) s.du).1, decide ((begV c (s.lv + 1) (bud t (s.lv + 1).toNat) s.du).2 = 0)), (begV c (s.lv + 1) (bud t (s.lv + 1).toNat) s.du).2) := by
      rw [nextV, if_pos ⟨hg, by omega, by omega⟩, if_neg (by omega)]
    rw [e]
    refine ⟨?_, rfl⟩
    simp only
    rw [h2, show ((L.length : Int) + 1).toNat = L.length + 1 by omega, show ((L.length : Int) + 1) = ((L.length + 1 : Nat) : Int) by simp]
    obtain ⟨m, hm⟩ : ∃ m, t.lv.length - (L.length + 1) = m + 1 := ⟨t.lv.length - (L.length + 1) - 1, by omega⟩
    rw [hm, planGo] at h3
    by_cases he : (begV c ((L.length + 1 : Nat) : Int) (bud t (L.length + 1)) s.du).2 = 0
    · rw [if_pos he] at h3
      refine .inr ⟨he, hg, by simp; omega, by rw [begV_lv he]; simp, ?_⟩
      rw [h3, show t.lv.length - ((L ++ [s]).length + 1) = m by simp; omega, show (L ++ [s]).length + 1 = L.length + 1 + 1 by simp]
      by_cases hp : (planGo c t m (begV c ((L.length + 1 : Nat) : Int) (bud t (L.length + 1)) s.du).1.du (L.length + 1 + 1)).2 = 0
      · simp only [if_pos hp]; simp
      · simp only [if_neg hp]
    · rw [if_neg he] at h3
      refine .inl ⟨he, ?_⟩
      rw [h3]; simp only [if_neg he]
end Go.Proofs.YtcblbjhhlnmkjaaGreat
