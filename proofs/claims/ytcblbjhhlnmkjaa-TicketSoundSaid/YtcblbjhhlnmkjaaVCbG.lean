/- Plain law of chapter 10: what is due grows, is the least, adds. -/
import Derived.Test.YtcblbjhhlnmkjaaVCalX
namespace Go.Proofs.Ytcblbjhhlnmkjaa
open Go.RowKit Cal
set_option maxHeartbeats 4000000
set_option maxRecDepth 100000
set_option linter.unusedVariables false
section
variable {c : Ca} {a b : Int}
theorem due_yes (h : (c.due a b).2 = 0) : instB a = true ∧ 0 ≤ b ∧ ((b = 0 ∧ c.due a b = (a, 0)) ∨ (1 ≤ b ∧ len c.wk ≠ 0 ∧ ∃ d, c.due a b = (d, 0) ∧ IsDue c.op a b d ∧ d ≤ 1125899906842624)) := by
  unfold Ca.due at *
  by_cases h1 : a < 0 ∨ 1125899906842624 < a ∨ b < 0
  · rw [if_pos h1] at h; simp at h
  rw [if_neg h1] at h ⊢
  refine ⟨instB_of (by omega) (by omega), by omega, ?_⟩
  by_cases h2 : b = 0
  · rw [if_pos h2]; exact .inl ⟨h2, rfl⟩
  rw [if_neg h2] at h ⊢
  by_cases h3 : len c.wk = 0
  · rw [if_pos h3] at h; simp at h
  rw [if_neg h3] at h ⊢
  by_cases h4 : cnt c.op a 1125899906842624 < b
  · rw [if_pos h4] at h; simp at h
  rw [if_neg h4]
  obtain ⟨d, hd, hi⟩ := IsDue.of_cnt (p := c.op) (s := a) (b := b) (e := 1125899906842624) (by omega) (by omega) (by omega)
  rw [dueOf_eq hi]
  exact .inr ⟨by omega, h3, d, rfl, hi, hd⟩
theorem due_no (h : (c.due a b).2 ≠ 0) : (c.due a b).1 = 0 ∧ (((c.due a b).2 = 2 ∧ (a < 0 ∨ 1125899906842624 < a ∨ b < 0)) ∨ ((c.due a b).2 = 40 ∧ len c.wk = 0 ∧ b ≠ 0) ∨ ((c.due a b).2 = 10 ∧ cnt c.op a 1125899906842624 < b)) := by
  unfold Ca.due at *
  by_cases h1 : a < 0 ∨ 1125899906842624 < a ∨ b < 0
  · rw [if_pos h1]; exact ⟨rfl, .inl ⟨rfl, h1⟩⟩
  rw [if_neg h1] at h ⊢
  by_cases h2 : b = 0
  · rw [if_pos h2] at h; simp at h
  rw [if_neg h2] at h ⊢
  by_cases h3 : len c.wk = 0
  · rw [if_pos h3]; exact ⟨rfl, .inr (.inl ⟨rfl, h3, h2⟩)⟩
  rw [if_neg h3] at h ⊢
  by_cases h4 : cnt c.op a 1125899906842624 < b
  · rw [if_pos h4]; exact ⟨rfl, .inr (.inr ⟨rfl, h4⟩)⟩
  rw [if_neg h4] at h; simp at h
theorem week_nil {l : List Sp} (h : Week l) (hl : len l = 0) : l = [] := by
  cases l with
  | nil => rfl
  | cons s l =>
    exfalso
    rw [h.len_eq, within_cons] at hl
    obtain ⟨⟨h1, h2, h3, h4⟩, -, h5⟩ := h
    have h6 := h5 s (by simp)
    have h7 := (within_bd h4 (a := 0) (b := 604800) (by omega)).1
    rw [if_pos (by omega)] at hl
    omega
theorem cnt_closed (hok : c.Ok) (hl : len c.wk = 0) {x y : Int} (h : x ≤ y) : cnt c.op x y = 0 := by
  have := week_nil hok.wk hl
  exact cnt_zero h (fun z _ _ => by simp [Ca.op, Ca.wkB, this, hasB])
theorem grows (hok : c.Ok) {a1 a2 b1 b2 : Int} (h0 : 0 ≤ a1) (h1 : a1 ≤ a2) (h2 : a2 ≤ 1125899906842624) (h3 : 0 ≤ b1) (h4 : b1 ≤ b2) (h : (c.due a2 b2).2 = 0) :
    (c.due a1 b1).2 = 0 ∧ (c.due a1 b1).1 ≤ (c.due a2 b2).1 := by
  have i1 := instB_of h0 (show a1 ≤ 1125899906842624 by omega)
  obtain ⟨i2, -, hd⟩ := due_yes h
  rcases hd with ⟨e0, e1⟩ | ⟨e0, e1, d, e2, e3, e4⟩
  · obtain rfl : b1 = 0 := by omega
    rw [due_zero c i1, e1]; exact ⟨rfl, h1⟩
  · rw [e2]
    by_cases hb : b1 = 0
    · subst hb; rw [due_zero c i1]; exact ⟨rfl, by have := e3.1; show a1 ≤ d; omega⟩
    · have hc := cnt_add (p := c.op) (a := a1) (b := a2) (c := d) h1 (by have := e3.1; omega)
      have hp := cnt_pos (p := c.op) (a := a1) (b := a2) h1
      obtain ⟨d1, f1, f2⟩ := IsDue.of_cnt (p := c.op) (s := a1) (b := b1) (e := d) (by have := e3.1; omega) (by omega) (by have := e3.2.1; omega)
      rw [due_of c i1 e1 f2 (by omega)]
      exact ⟨rfl, f1⟩
theorem least_no (hok : c.Ok) (h0 : instB a = true) (hb : 1 ≤ b) (hn : (c.due a b).2 ≠ 0) :
    (c.due a b).1 = 0 ∧ (c.el a 1125899906842624).2 = 0 ∧ (c.el a 1125899906842624).1 < b ∧ ((c.due a b).2 = 10 ∨ ((c.due a b).2 = 40 ∧ c.wk.length = 0)) := by
  obtain ⟨x0, x1⟩ := instB_true h0
  rw [el_ok c h0 (by decide) (by omega)]
  obtain ⟨e1, e2⟩ := due_no hn
  refine ⟨e1, rfl, ?_⟩
  rcases e2 with ⟨-, e3⟩ | ⟨e3, e4, -⟩ | ⟨e3, e4⟩
  · omega
  · exact ⟨by simp only; rw [cnt_closed hok e4 (by omega)]; omega, .inr ⟨e3, by rw [week_nil hok.wk e4]; rfl⟩⟩
  · exact ⟨e4, .inl e3⟩
theorem least_yes (hok : c.Ok) (hb : 1 ≤ b) (hn : (c.due a b).2 = 0) : ∃ d, c.due a b = (d, 0) ∧ 1 ≤ d ∧ d ≤ 1125899906842624 ∧ c.el a d = (b, 0) ∧ c.el a (d - 1) = (b - 1, 0) ∧ openV c (d - 1) = true := by
  obtain ⟨i1, -, hd⟩ := due_yes hn
  obtain ⟨x0, x1⟩ := instB_true i1
  rcases hd with ⟨e0, e1⟩ | ⟨e0, e1, d, e2, e3, e4⟩
  · omega
  · have hlt := e3.1
    refine ⟨d, e2, by omega, e4, ?_, ?_, ?_⟩
    · rw [el_ok c i1 (instB_of (by omega) e4) (by omega), e3.2.1]
    · rw [el_ok c i1 (instB_of (by omega) (by omega)) (by omega), e3.last]
    · unfold openV; rw [e3.2.2]; simp; omega
theorem adds1 (hok : c.Ok) {s b1 b2 : Int} (h1 : 0 ≤ b1) (h2 : 0 ≤ b2) (h : (c.due s (b1 + b2)).2 = 0) :
    (c.due s b1).2 = 0 ∧ (c.due s b1).1 ≤ (c.due s (b1 + b2)).1 ∧ (c.due (c.due s b1).1 b2).2 = 0 ∧ (0 < b2 → (c.due (c.due s b1).1 b2).1 = (c.due s (b1 + b2)).1) ∧ (b2 = 0 → (c.due (c.due s b1).1 b2).1 = (c.due s b1).1) := by
  obtain ⟨i1, -, hd⟩ := due_yes h
  obtain ⟨x0, x1⟩ := instB_true i1
  by_cases hz : b1 = 0
  · subst hz
    rw [due_zero c i1]
    rw [show (0 : Int) + b2 = b2 by omega] at *
    refine ⟨rfl, ?_, h, fun _ => rfl, fun e => ?_⟩
    · rcases hd with ⟨e0, e1⟩ | ⟨e0, e1, d, e2, e3, e4⟩
      · rw [e1]; exact Int.le_refl _
      · rw [e2]; have := e3.1; show s ≤ d; omega
    · subst e; rw [due_zero c i1]
  · rcases hd with ⟨e0, e1⟩ | ⟨e0, e1, d, e2, e3, e4⟩
    · omega
    · obtain ⟨d1, f1, f2⟩ := IsDue.of_cnt (p := c.op) (s := s) (b := b1) (e := d) (by have := e3.1; omega) (by omega) (by have := e3.2.1; omega)
      have g1 := f2.1
      have i2 : instB d1 = true := instB_of (by omega) (by omega)
      rw [due_of c i1 e1 f2 (by omega), e2]
      refine ⟨rfl, f1, ?_⟩
      by_cases hb2 : b2 = 0
      · subst hb2; simp only; rw [due_zero c i2]; exact ⟨by simp, fun e => by omega, fun _ => by simp⟩
      · have hc := cnt_add (p := c.op) (a := s) (b := d1) (c := d) (by omega) f1
        have hne : d1 ≠ d := fun e => by subst e; have := f2.2.1; have := e3.2.1; omega
        have hi : IsDue c.op d1 b2 d := ⟨by omega, by have := f2.2.1; have := e3.2.1; omega, e3.2.2⟩
        simp only
        rw [due_of c i2 e1 hi e4]
        exact ⟨by simp, fun _ => by simp, fun e => by omega⟩
theorem adds2 (hok : c.Ok) {s b x : Int} (h : (c.due s b).2 = 0) (h1 : s ≤ x) (h2 : x < (c.due s b).1) :
    (c.rest s b x).2 = 0 ∧ 0 < (c.rest s b x).1 ∧ (c.rest s b x).1 ≤ b ∧ c.due x (c.rest s b x).1 = ((c.due s b).1, 0) := by
  obtain ⟨i1, hb, hd⟩ := due_yes h
  obtain ⟨x0, x1⟩ := instB_true i1
  rcases hd with ⟨e0, e1⟩ | ⟨e0, e1, d, e2, e3, e4⟩
  · rw [e1] at h2; simp only at h2; omega
  · rw [e2] at h2 ⊢
    simp only at h2 ⊢
    have i2 : instB x = true := instB_of (by omega) (by omega)
    have hl := e3.lt h1 h2
    have hc := cnt_add (p := c.op) (a := s) (b := x) (c := d) h1 (by omega)
    have hp := cnt_pos (p := c.op) (a := s) (b := x) h1
    have he := el_ok c i1 i2 (show ¬ x < s by omega)
    have hr : c.rest s b x = (b - cnt c.op s x, 0) := by
      rw [rest_ok c (by omega) (by rw [he]), he]
      simp only
      rw [show max (b - cnt c.op s x) 0 = b - cnt c.op s x by omega]
    have hi : IsDue c.op x (b - cnt c.op s x) d := ⟨h2, by have := e3.2.1; omega, e3.2.2⟩
    rw [hr]
    simp only
    rw [due_of c i2 e1 hi e4]
    exact ⟨by simp, by omega, by omega, by simp⟩
theorem op_step {x : Int} (h0 : 0 ≤ x) (h1 : x < 1125899906842624) (h : a ≤ x) : cnt c.op a (x + 1) = cnt c.op a x + (if openV c x = true then 1 else 0) := by
  rw [cnt_step h]
  have : openV c x = c.op x := by unfold openV; simp [h0, h1]
  rw [this]
end
end Go.Proofs.Ytcblbjhhlnmkjaa
