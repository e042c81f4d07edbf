/- The plain law of tickets: what an opened ticket is, whatever happens to it. -/
import Derived.Test.YtcblbjhhlnmkjaaVTkC
import Derived.Test.YtcblbjhhlnmkjaaVCbG
namespace Go.Proofs.Ytcblbjhhlnmkjaa
open Go.RowKit Cal
set_option maxHeartbeats 4000000
set_option linter.unusedVariables false

def aheadV (t : TkV) (c2 : Co) : Int := if (t.state ≠ 1 ∧ t.state ≠ 2) ∨ t.level < 0 then 0 else max ((c2.lv.length : Int) - t.level) 0
structure TInv (x : Ca) (c2 : Co) (t : TkV) (next told now : Int) : Prop where
  con : t.contract = 2
  told : t.told = told ∧ 0 ≤ told ∧ told ≤ 1000
  lev : 0 ≤ t.level ∧ t.level < c2.lv.length
  now0 : 0 ≤ now
  st : (t.state = 1 ∧ next = t.level ∧ t.from_ ≤ now ∧ 1 ≤ t.left ∧ x.due t.from_ t.left = (t.due, 0)) ∨
    (t.state = 2 ∧ next = t.level ∧ t.due = 0 ∧ 1 ≤ t.left ∧ t.left ≤ 1125899906842624 ∧ 0 ≤ t.from_ ∧ t.from_ ≤ 1125899906842624 ∧ t.gen = 0) ∨
    (t.state = 3 ∧ next = t.level + 1 ∧ t.gen = 0 ∧ t.from_ = 0 ∧ t.left = 0 ∧ t.due = 0) ∨
    (t.state = 4 ∧ 0 ≤ next ∧ next ≤ c2.lv.length ∧ t.gen = 0 ∧ t.from_ = 0 ∧ t.left = 0 ∧ t.due = 0)
section
variable {x : Ca} {c2 : Co} {t : TkV} {next told now : Int}
theorem due_what {a b d : Int} (h : x.due a b = (d, 0)) (hb : 1 ≤ b) : 0 ≤ a ∧ a ≤ 1125899906842624 ∧ a < d ∧ d ≤ 1125899906842624 ∧ b ≤ d - a := by
  obtain ⟨i1, hb0, hd⟩ := due_yes (c := x) (a := a) (b := b) (by rw [h])
  obtain ⟨x0, x1⟩ := instB_true i1
  rcases hd with ⟨e0, e1⟩ | ⟨e0, e1, d', e2, e3, e4⟩
  · omega
  · rw [h] at e2
    injection e2 with e2 _
    subst e2
    have h1 := e3.1
    have h2 := cnt_pos (p := x.op) (a := a) (b := d) (by omega)
    have h3 := e3.2.1
    omega
theorem TInv.mono {now' : Int} (h : TInv x c2 t next told now) (hn : now ≤ now') : TInv x c2 t next told now' :=
  ⟨h.con, h.told, h.lev, by have := h.now0; omega, by rcases h.st with h1 | h1 | h1 | h1; exact .inl ⟨h1.1, h1.2.1, by omega, h1.2.2.2⟩; exact .inr (.inl h1); exact .inr (.inr (.inl h1)); exact .inr (.inr (.inr h1))⟩
theorem TInv.gen (h : TInv x c2 t next told now) (hs : t.state = 1) (g : Nat) : TInv x c2 ⟨t.id, t.contract, t.state, t.level, g, t.from_, t.left, t.due, t.told⟩ next told now := by
  refine ⟨h.con, h.told, h.lev, h.now0, ?_⟩
  rcases h.st with h1 | h1 | h1 | h1
  · exact .inl h1
  all_goals omega
theorem TInv.ok (h : TInv x c2 t next told now) : t.ok ∧ t.left ≤ 1125899906842624 := by
  rcases h.st with h1 | h1 | h1 | h1
  · have := due_what h1.2.2.2.2 h1.2.2.2.1
    exact ⟨by simp only [TkV.ok]; omega, by omega⟩
  all_goals exact ⟨by simp only [TkV.ok]; omega, by omega⟩
theorem TInv.sound (h : TInv x c2 t next told now) (hc : c2.lv.length ≤ 6) (hg : t.state = 1 → t.gen ≠ 0 ∧ t.gen ≤ 1152921504606846976) : tkSound t = true := by
  have h1 := h.con; have h2 := h.told; have h3 := h.lev
  simp only [tkSound, Bool.and_eq_true, decide_eq_true_eq]
  rcases h.st with k | k | k | k
  · have := due_what k.2.2.2.2 k.2.2.2.1
    have := hg k.1
    refine ⟨show tkHead t from ⟨by rw [h1]; decide, by rw [h1]; decide, h3.1, by omega, by rw [h2.1]; exact h2.2.1, by rw [h2.1]; omega, by omega⟩, ?_⟩
    rw [if_pos k.1]
    exact decide_eq_true (show tkRuns t from ⟨by omega, by omega, by omega, by omega, by omega, by omega⟩)
  · refine ⟨show tkHead t from ⟨by rw [h1]; decide, by rw [h1]; decide, h3.1, by omega, by rw [h2.1]; exact h2.2.1, by rw [h2.1]; omega, by omega⟩, ?_⟩
    rw [if_neg (by omega), if_pos k.1]
    exact decide_eq_true (show tkStands t from ⟨by omega, by omega, by omega, by omega, by omega, by omega⟩)
  · refine ⟨show tkHead t from ⟨by rw [h1]; decide, by rw [h1]; decide, h3.1, by omega, by rw [h2.1]; exact h2.2.1, by rw [h2.1]; omega, by omega⟩, ?_⟩
    rw [if_neg (by omega), if_neg (by omega)]
    simp only [Bool.and_eq_true]
    exact ⟨decide_eq_true (by omega), decide_eq_true (show tkDone t from ⟨by omega, by omega, by omega, by omega⟩)⟩
  · refine ⟨show tkHead t from ⟨by rw [h1]; decide, by rw [h1]; decide, h3.1, by omega, by rw [h2.1]; exact h2.2.1, by rw [h2.1]; omega, by omega⟩, ?_⟩
    rw [if_neg (by omega), if_neg (by omega)]
    simp only [Bool.and_eq_true]
    exact ⟨decide_eq_true (by omega), decide_eq_true (show tkDone t from ⟨by omega, by omega, by omega, by omega⟩)⟩
theorem TInv.ahead (h : TInv x c2 t next told now) : t.told = told ∧ 0 ≤ next ∧ 0 ≤ aheadV t c2 ∧ aheadV t c2 ≤ c2.lv.length ∧ next + aheadV t c2 ≤ c2.lv.length := by
  have h3 := h.lev
  refine ⟨h.told.1, ?_⟩
  unfold aheadV
  rcases h.st with k | k | k | k
  · rw [if_neg (by omega)]; omega
  · rw [if_neg (by omega)]; omega
  · rw [if_pos (by omega)]; omega
  · rw [if_pos (by omega)]; omega
theorem first_ok (hg : goodB c2 = true) (h : (firstV x c2 now).2 = 0) : ∃ d, firstV x c2 now = (⟨0, now, bud c2 0, d⟩, 0) ∧ x.due now (bud c2 0) = (d, 0) ∧ 1 ≤ bud c2 0 := by
  rw [firstV, if_pos hg, begV] at h ⊢
  have hgl := good_hd hg
  have ha : c2.lv[0]? = some (c2.lv[0]'(by omega)) := List.getElem?_eq_getElem _
  have hgb := good_lv hg _ (List.getElem_mem (show 0 < c2.lv.length by omega))
  rw [← bud_at ha] at hgb
  by_cases hd : (x.due now (bud c2 0)).2 = 0
  · rw [if_pos hd]
    exact ⟨_, rfl, by rw [← hd], hgb.1⟩
  · rw [if_neg hd] at h; exact absurd h hd
theorem TInv.opened (hg : goodB c2 = true) (h0 : 0 ≤ now) (h : (topenV x 1 2 c2 now).2 = 0) : TInv x c2 (topenV x 1 2 c2 now).1 0 0 now := by
  rw [topenV, if_neg (by omega)] at h ⊢
  by_cases hf : (firstV x c2 now).2 = 0
  · obtain ⟨d, e, hd, hb⟩ := first_ok hg hf
    have hgl := good_hd hg
    rw [e]
    exact ⟨rfl, ⟨rfl, by omega, by omega⟩, ⟨by show (0 : Int) ≤ 0; omega, by show (0 : Int) < _; omega⟩, h0, .inl ⟨rfl, rfl, Int.le_refl _, hb, hd⟩⟩
  · rw [withV, if_neg hf] at h; exact absurd h hf
theorem opened_no (h : (topenV x 1 2 c2 now).2 ≠ 0) : (topenV x 1 2 c2 now).1 = TkV.z := by
  rw [topenV, if_neg (by omega)] at h ⊢
  by_cases hf : (firstV x c2 now).2 = 0
  · rw [withV, if_pos hf] at h; exact absurd rfl h
  · rw [withV, if_neg hf]
theorem TInv.reopen (h : TInv x c2 t next told now) (hg : goodB c2 = true) (hr : (treopenV x t c2 now).2 = 0) : TInv x c2 (treopenV x t c2 now).1 0 told now := by
  by_cases h4 : t.state = 4
  · rw [treopenV, if_pos h4] at hr ⊢
    by_cases hf : (firstV x c2 now).2 = 0
    · obtain ⟨d, e, hd, hb⟩ := first_ok hg hf
      have hgl := good_hd hg
      rw [e]
      exact ⟨h.con, h.told, ⟨by show (0 : Int) ≤ 0; omega, by show (0 : Int) < _; omega⟩, h.now0, .inl ⟨rfl, rfl, Int.le_refl _, hb, hd⟩⟩
    · rw [withV, if_neg hf] at hr; exact absurd hr hf
  · rw [treopenV, if_neg h4] at hr; simp at hr
theorem TInv.resolve (h : TInv x c2 t next told now) (hr : (tresolveV t).2 = 0) : TInv x c2 (tresolveV t).1 next told now := by
  have h3 := h.lev
  by_cases h4 : t.state = 1 ∨ t.state = 2 ∨ t.state = 3
  · rw [tresolveV, if_pos h4]
    refine ⟨h.con, h.told, h.lev, h.now0, .inr (.inr (.inr ⟨rfl, ?_, ?_, rfl, rfl, rfl, rfl⟩))⟩
    · rcases h.st with k | k | k | k <;> omega
    · rcases h.st with k | k | k | k <;> omega
  · rw [tresolveV, if_neg h4] at hr; simp at hr
theorem TInv.resume (h : TInv x c2 t next told now) (hr : (tresumeV x t now).2 = 0) : TInv x c2 (tresumeV x t now).1 next told now := by
  by_cases h4 : t.state = 2
  · rw [tresumeV, if_pos h4] at hr ⊢
    have k : t.state = 2 ∧ next = t.level ∧ t.due = 0 ∧ 1 ≤ t.left ∧ t.left ≤ 1125899906842624 ∧ 0 ≤ t.from_ ∧ t.from_ ≤ 1125899906842624 ∧ t.gen = 0 := by
      rcases h.st with k | k | k | k
      · omega
      · exact k
      · omega
      · omega
    have hgo : goV x t.st now = begV x t.level t.left now := by
      rw [goV, if_neg (by simp only [TkV.st]; omega), if_neg (by simp only [TkV.st]; omega)]; rfl
    rw [hgo] at hr ⊢
    by_cases hd : (x.due now t.left).2 = 0
    · rw [begV, if_pos hd]
      refine ⟨h.con, h.told, h.lev, h.now0, .inl ⟨rfl, k.2.1, Int.le_refl _, k.2.2.2.1, ?_⟩⟩
      show x.due now t.left = ((x.due now t.left).1, 0)
      rw [← hd]
    · rw [begV, if_neg hd, withV, if_neg hd] at hr; exact absurd hr hd
  · rw [tresumeV, if_neg h4] at hr; simp at hr
theorem TInv.pause (hok : x.Ok) (h : TInv x c2 t next told now) (hr : (tpauseV x t now).2 = 0) : TInv x c2 (tpauseV x t now).1 next told now := by
  by_cases h4 : t.state = 1
  · rw [tpauseV, if_pos h4] at hr ⊢
    have k : t.state = 1 ∧ next = t.level ∧ t.from_ ≤ now ∧ 1 ≤ t.left ∧ x.due t.from_ t.left = (t.due, 0) := by
      rcases h.st with k | k | k | k
      · exact k
      · omega
      · omega
      · omega
    obtain ⟨d1, d2, d3, d4, d5⟩ := due_what k.2.2.2.2 k.2.2.2.1
    have hdu : ¬ t.st.du = 0 := by simp only [TkV.st]; omega
    by_cases hn : t.st.du ≤ now
    · rw [standV, if_neg hdu, if_pos hn, withV, if_neg (by simp)] at hr; simp at hr
    · have hn' : ¬ t.due ≤ now := hn
      obtain ⟨p1, p2, p3, p4⟩ := adds2 hok (s := t.from_) (b := t.left) (x := now) (by rw [k.2.2.2.2]) k.2.2.1 (by rw [k.2.2.2.2]; show now < t.due; omega)
      have e : standV x t.st now = (⟨t.level, now, (x.rest t.from_ t.left now).1, 0⟩, 0) := by
        rw [standV, if_neg hdu, if_neg hn, if_pos (by exact p1)]; rfl
      rw [e]
      exact ⟨h.con, h.told, h.lev, h.now0, .inr (.inl ⟨rfl, k.2.1, rfl, by show 1 ≤ (x.rest t.from_ t.left now).1; omega, by show (x.rest t.from_ t.left now).1 ≤ _; omega, h.now0, by show now ≤ _; omega, rfl⟩)⟩
  · rw [tpauseV, if_neg h4] at hr; simp at hr
theorem TInv.fire (hg : goodB c2 = true) (h : TInv x c2 t next told now) (ht : told ≤ 900) (hr : (tfireV x t c2 now).2 = 0) :
    TInv x c2 (tfireV x t c2 now).1.1 (next + 1) (told + 1) now ∧ (tfireV x t c2 now).1.2 = next ∧ ((tfireV x t c2 now).1.1.state = 1 → (tfireV x t c2 now).1.1.level = next + 1) := by
  have h3 := h.lev
  have h5 := h.told
  by_cases h4 : t.state = 1
  · rw [tfireV, if_neg (by omega)] at hr ⊢
    have k : t.state = 1 ∧ next = t.level ∧ t.from_ ≤ now ∧ 1 ≤ t.left ∧ x.due t.from_ t.left = (t.due, 0) := by
      rcases h.st with k | k | k | k
      · exact k
      · omega
      · omega
      · omega
    by_cases hd : now < t.due
    · rw [if_pos hd] at hr; simp at hr
    rw [if_neg hd, if_neg (by rw [hg]; simp; omega)]
    have hmin : min t.told 2147483647 + 1 = told + 1 := by omega
    by_cases hm : (nextV x c2 t.st now).1.2 = true
    · rw [if_pos hm]
      have hx : nextV x c2 t.st now = if t.level = c2.lv.length - 1 then ((St.z, false), 0) else (((begV x (t.level + 1) (bud c2 (t.level + 1).toNat) now).1, decide ((begV x (t.level + 1) (bud c2 (t.level + 1).toNat) now).2 = 0)), (begV x (t.level + 1) (bud c2 (t.level + 1).toNat) now).2) := by
        rw [nextV, if_pos ⟨hg, h3.1, h3.2⟩]; rfl
      by_cases hl : t.level = c2.lv.length - 1
      · rw [hx, if_pos hl] at hm; simp at hm
      rw [if_neg hl] at hx
      rw [hx] at hm
      have hb2 : (begV x (t.level + 1) (bud c2 (t.level + 1).toNat) now).2 = 0 := by simpa using hm
      have hj : (t.level + 1).toNat < c2.lv.length := by omega
      have ha : c2.lv[(t.level + 1).toNat]? = some (c2.lv[(t.level + 1).toNat]'hj) := List.getElem?_eq_getElem _
      have hgb := good_lv hg _ (List.getElem_mem hj)
      rw [← bud_at ha] at hgb
      generalize bud c2 (t.level + 1).toNat = B at *
      have hdd : (x.due now B).2 = 0 := by
        by_cases hd0 : (x.due now B).2 = 0
        · exact hd0
        · rw [begV, if_neg hd0] at hb2; exact absurd hb2 hd0
      have hbv : begV x (t.level + 1) B now = (⟨t.level + 1, now, B, (x.due now B).1⟩, 0) := by rw [begV, if_pos hdd]
      rw [hx, hbv]
      refine ⟨⟨h.con, ⟨hmin, by omega, by omega⟩, ⟨by show (0 : Int) ≤ t.level + 1; omega, by show t.level + 1 < (c2.lv.length : Int); omega⟩, h.now0, .inl ⟨rfl, by show next + 1 = t.level + 1; omega, Int.le_refl _, hgb.1, ?_⟩⟩, by show t.level = next; omega, fun _ => by show t.level + 1 = next + 1; omega⟩
      show x.due now B = ((x.due now B).1, 0)
      rw [← hdd]
    · rw [if_neg hm]
      refine ⟨⟨h.con, ⟨hmin, by omega, by omega⟩, h.lev, h.now0, .inr (.inr (.inl ⟨rfl, by show next + 1 = t.level + 1; omega, rfl, rfl, rfl, rfl⟩))⟩, by show t.level = next; omega, fun e => ?_⟩
      have e' : (3 : Int) = 1 := e
      omega
  · rw [tfireV, if_pos h4] at hr; simp at hr
end
end Go.Proofs.Ytcblbjhhlnmkjaa
