/- The plain law of calendars, second part: what is open, counted; what lies free of the closed spans; what is due. No program in sight. -/
import Derived.Test.YtlcefchbfjfifaaGreatCalL
namespace Go.Proofs.YtlcefchbfjfifaaGreat.Cal
set_option linter.unusedVariables false

theorem Row.sorted : ∀ {l : List Sp} {e : Int}, Row e l → ∀ {i j : Nat} {s s' : Sp}, l[i]? = some s → l[j]? = some s' → i < j → s.t ≤ s'.f
  | [], _, _, i, j, s, s', h, _, _ => by simp at h
  | a :: l, e, ⟨h1, h2, h3, h4⟩, 0, j + 1, s, s', hs, hs', _ => by
    simp at hs hs'; subst hs
    have := Row.mem h4 s' (List.mem_of_getElem? hs')
    omega
  | a :: l, e, ⟨h1, h2, h3, h4⟩, i + 1, j + 1, s, s', hs, hs', hij => by
    simp at hs hs'
    exact Row.sorted h4 hs hs' (by omega)
theorem Row.getE {l : List Sp} {e : Int} (h : Row e l) {i : Nat} {s : Sp} (hs : l[i]? = some s) : e ≤ s.f ∧ s.f < s.t ∧ s.t ≤ 1125899906842624 := Row.mem h s (List.mem_of_getElem? hs)
theorem longS_take (l : List Sp) (i : Nat) (s : Sp) (h : l[i]? = some s) : longS (l.take (i + 1)) = longS (l.take i) + s.t - s.f := by
  have hi := (List.getElem?_eq_some_iff.1 h)
  obtain ⟨h1, h2⟩ := hi
  rw [List.take_succ_eq_append_getElem h1, longS_append, h2]
  simp [longS]; omega
theorem longS_nn : ∀ (l : List Sp), (∀ s ∈ l, s.f < s.t) → 0 ≤ longS l
  | [], _ => by simp [longS]
  | s :: l, h => by
    have := longS_nn l (fun x hx => h x (by simp [hx]))
    have := h s (by simp)
    rw [longS]; omega

/-- i is where the first span lies that ends behind x. -/
def AtP (l : List Sp) (x : Int) (i : Nat) : Prop := i ≤ l.length ∧ ∀ j s, l[j]? = some s → (j < i ↔ s.t ≤ x)
theorem AtP.tail {s : Sp} {l : List Sp} {x : Int} {i : Nat} (h : AtP (s :: l) x (i + 1)) : AtP l x i :=
  ⟨by have := h.1; simp at this; omega, fun j u hj => by have := h.2 (j + 1) u (by simpa using hj); omega⟩
theorem AtP.within : ∀ (l : List Sp) (e x : Int) (i : Nat), Row e l → 0 ≤ e → AtP l x i →
    within l 0 x = longS (l.take i) + (match l[i]? with | some s => max (x - s.f) 0 | none => 0)
  | [], _, _, i, _, _, h => by simp [Cal.within, cutL, longS]
  | s :: l, e, x, 0, ⟨h1, h2, h3, h4⟩, he, h => by
    have hs : ¬ s.t ≤ x := fun h' => by have := (h.2 0 s (by simp)).2 h'; omega
    have ht : AtP l x 0 := ⟨by omega, fun j u hj => by have := (h.2 (j + 1) u (by simpa using hj)); omega⟩
    have hz : Cal.within l 0 x = 0 := by
      have := AtP.within l s.t x 0 h4 (by omega) ht
      rw [this]
      cases hl : l[0]? with
      | none => simp [longS]
      | some u =>
        have := Row.getE h4 hl
        simp [longS]; omega
    rw [within_cons, hz]
    simp only [List.take_zero, longS, List.getElem?_cons_zero]
    have e1 : min s.t x = x := by omega
    have e2 : max s.f 0 = s.f := by omega
    rw [e1, e2]
    by_cases hc : s.f < x
    · rw [if_pos hc, show max (x - s.f) 0 = x - s.f from Int.max_eq_left (by omega)]; simp
    · rw [if_neg hc, show max (x - s.f) 0 = 0 from Int.max_eq_right (by omega)]
  | s :: l, e, x, i + 1, ⟨h1, h2, h3, h4⟩, he, h => by
    have hs : s.t ≤ x := (h.2 0 s (by simp)).1 (by omega)
    rw [within_cons, AtP.within l s.t x i h4 (by omega) h.tail]
    simp only [List.take_succ_cons, longS, List.getElem?_cons_succ]
    rw [if_pos (by omega)]
    omega
theorem AtP.has : ∀ (l : List Sp) (e x : Int) (i : Nat), Row e l → AtP l x i →
    hasB l x = (match l[i]? with | some s => decide (s.f ≤ x) | none => false)
  | [], _, _, i, _, h => by simp [hasB]
  | s :: l, e, x, 0, ⟨h1, h2, h3, h4⟩, h => by
    have hs : ¬ s.t ≤ x := fun h' => by have := (h.2 0 s (by simp)).2 h'; omega
    rw [hasB, has_none l s.t x h4 (by omega)]
    have : decide (x < s.t) = true := by simp; omega
    simp [this]
  | s :: l, e, x, i + 1, ⟨h1, h2, h3, h4⟩, h => by
    have hs : s.t ≤ x := (h.2 0 s (by simp)).1 (by omega)
    have : decide (x < s.t) = false := by simp; omega
    rw [hasB, AtP.has l s.t x i h4 h.tail]
    simp [this]

/-- The sums ahead of each span, the first k and one. -/
def sumsN (l : List Sp) (k : Nat) : List Int := (List.range (k + 1)).map fun i => longS (l.take i)
theorem sumsN_len (l : List Sp) (k : Nat) : (sumsN l k).length = k + 1 := by simp [sumsN]
theorem sumsN_get (l : List Sp) (k i : Nat) (h : i ≤ k) : (sumsN l k)[i]? = some (longS (l.take i)) := by
  rw [sumsN, List.getElem?_map, List.getElem?_range (by omega)]; rfl
theorem sumsN_succ (l : List Sp) (k : Nat) : sumsN l (k + 1) = sumsN l k ++ [longS (l.take (k + 1))] := by
  rw [sumsN, List.range_succ, List.map_append]; rfl
theorem len_sums {l : List Sp} (h : Week l) : longS (l.take l.length) = len l := by
  have ha : AtP l 1125899906842624 l.length := ⟨by omega, fun j s hj => by
    have := Row.getE h.1 hj
    have := (List.getElem?_eq_some_iff.1 hj).1
    omega⟩
  have := AtP.within l 0 _ _ h.1 (by omega) ha
  unfold len
  rw [this]
  simp
theorem sums_bd {l : List Sp} (h : Week l) (i : Nat) : 0 ≤ longS (l.take i) ∧ longS (l.take i) ≤ len l := by
  have key : ∀ (l : List Sp) (i : Nat), (∀ s ∈ l, s.f < s.t) → 0 ≤ longS (l.take i) ∧ longS (l.take i) ≤ longS l := by
    intro l i hl
    have h1 := longS_append (l.take i) (l.drop i)
    rw [List.take_append_drop] at h1
    have h2 := longS_nn (l.take i) (fun s hs => hl s (List.mem_of_mem_take hs))
    have h3 := longS_nn (l.drop i) (fun s hs => hl s (List.mem_of_mem_drop hs))
    omega
  have := key l i (fun s hs => (Row.mem h.1 s hs).2.1)
  have h2 := len_sums h
  rw [List.take_length] at h2
  omega
/-- i is where the first of the sums lies that is above r. -/
def NthP (l : List Sp) (r : Int) (i : Nat) : Prop := i ≤ l.length + 1 ∧ ∀ j, j ≤ l.length → (j < i ↔ longS (l.take j) ≤ r)
/-- An open second by how many are ahead of it, within its week. -/
theorem nth_week {l : List Sp} (h : Week l) {r : Int} (h0 : 0 ≤ r) (h1 : r < len l) {i : Nat} (hi : NthP l r i) :
    1 ≤ i ∧ ∃ s, l[i - 1]? = some s ∧ longS (l.take (i - 1)) ≤ r ∧ 0 ≤ s.f + r - longS (l.take (i - 1)) ∧ s.f + r - longS (l.take (i - 1)) < 604800 ∧ 0 ≤ s.f ∧
      hasB l (s.f + r - longS (l.take (i - 1))) = true ∧ within l 0 (s.f + r - longS (l.take (i - 1))) = r := by
  have hz : longS (l.take 0) = 0 := by simp [longS]
  have hi1 : 1 ≤ i := by have := (hi.2 0 (by omega)).2 (by omega); omega
  have hl := len_sums h
  have hi2 : i ≤ l.length := by
    rcases Nat.lt_or_ge l.length i with hlt | hge
    · have := (hi.2 l.length (by omega)).1 hlt; omega
    · exact hge
  have hg : l[i - 1]? = some l[i - 1] := List.getElem?_eq_getElem (by omega)
  have hA : longS (l.take (i - 1)) ≤ r := (hi.2 (i - 1) (by omega)).1 (by omega)
  have hB : ¬ longS (l.take i) ≤ r := fun hc => by have := (hi.2 i hi2).2 hc; omega
  have hst := longS_take l (i - 1) _ hg
  rw [show i - 1 + 1 = i by omega] at hst
  have hs := Row.getE h.1 hg
  have hw := h.2.2 _ (List.mem_of_getElem? hg)
  have ha : AtP l (l[i - 1].f + r - longS (l.take (i - 1))) (i - 1) := ⟨by omega, fun j s hj => by
    rcases Nat.lt_trichotomy j (i - 1) with hlt | he | hgt
    · have := Row.sorted h.1 hj hg hlt
      omega
    · subst he
      rw [hg] at hj
      injection hj with hj
      subst hj
      omega
    · have := Row.sorted h.1 hg hj hgt
      have := Row.getE h.1 hj
      omega⟩
  refine ⟨hi1, l[i - 1], hg, hA, by omega, by omega, hs.1, ?_, ?_⟩
  · rw [AtP.has l 0 _ _ h.1 ha, hg]
    simp; omega
  · rw [AtP.within l 0 _ _ h.1 (by omega) ha, hg]
    simp only
    omega

/-- A calendar. -/
structure Ca where
  off : Int
  wk : List Sp
  cl : List Sp
structure Ca.Ok (c : Ca) : Prop where
  off : 0 ≤ c.off ∧ c.off < 604800
  wk : Week c.wk
  cl : Row 0 c.cl
  cn : c.cl.length ≤ 32
/-- How many open seconds of its weeks are ahead of an instant. -/
def Ca.V (c : Ca) (x : Int) : Int := U c.wk (x + (604800 - c.off))
/-- Its weeks are open. -/
def Ca.wkB (c : Ca) (x : Int) : Bool := hasB c.wk ((x + (604800 - c.off)) % 604800)
def Ca.op (c : Ca) (x : Int) : Bool := !hasB c.cl x && c.wkB x
def Ca.weekly (c : Ca) (a b : Int) : Int := max (c.V b - c.V a) 0
def Ca.lost (c : Ca) : List Sp → Int
  | [] => 0
  | s :: l => c.weekly s.f s.t + c.lost l
section
variable {c : Ca} (h : c.Ok)
include h
theorem Ca.Ok.step {x : Int} (hx : 0 ≤ x) : c.V (x + 1) = c.V x + (if c.wkB x = true then 1 else 0) := by
  have := U_step h.wk (u := x + (604800 - c.off)) (by have := h.off; omega)
  unfold Ca.V Ca.wkB
  rw [show x + 1 + (604800 - c.off) = x + (604800 - c.off) + 1 by omega, this]
theorem Ca.Ok.cntV {a b : Int} (ha : 0 ≤ a) (hab : a ≤ b) : cnt c.wkB a b = c.V b - c.V a :=
  cnt_of c.V hab fun x h1 h2 => h.step (by omega)
theorem Ca.Ok.mono {a b : Int} (ha : 0 ≤ a) (hab : a ≤ b) : c.V a ≤ c.V b ∧ c.V b ≤ c.V a + (b - a) := by
  have h1 := h.cntV ha hab
  have h2 := cnt_pos (p := c.wkB) hab
  omega
theorem Ca.Ok.weekly_eq {a b : Int} (ha : 0 ≤ a) (hab : a ≤ b) : c.weekly a b = c.V b - c.V a := by
  have := h.mono ha hab
  unfold Ca.weekly; omega
theorem Ca.Ok.weekly_bd {a b : Int} (ha : 0 ≤ a) (hab : a ≤ b) : 0 ≤ c.weekly a b ∧ c.weekly a b ≤ b - a := by
  have := h.mono ha hab
  rw [h.weekly_eq ha hab]; omega
theorem Ca.Ok.lost_step : ∀ (l : List Sp) (e a x : Int), 0 ≤ e → Row e l → 0 ≤ a → a ≤ x → c.lost (cutL l a (x + 1)) = c.lost (cutL l a x) + (if (hasB l x && c.wkB x) = true then 1 else 0)
  | [], _, _, _, _, _, _, _ => by simp [cutL, hasB, Ca.lost]
  | s :: l, e, a, x, he, ⟨h1, h2, h3, h4⟩, ha, hx => by
    have ih := Ca.Ok.lost_step l s.t a x (by omega) h4 ha hx
    have key : ∀ y, a ≤ y → c.lost (cutL (s :: l) a y) = (if max s.f a < min s.t y then c.V (min s.t y) - c.V (max s.f a) else 0) + c.lost (cutL l a y) := by
      intro y hy
      rw [cutL]
      by_cases hc : max s.f a < min s.t y
      · rw [if_pos (show (piece s a y).f < (piece s a y).t from hc), if_pos hc, Ca.lost]
        rw [show c.weekly (piece s a y).f (piece s a y).t = c.weekly (max s.f a) (min s.t y) from rfl, h.weekly_eq (by omega) (by omega)]
      · rw [if_neg (show ¬ (piece s a y).f < (piece s a y).t from hc), if_neg hc]; omega
    rw [key _ (by omega), key _ hx, ih, hasB]
    by_cases hs : s.f ≤ x ∧ x < s.t
    · have hst := h.step (x := x) (by omega)
      rw [has_none l s.t x h4 hs.2, show min s.t (x + 1) = x + 1 by omega, show min s.t x = x by omega, if_pos (by omega)]
      simp only [hs.1, hs.2, decide_true, Bool.and_self, Bool.or_false, Bool.true_and, Bool.false_and, Bool.false_eq_true, if_false]
      rw [hst]
      by_cases hx' : max s.f a < x
      · rw [if_pos hx']; omega
      · rw [if_neg hx', show max s.f a = x by omega]; omega
    · have hb : (decide (s.f ≤ x) && decide (x < s.t)) = false := by simp; omega
      rw [hb, Bool.false_or]
      by_cases hs2 : s.t ≤ x
      · rw [show min s.t (x + 1) = s.t by omega, show min s.t x = s.t by omega]; omega
      · rw [if_neg (show ¬ max s.f a < min s.t (x + 1) by omega), if_neg (show ¬ max s.f a < min s.t x by omega)]; omega
theorem Ca.Ok.count {a b : Int} (ha : 0 ≤ a) (hab : a ≤ b) : c.weekly a b - c.lost (cutL c.cl a b) = cnt c.op a b := by
  have h1 := cnt_of (p := c.op) (fun x => c.V x - c.lost (cutL c.cl a x)) hab (fun x h1 h2 => by
    have h3 := h.step (x := x) (by omega)
    have h4 := h.lost_step c.cl 0 a x (by omega) h.cl ha h1
    rw [h3, h4]
    unfold Ca.op
    cases hasB c.cl x <;> cases c.wkB x <;> simp <;> omega)
  have h5 : ∀ l : List Sp, cutL l a a = [] := by
    intro l
    induction l with
    | nil => rfl
    | cons s l ih => rw [cutL, ih, if_neg (by simp only [piece]; omega)]
  simp only [h5, Ca.lost] at h1
  rw [h.weekly_eq ha hab, h1]
  omega
theorem Ca.Ok.lost_bd : ∀ (l : List Sp), (∀ s ∈ l, 0 ≤ s.f ∧ s.f < s.t) → 0 ≤ c.lost l ∧ c.lost l ≤ longS l
  | [], _ => by simp [Ca.lost, longS]
  | s :: l, hl => by
    have := Ca.Ok.lost_bd l (fun x hx => hl x (by simp [hx]))
    have h1 := hl s (by simp)
    have := h.weekly_bd (a := s.f) (b := s.t) h1.1 (by omega)
    rw [Ca.lost, longS]; omega
end
theorem Ca.lost_snoc (c : Ca) (l : List Sp) (s : Sp) : c.lost (l ++ [s]) = c.lost l + c.weekly s.f s.t := by
  induction l with
  | nil => simp [Ca.lost]
  | cons x l ih => simp only [List.cons_append, Ca.lost, ih]; omega

/-- What lies free of the closed spans, from an instant on. -/
def freeL : List Sp → Int → List Sp
  | [], a => if a < 1125899906842624 then [⟨a, 1125899906842624⟩] else []
  | s :: l, a => if 1125899906842624 ≤ a then [] else if s.t ≤ a then freeL l a else (if a < s.f then [⟨a, s.f⟩] else []) ++ freeL l s.t
def nextL : List Sp → Int → Option Sp
  | [], _ => none
  | s :: l, x => if x < s.t then some s else nextL l x
theorem free_end : ∀ (l : List Sp) (a : Int), 1125899906842624 ≤ a → freeL l a = []
  | [], a, h => by rw [freeL, if_neg (by omega)]
  | s :: l, a, h => by rw [freeL, if_pos h]
theorem next_mem : ∀ (l : List Sp) (a : Int) (s : Sp), nextL l a = some s → s ∈ l ∧ a < s.t
  | [], _, _, h => by cases h
  | x :: l, a, s, h => by
    rw [nextL] at h
    split at h
    · injection h with h; subst h; exact ⟨by simp, by assumption⟩
    · have := next_mem l a s h; exact ⟨by simp [this.1], this.2⟩
theorem free_none : ∀ (l : List Sp) (a : Int), a < 1125899906842624 → nextL l a = none → freeL l a = [⟨a, 1125899906842624⟩]
  | [], a, ha, _ => by rw [freeL, if_pos ha]
  | s :: l, a, ha, h => by
    rw [nextL] at h
    split at h
    · cases h
    · rw [freeL, if_neg (by omega), if_pos (by omega), free_none l a ha h]
theorem free_some : ∀ (l : List Sp) (e a : Int) (s : Sp), Row e l → a < 1125899906842624 → nextL l a = some s →
    freeL l a = (if a < s.f then [⟨a, s.f⟩] else []) ++ freeL l s.t
  | [], _, _, _, _, _, h => by cases h
  | x :: l, e, a, s, ⟨h1, h2, h3, h4⟩, ha, h => by
    rw [nextL] at h
    split at h
    · injection h with h
      subst h
      have hr : freeL (x :: l) x.t = freeL l x.t := by
        rw [freeL]
        split
        · rename_i h'; rw [free_end l _ h']
        · rw [if_pos (by omega)]
      rw [hr, freeL, if_neg (by omega), if_neg (by omega)]
    · have hm := next_mem l a s h
      have hs := Row.mem h4 s hm.1
      rw [freeL, if_neg (by omega), if_pos (by omega), free_some l x.t a s h4 ha h]
      congr 1
      rw [freeL]
      split
      · rename_i h'; rw [free_end l _ h']
      · rw [if_pos (by omega)]
theorem free_mem : ∀ (l : List Sp) (e a : Int), Row e l → ∀ s ∈ freeL l a, a ≤ s.f ∧ s.f < s.t ∧ s.t ≤ 1125899906842624 ∧ ∀ x, s.f ≤ x → x < s.t → hasB l x = false
  | [], _, a, _, s, hs => by
    rw [freeL] at hs
    split at hs
    · simp at hs; subst hs; exact ⟨by simp, by assumption, by simp, fun _ _ _ => rfl⟩
    · simp at hs
  | y :: l, e, a, ⟨h1, h2, h3, h4⟩, s, hs => by
    rw [freeL] at hs
    split at hs
    · simp at hs
    · split at hs
      · obtain ⟨k1, k2, k3, k4⟩ := free_mem l y.t a h4 s hs
        refine ⟨k1, k2, k3, fun x hx hx' => ?_⟩
        rw [hasB, k4 x hx hx']
        simp; omega
      · rcases List.mem_append.1 hs with hs | hs
        · split at hs
          · simp at hs; subst hs
            refine ⟨by simp, by assumption, by simp only; omega, fun x hx hx' => ?_⟩
            rw [hasB, has_none l y.t x h4 (by simp only at hx'; omega)]
            simp only at hx'
            simp; omega
          · simp at hs
        · obtain ⟨k1, k2, k3, k4⟩ := free_mem l y.t y.t h4 s hs
          refine ⟨by omega, k2, k3, fun x hx hx' => ?_⟩
          rw [hasB, k4 x hx hx']
          simp; omega
def sumF (p : Int → Bool) : List Sp → Int
  | [] => 0
  | s :: l => cnt p s.f s.t + sumF p l
theorem sumF_snoc (p : Int → Bool) (l : List Sp) (s : Sp) : sumF p (l ++ [s]) = sumF p l + cnt p s.f s.t := by
  induction l with
  | nil => simp [sumF]
  | cons x l ih => simp only [List.cons_append, sumF, ih]; omega
theorem free_sum (p : Int → Bool) : ∀ (l : List Sp) (e a : Int), Row e l → (∀ x, hasB l x = true → p x = false) → ∀ (pre post : List Sp) (s : Sp), freeL l a = pre ++ s :: post → cnt p a s.f = sumF p pre
  | [], _, a, _, _, pre, post, s, he => by
    rw [freeL] at he
    split at he
    · cases pre with
      | nil => simp at he; rw [← he.1, cnt_self]; rfl
      | cons x pre => simp at he
    · simp at he
  | y :: l, e, a, ⟨h1, h2, h3, h4⟩, hp, pre, post, s, he => by
    have hp' : ∀ x, hasB l x = true → p x = false := fun x hx => hp x (by rw [hasB, hx]; simp)
    have hpy : ∀ x, y.f ≤ x → x < y.t → p x = false := fun x h5 h6 => hp x (by rw [hasB]; simp [h5, h6])
    rw [freeL] at he
    split at he
    · simp at he
    · split at he
      · exact free_sum p l y.t a h4 hp' pre post s he
      · split at he
        · rename_i hb hc hd
          cases pre with
          | nil => simp at he; rw [← he.1, cnt_self]; rfl
          | cons x pre =>
            simp at he
            obtain ⟨rfl, he⟩ := he
            have ih := free_sum p l y.t y.t h4 hp' pre post s he
            have hm := free_mem l y.t y.t h4 s (by rw [he]; simp)
            rw [cnt_add (b := y.f) (by omega) (by omega), cnt_add (a := y.f) (b := y.t) (by omega) (by omega), cnt_zero (a := y.f) (b := y.t) (by omega) hpy, ih, sumF]
            simp
        · rename_i hb hc hd
          rw [List.nil_append] at he
          have ih := free_sum p l y.t y.t h4 hp' pre post s he
          have hm := free_mem l y.t y.t h4 s (by rw [he]; simp)
          rw [cnt_add (b := y.t) (by omega) (by omega), cnt_zero (a := a) (b := y.t) (by omega) (fun x h5 h6 => hpy x (by omega) h6), ih]
          simp
theorem free_all (p : Int → Bool) : ∀ (l : List Sp) (e a : Int), Row e l → a ≤ 1125899906842624 → (∀ x, hasB l x = true → p x = false) → cnt p a 1125899906842624 = sumF p (freeL l a)
  | [], _, a, _, ha, _ => by
    rw [freeL]
    split
    · simp [sumF]
    · rw [show a = 1125899906842624 by omega, cnt_self]; rfl
  | y :: l, e, a, ⟨h1, h2, h3, h4⟩, ha, hp => by
    have hp' : ∀ x, hasB l x = true → p x = false := fun x hx => hp x (by rw [hasB, hx]; simp)
    have hpy : ∀ x, y.f ≤ x → x < y.t → p x = false := fun x h5 h6 => hp x (by rw [hasB]; simp [h5, h6])
    rw [freeL]
    split
    · rw [show a = 1125899906842624 by omega, cnt_self]; rfl
    · split
      · exact free_all p l y.t a h4 ha hp'
      · have ih := free_all p l y.t y.t h4 h3 hp'
        split
        · rw [List.cons_append, List.nil_append, sumF, ← ih, cnt_add (b := y.f) (by omega) (by omega), cnt_add (a := y.f) (b := y.t) (by omega) (by omega), cnt_zero (a := y.f) (b := y.t) (by omega) hpy]
          simp
        · rw [List.nil_append, ← ih, cnt_add (b := y.t) (by omega) (by omega), cnt_zero (a := a) (b := y.t) (by omega) (fun x h5 h6 => hpy x (by omega) h6)]
          simp
theorem free_len : ∀ (l : List Sp) (a : Int), (freeL l a).length ≤ l.length + 1
  | [], a => by rw [freeL]; split <;> simp
  | s :: l, a => by
    have h1 := free_len l a
    have h2 := free_len l s.t
    rw [freeL]
    split
    · simp
    · split
      · simp; omega
      · split <;> simp <;> omega
section
variable {c : Ca} (h : c.Ok)
include h
theorem Ca.Ok.free {a : Int} (ha : 0 ≤ a) {s : Sp} (hs : s ∈ freeL c.cl a) {x : Int} (h1 : s.f ≤ x) (h2 : x ≤ s.t) : cnt c.op s.f x = c.V x - c.V s.f := by
  obtain ⟨k1, k2, k3, k4⟩ := free_mem c.cl 0 a h.cl s hs
  refine cnt_of c.V h1 fun y h3 h4 => ?_
  rw [h.step (by omega)]
  unfold Ca.op
  rw [k4 y h3 (by omega)]; simp
omit h in
theorem Ca.closed (x : Int) (hx : hasB c.cl x = true) : c.op x = false := by unfold Ca.op; rw [hx]; rfl
theorem Ca.Ok.sumF_eq {a : Int} (ha : 0 ≤ a) : ∀ (l : List Sp), (∀ s ∈ l, s ∈ freeL c.cl a) → sumF c.op l = c.lost l
  | [], _ => rfl
  | s :: l, hl => by
    have k := free_mem c.cl 0 a h.cl s (hl s (by simp))
    rw [sumF, Ca.lost, Ca.Ok.sumF_eq ha l (fun x hx => hl x (by simp [hx])), h.free ha (hl s (by simp)) (by omega) (by omega), h.weekly_eq (by omega) (by omega)]
/-- What the search for a due comes to. -/
theorem Ca.Ok.due {a b0 : Int} (ha : 0 ≤ a) {pre post : List Sp} {s : Sp} (he : freeL c.cl a = pre ++ s :: post) (h1 : 1 ≤ b0 - c.lost pre) (h2 : b0 - c.lost pre ≤ c.weekly s.f s.t)
    {t : Int} (h3 : 0 ≤ t) (h4 : hasB c.wk (t % 604800) = true) (h5 : U c.wk t = c.V s.f + (b0 - c.lost pre) - 1) :
    IsDue c.op a b0 (t - (604800 - c.off) + 1) ∧ t - (604800 - c.off) + 1 ≤ 1125899906842624 ∧ 0 ≤ t - (604800 - c.off) := by
  have hmem : s ∈ freeL c.cl a := by rw [he]; simp
  obtain ⟨k1, k2, k3, k4⟩ := free_mem c.cl 0 a h.cl s hmem
  have hsum := free_sum c.op c.cl 0 a h.cl Ca.closed pre post s he
  rw [h.sumF_eq ha pre (fun x hx => by rw [he]; simp [hx])] at hsum
  rw [h.weekly_eq (by omega) (by omega)] at h2
  have hoff := h.off
  have hU : ∀ {x y : Int}, 0 ≤ x → x ≤ y → U c.wk x ≤ U c.wk y := by
    intro x y hx hxy
    have e1 := cnt_of (p := fun u => hasB c.wk (u % 604800)) (U c.wk) hxy (fun u h1 h2 => U_step h.wk (by omega))
    have e2 := cnt_pos (p := fun u => hasB c.wk (u % 604800)) hxy
    omega
  have hst := U_step h.wk h3
  rw [h4] at hst
  simp only [if_true] at hst
  have hlo : s.f + (604800 - c.off) ≤ t := by
    rcases Int.lt_or_le t (s.f + (604800 - c.off)) with hlt | hge
    · have := hU (x := t + 1) (y := s.f + (604800 - c.off)) (by omega) (by omega)
      have : U c.wk (s.f + (604800 - c.off)) = c.V s.f := rfl
      omega
    · exact hge
  have hhi : t < s.t + (604800 - c.off) := by
    rcases Int.lt_or_le t (s.t + (604800 - c.off)) with hlt | hge
    · exact hlt
    · have := hU (x := s.t + (604800 - c.off)) (y := t) (by omega) hge
      have : U c.wk (s.t + (604800 - c.off)) = c.V s.t := rfl
      omega
  refine ⟨⟨by omega, ?_, ?_⟩, by omega, by omega⟩
  · rw [cnt_add (b := s.f) k1 (by omega), hsum, h.free ha hmem (by omega) (by omega)]
    have : c.V (t - (604800 - c.off) + 1) = U c.wk (t + 1) := by unfold Ca.V; congr 1; omega
    rw [this]; omega
  · have e : t - (604800 - c.off) + 1 - 1 = t - (604800 - c.off) := by omega
    rw [e]
    unfold Ca.op Ca.wkB
    rw [k4 _ (by omega) (by omega), show t - (604800 - c.off) + (604800 - c.off) = t by omega, h4]; rfl
/-- Nothing is due. -/
theorem Ca.Ok.big {a : Int} (ha : 0 ≤ a) (ha' : a ≤ 1125899906842624) : cnt c.op a 1125899906842624 = c.lost (freeL c.cl a) := by
  rw [free_all c.op c.cl 0 a h.cl ha' Ca.closed, h.sumF_eq ha _ (fun x hx => hx)]
end
/-- The due. -/
noncomputable def dueOf (p : Int → Bool) (s b : Int) : Int := Classical.epsilon (IsDue p s b)
theorem dueOf_eq {p : Int → Bool} {s b d : Int} (h : IsDue p s b d) : dueOf p s b = d := IsDue.uniq (Classical.epsilon_spec (p := IsDue p s b) ⟨d, h⟩) h
/-- What Due tells. -/
noncomputable def Ca.due (c : Ca) (s b : Int) : Int × Int :=
  if s < 0 ∨ 1125899906842624 < s ∨ b < 0 then (0, 2) else if b = 0 then (s, 0) else if len c.wk = 0 then (0, 40) else if cnt c.op s 1125899906842624 < b then (0, 10) else (dueOf c.op s b, 0)
def Ca.el (c : Ca) (a b : Int) : Int × Int :=
  if a < 0 ∨ 1125899906842624 < a ∨ b < 0 ∨ 1125899906842624 < b ∨ b < a then (0, 2) else (cnt c.op a b, 0)
def Ca.rest (c : Ca) (a b x : Int) : Int × Int :=
  if b < 0 then (0, 2) else if (c.el a x).2 ≠ 0 then (0, (c.el a x).2) else (max (b - (c.el a x).1) 0, 0)
end Go.Proofs.YtlcefchbfjfifaaGreat.Cal
