/- The plain law of calendars (chapters 7, 8, 10): rows of spans, what is within them, how many instants of a row are ahead of one, what is open. No program in sight. -/
namespace Go.Proofs.YtlcefchbfjfifaaGreat.Cal
set_option linter.unusedVariables false

/-- A span. -/
structure Sp where
  f : Int
  t : Int
def Sp.beq (a b : Sp) : Bool := decide (a.f = b.f) && decide (a.t = b.t)
def rightB (s : Sp) : Bool := decide (0 ≤ s.f) && decide (s.f < s.t) && decide (s.t ≤ 1125899906842624)
/-- The error of spans that begin at e at least. -/
def rowsE : Int → List Sp → Int
  | _, [] => 0
  | e, s :: l => if (!rightB s || decide (s.f < e)) = true then 2 else rowsE s.t l
def rowE (l : List Sp) : Int := if 32 < l.length then 21 else rowsE 0 l
/-- Spans that rise from e on. -/
def Row : Int → List Sp → Prop
  | _, [] => True
  | e, s :: l => e ≤ s.f ∧ s.f < s.t ∧ s.t ≤ 1125899906842624 ∧ Row s.t l
theorem row_of : ∀ (l : List Sp) (e : Int), 0 ≤ e → rowsE e l = 0 → Row e l
  | [], _, _, _ => trivial
  | s :: l, e, he, h => by
    rw [rowsE] at h
    split at h
    · omega
    · rename_i hn
      simp only [rightB, Bool.or_eq_true, Bool.not_eq_true', Bool.and_eq_false_iff, decide_eq_false_iff_not, decide_eq_true_eq] at hn
      have h1 : 0 ≤ s.f ∧ s.f < s.t ∧ s.t ≤ 1125899906842624 ∧ e ≤ s.f := by omega
      exact ⟨h1.2.2.2, h1.2.1, h1.2.2.1, row_of l s.t (by omega) h⟩
theorem rows_of : ∀ (l : List Sp) (e : Int), 0 ≤ e → Row e l → rowsE e l = 0
  | [], _, _, _ => rfl
  | s :: l, e, he, ⟨h1, h2, h3, h4⟩ => by
    rw [rowsE, if_neg (by simp [rightB]; omega), rows_of l s.t (by omega) h4]
theorem rowsE_cases : ∀ (l : List Sp) (e : Int), rowsE e l = 0 ∨ rowsE e l = 2
  | [], _ => .inl rfl
  | s :: l, e => by
    rw [rowsE]
    split
    · exact .inr rfl
    · exact rowsE_cases l s.t
theorem rowE_row {l : List Sp} (h : rowE l = 0) : Row 0 l ∧ l.length ≤ 32 := by
  unfold rowE at h
  split at h
  · omega
  · exact ⟨row_of l 0 (by omega) h, by omega⟩
theorem Row.mono {e e' : Int} : ∀ {l : List Sp}, Row e l → e' ≤ e → Row e' l
  | [], _, _ => trivial
  | s :: l, ⟨h1, h2⟩, h => ⟨by omega, h2⟩
theorem Row.mem : ∀ {l : List Sp} {e : Int}, Row e l → ∀ s ∈ l, e ≤ s.f ∧ s.f < s.t ∧ s.t ≤ 1125899906842624
  | [], _, _, s, hs => absurd hs (by simp)
  | a :: l, e, ⟨h1, h2, h3, h4⟩, s, hs => by
    rcases List.mem_cons.1 hs with rfl | hs
    · exact ⟨h1, h2, h3⟩
    · have := Row.mem h4 s hs; omega

/-- What a span has between two instants. -/
def piece (s : Sp) (a b : Int) : Sp := ⟨max s.f a, min s.t b⟩
def cutL : List Sp → Int → Int → List Sp
  | [], _, _ => []
  | s :: l, a, b => if (piece s a b).f < (piece s a b).t then piece s a b :: cutL l a b else cutL l a b
def longS : List Sp → Int
  | [] => 0
  | s :: l => (s.t - s.f) + longS l
def within (l : List Sp) (a b : Int) : Int := longS (cutL l a b)
def hasB : List Sp → Int → Bool
  | [], _ => false
  | s :: l, x => (decide (s.f ≤ x) && decide (x < s.t)) || hasB l x
theorem longS_append (l l' : List Sp) : longS (l ++ l') = longS l + longS l' := by
  induction l with
  | nil => simp [longS]
  | cons s l ih => simp only [List.cons_append, longS, ih]; omega
theorem cutL_len : ∀ (l : List Sp) (a b : Int), (cutL l a b).length ≤ l.length
  | [], _, _ => by simp [cutL]
  | s :: l, a, b => by
    have := cutL_len l a b
    rw [cutL]; split <;> simp <;> omega
theorem cutL_mem : ∀ (l : List Sp) (a b : Int), ∀ s ∈ cutL l a b, a ≤ s.f ∧ s.f < s.t ∧ s.t ≤ b
  | [], _, _, s, hs => absurd hs (by simp [cutL])
  | x :: l, a, b, s, hs => by
    rw [cutL] at hs
    split at hs
    · rename_i h
      rcases List.mem_cons.1 hs with rfl | hs
      · simp only [piece] at h ⊢; omega
      · exact cutL_mem l a b s hs
    · exact cutL_mem l a b s hs
theorem cutL_append : ∀ (l l' : List Sp) (a b : Int), cutL (l ++ l') a b = cutL l a b ++ cutL l' a b
  | [], _, _, _ => rfl
  | s :: l, l', a, b => by
    rw [List.cons_append, cutL, cutL, cutL_append l]
    split <;> rfl
theorem within_cons (s : Sp) (l : List Sp) (a b : Int) : within (s :: l) a b = (if max s.f a < min s.t b then min s.t b - max s.f a else 0) + within l a b := by
  unfold within
  rw [cutL]
  by_cases h : (piece s a b).f < (piece s a b).t
  · rw [if_pos h, if_pos (show max s.f a < min s.t b from h), longS]; rfl
  · rw [if_neg h, if_neg (show ¬ max s.f a < min s.t b from h)]; omega
theorem has_none : ∀ (l : List Sp) (e x : Int), Row e l → x < e → hasB l x = false
  | [], _, _, _, _ => rfl
  | s :: l, e, x, ⟨h1, h2, h3, h4⟩, hx => by
    rw [hasB, has_none l s.t x h4 (by omega)]
    simp; omega
theorem within_self : ∀ (l : List Sp) (a : Int), within l a a = 0
  | [], _ => rfl
  | s :: l, a => by rw [within_cons, within_self l, if_neg (by omega)]; rfl
theorem within_step : ∀ (l : List Sp) (e a x : Int), Row e l → a ≤ x → within l a (x + 1) = within l a x + (if hasB l x = true then 1 else 0)
  | [], _, _, _, _, _ => rfl
  | s :: l, e, a, x, ⟨h1, h2, h3, h4⟩, hx => by
    rw [within_cons, within_cons, within_step l s.t a x h4 hx, hasB]
    by_cases hs : s.f ≤ x ∧ x < s.t
    · rw [has_none l s.t x h4 hs.2]
      simp [hs.1, hs.2]
      split <;> split <;> omega
    · have : (decide (s.f ≤ x) && decide (x < s.t)) = false := by simp; omega
      rw [this, Bool.false_or]
      split <;> split <;> split <;> omega
theorem within_ge : ∀ (l : List Sp) (a b c : Int), (∀ s ∈ l, s.t ≤ b) → b ≤ c → within l a c = within l a b
  | [], _, _, _, _, _ => rfl
  | s :: l, a, b, c, h, hc => by
    have h1 := h s (by simp)
    rw [within_cons, within_cons, within_ge l a b c (fun s hs => h s (by simp [hs])) hc, show min s.t c = s.t by omega, show min s.t b = s.t by omega]
theorem within_bounds : ∀ (n : Nat) (l : List Sp) (e a : Int), Row e l → 0 ≤ within l a (a + n) ∧ within l a (a + n) ≤ n
  | 0, l, e, a, _ => by rw [show a + ((0 : Nat) : Int) = a by omega, within_self]; omega
  | n + 1, l, e, a, h => by
    have ih := within_bounds n l e a h
    rw [show a + ((n + 1 : Nat) : Int) = a + n + 1 by omega, within_step l e a _ h (by omega)]
    split <;> omega
theorem within_bd {l : List Sp} {e : Int} (h : Row e l) {a b : Int} (hab : a ≤ b) : 0 ≤ within l a b ∧ within l a b ≤ b - a := by
  have := within_bounds (b - a).toNat l e a h
  rw [show a + ((b - a).toNat : Int) = b by omega] at this
  omega

/-- The seconds of a row. -/
def len (l : List Sp) : Int := within l 0 1125899906842624
/-- A week's row. -/
def Week (l : List Sp) : Prop := Row 0 l ∧ l.length ≤ 32 ∧ ∀ s ∈ l, s.t ≤ 604800
theorem Week.len_eq {l : List Sp} (h : Week l) : len l = within l 0 604800 := within_ge l 0 604800 _ h.2.2 (by omega)
theorem Week.len_bd {l : List Sp} (h : Week l) : 0 ≤ len l ∧ len l ≤ 604800 := by
  have := within_bd h.1 (a := 0) (b := 604800) (by omega)
  rw [h.len_eq]; omega
/-- How many open seconds are ahead of one. -/
def U (l : List Sp) (u : Int) : Int := u / 604800 * len l + within l 0 (u % 604800)
theorem U_step {l : List Sp} (h : Week l) {u : Int} (hu : 0 ≤ u) : U l (u + 1) = U l u + (if hasB l (u % 604800) = true then 1 else 0) := by
  unfold U
  by_cases hl : u % 604800 = 604799
  · have e1 : (u + 1) / 604800 = u / 604800 + 1 := by omega
    have e2 : (u + 1) % 604800 = 0 := by omega
    have h3 := within_step l 0 0 604799 h.1 (by omega)
    rw [e1, e2, hl, within_self, Int.add_mul, h.len_eq]
    rw [show (604799 : Int) + 1 = 604800 by omega] at h3
    omega
  · have e1 : (u + 1) / 604800 = u / 604800 := by omega
    have e2 : (u + 1) % 604800 = u % 604800 + 1 := by omega
    have h3 := within_step l 0 0 (u % 604800) h.1 (by omega)
    rw [e1, e2, h3]; omega

/-- How many of n instants from a on have p. -/
def cn (p : Int → Bool) (a : Int) : Nat → Int
  | 0 => 0
  | n + 1 => cn p a n + (if p (a + n) = true then 1 else 0)
def cnt (p : Int → Bool) (a b : Int) : Int := cn p a (b - a).toNat
section
variable {p : Int → Bool}
theorem cnt_self (a : Int) : cnt p a a = 0 := by unfold cnt; rw [show (a - a).toNat = 0 by omega]; rfl
theorem cnt_step {a b : Int} (h : a ≤ b) : cnt p a (b + 1) = cnt p a b + (if p b = true then 1 else 0) := by
  unfold cnt
  rw [show (b + 1 - a).toNat = (b - a).toNat + 1 by omega, cn, show a + ((b - a).toNat : Int) = b by omega]
theorem cn_of (F : Int → Int) (a : Int) : ∀ n : Nat, (∀ x, a ≤ x → x < a + n → F (x + 1) = F x + (if p x = true then 1 else 0)) → cn p a n = F (a + n) - F a
  | 0, _ => by rw [show a + ((0 : Nat) : Int) = a by omega, cn]; omega
  | n + 1, h => by
    have ih := cn_of F a n (fun x h1 h2 => h x h1 (by omega))
    have h1 := h (a + n) (by omega) (by omega)
    rw [cn, ih, show a + ((n + 1 : Nat) : Int) = a + n + 1 by omega, h1]; omega
theorem cnt_of (F : Int → Int) {a b : Int} (hab : a ≤ b) (h : ∀ x, a ≤ x → x < b → F (x + 1) = F x + (if p x = true then 1 else 0)) : cnt p a b = F b - F a := by
  have := cn_of (p := p) F a (b - a).toNat (fun x h1 h2 => h x h1 (by omega))
  unfold cnt
  rw [this, show a + ((b - a).toNat : Int) = b by omega]
theorem cnt_add {a b c : Int} (h1 : a ≤ b) (h2 : b ≤ c) : cnt p a c = cnt p a b + cnt p b c := by
  have := cnt_of (p := p) (fun x => cnt p a x) h2 (fun x h3 h4 => cnt_step (by omega))
  omega
theorem cnt_pos {a b : Int} (h : a ≤ b) : 0 ≤ cnt p a b ∧ cnt p a b ≤ b - a := by
  have key : ∀ n : Nat, 0 ≤ cn p a n ∧ cn p a n ≤ n := fun n => by
    induction n with
    | zero => simp [cn]
    | succ n ih => rw [cn]; split <;> omega
  have := key (b - a).toNat
  unfold cnt; omega
theorem cnt_zero {a b : Int} (hab : a ≤ b) (h : ∀ x, a ≤ x → x < b → p x = false) : cnt p a b = 0 := by
  have := cnt_of (p := p) (fun _ => 0) hab (fun x h1 h2 => by rw [h x h1 h2]; simp)
  simpa using this
/-- What is due. -/
def IsDue (p : Int → Bool) (start budget d : Int) : Prop := start < d ∧ cnt p start d = budget ∧ p (d - 1) = true
theorem IsDue.last {s b d : Int} (h : IsDue p s b d) : cnt p s (d - 1) = b - 1 := by
  have := cnt_step (p := p) (a := s) (b := d - 1) (by have := h.1; omega)
  rw [show d - 1 + 1 = d by omega, h.2.1, h.2.2] at this
  simp at this; omega
theorem IsDue.of_least {s b d : Int} (h1 : s < d) (h2 : cnt p s (d - 1) < b) (h3 : b ≤ cnt p s d) : IsDue p s b d := by
  have := cnt_step (p := p) (a := s) (b := d - 1) (by omega)
  rw [show d - 1 + 1 = d by omega] at this
  cases hp : p (d - 1) with
  | false => rw [hp] at this; simp at this; omega
  | true => rw [hp] at this; simp at this; exact ⟨h1, by omega, hp⟩
theorem IsDue.lt {s b d : Int} (h : IsDue p s b d) {x : Int} (h1 : s ≤ x) (h2 : x < d) : cnt p s x < b := by
  have := h.last
  have := cnt_add (p := p) (a := s) (b := x) (c := d - 1) h1 (by omega)
  have := cnt_pos (p := p) (a := x) (b := d - 1) (by omega)
  omega
theorem IsDue.le {s b d : Int} (h : IsDue p s b d) {x : Int} (h1 : d ≤ x) : b ≤ cnt p s x := by
  have := h.1
  have := h.2.1
  have := cnt_add (p := p) (a := s) (b := d) (c := x) (by omega) h1
  have := cnt_pos (p := p) (a := d) (b := x) h1
  omega
theorem IsDue.pos {s b d : Int} (h : IsDue p s b d) : 1 ≤ b := by
  have := h.lt (x := s) (by omega) h.1
  rw [cnt_self] at this
  omega
theorem IsDue.uniq {s b d d' : Int} (h : IsDue p s b d) (h' : IsDue p s b d') : d = d' := by
  rcases Int.lt_trichotomy d d' with hlt | he | hgt
  · have := h'.lt (x := d) (by have := h.1; omega) hlt
    have := h.2.1
    omega
  · exact he
  · have := h.lt (x := d') (by have := h'.1; omega) hgt
    have := h'.2.1
    omega
theorem IsDue.of_cnt {s b e : Int} (hs : s ≤ e) (hb : 1 ≤ b) (h : b ≤ cnt p s e) : ∃ d, d ≤ e ∧ IsDue p s b d := by
  have key : ∀ n : Nat, b ≤ cnt p s (s + n) → ∃ d, d ≤ s + n ∧ IsDue p s b d := fun n => by
    induction n with
    | zero => intro h; rw [show s + ((0 : Nat) : Int) = s by omega, cnt_self] at h; omega
    | succ n ih =>
      intro h
      by_cases h1 : b ≤ cnt p s (s + n)
      · obtain ⟨d, h2, h3⟩ := ih h1; exact ⟨d, by omega, h3⟩
      · exact ⟨s + ((n + 1 : Nat) : Int), by omega, IsDue.of_least (by omega) (by rw [show s + ((n + 1 : Nat) : Int) - 1 = s + n by omega]; omega) h⟩
  have := key (e - s).toNat (by rw [show s + ((e - s).toNat : Int) = e by omega]; exact h)
  obtain ⟨d, h2, h3⟩ := this
  exact ⟨d, by omega, h3⟩
end
end Go.Proofs.YtlcefchbfjfifaaGreat.Cal
