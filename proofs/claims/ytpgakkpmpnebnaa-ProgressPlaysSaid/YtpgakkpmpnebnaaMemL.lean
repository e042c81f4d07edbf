/- The plain law of rows of members (chapter 29). No program in sight. -/
namespace Go.Proofs.Ytpgakkpmpnebnaa.Row

/-- Those of seven that stand in a list, as bits. -/
def setN (l : List Int) : Nat := l.foldl (fun (s : Nat) (n : Int) => if 0 ≤ n ∧ n < 7 then s ||| (1 <<< n.toNat) else s) 0
/-- The row of bits. -/
def ofN (s : Nat) : List Int := ((List.range 7).filter fun i => s.testBit i).map fun (i : Nat) => (i : Int)
def soundB (l : List Int) : Bool := l != [] && l == ofN (setN l)
def rowP (l : List Int) : Prop := l ≠ [] ∧ l.Pairwise (· < ·) ∧ ∀ x ∈ l, 0 ≤ x ∧ x < 7

theorem eq_of_mem : ∀ l l' : List Int, l.Pairwise (· < ·) → l'.Pairwise (· < ·) → (∀ x, x ∈ l ↔ x ∈ l') → l = l'
  | [], [], _, _, _ => rfl
  | [], b :: l', _, _, h => absurd ((h b).2 (by simp)) (by simp)
  | a :: l, [], _, _, h => absurd ((h a).1 (by simp)) (by simp)
  | a :: l, b :: l', h1, h2, h => by
    rw [List.pairwise_cons] at h1 h2
    have hab : a = b := by
      have ha := (h a).1 (by simp)
      have hb := (h b).2 (by simp)
      rcases List.mem_cons.1 ha with e | ha
      · exact e
      · rcases List.mem_cons.1 hb with e | hb
        · exact e.symm
        · have := h1.1 b hb
          have := h2.1 a ha
          omega
    subst hab
    rw [eq_of_mem l l' h1.2 h2.2 fun x => ⟨fun hx => ?_, fun hx => ?_⟩]
    · rcases List.mem_cons.1 ((h x).1 (List.mem_cons_of_mem _ hx)) with e | e
      · subst e; exact absurd (h1.1 _ hx) (by omega)
      · exact e
    · rcases List.mem_cons.1 ((h x).2 (List.mem_cons_of_mem _ hx)) with e | e
      · subst e; exact absurd (h2.1 _ hx) (by omega)
      · exact e

theorem foldl_bit : ∀ (l : List Int) (s i : Nat), (l.foldl (fun (s : Nat) (n : Int) => if 0 ≤ n ∧ n < 7 then s ||| (1 <<< n.toNat) else s) s).testBit i = (s.testBit i || (decide (i < 7) && l.contains (i : Int)))
  | [], s, i => by simp
  | a :: l, s, i => by
    rw [List.foldl_cons, foldl_bit l]
    by_cases ha : 0 ≤ a ∧ a < 7
    · rw [if_pos ha, Nat.testBit_or, Nat.one_shiftLeft, Nat.testBit_two_pow]
      by_cases hi : a.toNat = i
      · have h7 : i < 7 := by omega
        have : a = (i : Int) := by omega
        subst this
        simp [h7]
      · have : (i : Int) ≠ a := by omega
        simp [hi, this]
    · rw [if_neg ha]
      by_cases h7 : i < 7
      · have : (i : Int) ≠ a := by omega
        simp [h7, this]
      · simp [h7]
theorem setN_bit (l : List Int) (i : Nat) : (setN l).testBit i = (decide (i < 7) && l.contains (i : Int)) := by
  rw [setN, foldl_bit]; simp
theorem setN_lt (l : List Int) : setN l < 128 := by
  rw [show (128 : Nat) = 2 ^ 7 from rfl]
  apply Nat.lt_pow_two_of_testBit
  intro i hi
  rw [setN_bit]
  simp; omega
theorem mem_ofN (s : Nat) (x : Int) : x ∈ ofN s ↔ ∃ i : Nat, i < 7 ∧ s.testBit i = true ∧ x = i := by
  simp only [ofN, List.mem_map, List.mem_filter, List.mem_range]
  constructor
  · rintro ⟨i, ⟨h1, h2⟩, rfl⟩; exact ⟨i, h1, h2, rfl⟩
  · rintro ⟨i, h1, h2, rfl⟩; exact ⟨i, ⟨h1, h2⟩, rfl⟩
theorem ofN_sorted (s : Nat) : (ofN s).Pairwise (· < ·) := by
  rw [ofN, List.pairwise_map]
  refine (List.Pairwise.filter _ List.pairwise_lt_range).imp ?_
  intro a b h; omega
theorem ofN_len (s : Nat) : (ofN s).length ≤ 7 := by
  rw [ofN, List.length_map]
  exact Nat.le_trans (List.length_filter_le _ _) (by simp)
theorem ofN_in (s : Nat) : ∀ x ∈ ofN s, 0 ≤ x ∧ x < 7 := by
  intro x hx
  obtain ⟨i, h1, _, rfl⟩ := (mem_ofN s x).1 hx
  omega
theorem row_of {l : List Int} (h2 : l.Pairwise (· < ·)) (h3 : ∀ x ∈ l, 0 ≤ x ∧ x < 7) : l = ofN (setN l) := by
  refine eq_of_mem _ _ h2 (ofN_sorted _) fun x => ?_
  rw [mem_ofN]
  constructor
  · intro hx
    have := h3 x hx
    refine ⟨x.toNat, by omega, ?_, by omega⟩
    rw [setN_bit, show ((x.toNat : Nat) : Int) = x by omega]
    simp [hx]; omega
  · rintro ⟨i, h1, h2, rfl⟩
    rw [setN_bit] at h2
    simpa [h1] using h2
theorem sound_pos {l : List Int} (h : 0 < l.length) : soundB l = decide (l = ofN (setN l)) := by
  cases l with
  | nil => simp at h
  | cons a t => rw [Bool.eq_iff_iff]; simp [soundB]
theorem sound_iff (l : List Int) : soundB l = true ↔ rowP l := by
  simp only [soundB, Bool.and_eq_true, bne_iff_ne, beq_iff_eq, ne_eq, rowP]
  constructor
  · rintro ⟨h1, h2⟩
    refine ⟨h1, ?_, ?_⟩
    · rw [h2]; exact ofN_sorted _
    · rw [h2]; exact ofN_in _
  · rintro ⟨h1, h2, h3⟩
    exact ⟨h1, row_of h2 h3⟩
theorem sound_len {l : List Int} (h : soundB l = true) : 1 ≤ l.length ∧ l.length ≤ 7 := by
  simp only [soundB, Bool.and_eq_true, bne_iff_ne, beq_iff_eq, ne_eq] at h
  refine ⟨?_, ?_⟩
  · cases l with
    | nil => exact absurd rfl h.1
    | cons _ _ => simp
  · rw [h.2]; exact ofN_len _
theorem sound_eq {l : List Int} (h : soundB l = true) : l = ofN (setN l) := by
  simp only [soundB, Bool.and_eq_true, beq_iff_eq] at h; exact h.2
theorem setN_ofN (s : Nat) (h : s < 128) : setN (ofN s) = s := by
  apply Nat.eq_of_testBit_eq
  intro i
  rw [setN_bit]
  by_cases h7 : i < 7
  · cases hb : s.testBit i
    · have : (i : Int) ∉ ofN s := by
        intro hx
        obtain ⟨j, _, hj, e⟩ := (mem_ofN s _).1 hx
        have : i = j := by omega
        subst this
        rw [hb] at hj; cases hj
      simp [this]
    · have : (i : Int) ∈ ofN s := (mem_ofN s _).2 ⟨i, h7, hb, rfl⟩
      simp [this, h7]
  · have : s.testBit i = false := Nat.testBit_lt_two_pow (Nat.lt_of_lt_of_le h (by
      have : 2 ^ 7 ≤ 2 ^ i := Nat.pow_le_pow_right (by omega) (by omega)
      simpa using this))
    rw [this]; simp [h7]
theorem ofN_ne {s : Nat} (h : s < 128) (h0 : s ≠ 0) : ofN s ≠ [] := by
  intro e
  have := setN_ofN s h
  rw [e] at this
  exact h0 this.symm
theorem ofN_sound {s : Nat} (h : s < 128) (h0 : s ≠ 0) : soundB (ofN s) = true := (sound_iff _).2 ⟨ofN_ne h h0, ofN_sorted _, ofN_in _⟩

/-- The reference's rows: those of seven for which something holds. -/
def rowOf (p : Nat → Bool) : List Int := ((List.range 7).filter p).map fun (i : Nat) => (i : Int)
theorem rowOf_congr {p q : Nat → Bool} (h : ∀ i, i < 7 → p i = q i) : rowOf p = rowOf q := by
  rw [rowOf, rowOf]
  congr 1
  apply List.filter_congr
  intro x hx
  exact h x (List.mem_range.1 hx)
theorem ofN_rowOf (s : Nat) : ofN s = rowOf fun i => s.testBit i := rfl
theorem with_row (l : List Int) (n : Nat) : ofN (setN l ||| 1 <<< n) = rowOf fun i => decide ((i : Int) = n) || (!decide ((i : Int) = -1) && l.contains (i : Int)) := by
  rw [ofN_rowOf]
  apply rowOf_congr
  intro i hi
  rw [Nat.testBit_or, setN_bit, Nat.one_shiftLeft, Nat.testBit_two_pow]
  have h1 : ¬ ((i : Int) = -1) := by omega
  by_cases h : n = i
  · subst h; simp [hi]
  · have h2 : ¬ ((i : Int) = n) := by omega
    simp [hi, h, h1, h2]
theorem without_row (l : List Int) (n : Nat) (s : Nat) (hs : ∀ i, i < 7 → s.testBit i = ((setN l).testBit i && !decide (n = i))) : ofN s = rowOf fun i => decide ((i : Int) = -1) || (!decide ((i : Int) = n) && l.contains (i : Int)) := by
  rw [ofN_rowOf]
  apply rowOf_congr
  intro i hi
  rw [hs i hi, setN_bit]
  have h1 : ¬ ((i : Int) = -1) := by omega
  by_cases h : n = i
  · subst h; simp [hi]
  · have h2 : ¬ ((i : Int) = n) := by omega
    simp [hi, h, h1, h2]

/-- How many of seven stand in one alone. -/
def alone (a b : List Int) : Nat := ((List.range 7).filter fun (i : Nat) => a.contains (i : Int) != b.contains (i : Int)).length
def nearN (s : Nat) : Bool := s &&& (s - 1) == 0
theorem near_count : ∀ s, s < 128 → nearN s = decide (((List.range 7).filter fun i => s.testBit i).length ≤ 1) := by decide +kernel
theorem near_eq (a b : List Int) : nearN (setN a ^^^ setN b) = decide (alone a b ≤ 1) := by
  rw [near_count _ (Nat.xor_lt_two_pow (n := 7) (setN_lt a) (setN_lt b)), alone]
  congr 3
  apply List.filter_congr
  intro i hi
  have := List.mem_range.1 hi
  simp [Nat.testBit_xor, setN_bit, this]
theorem setN_take (l : List Int) (j : Nat) (hj : j < l.length) : setN (l.take (j + 1)) = if 0 ≤ l.getD j 0 ∧ l.getD j 0 < 7 then setN (l.take j) ||| (1 <<< (l.getD j 0).toNat) else setN (l.take j) := by
  rw [setN, List.take_succ_eq_append_getElem hj, List.foldl_append]
  simp [setN, List.getD, List.getElem?_eq_getElem hj]
theorem has_take (l : List Int) (j : Nat) (hj : j < l.length) (x : Int) : (l.take (j + 1)).contains x = ((l.take j).contains x || decide (x = l.getD j 0)) := by
  rw [List.take_succ_eq_append_getElem hj, Bool.eq_iff_iff]
  simp only [List.contains_iff_mem, List.mem_append, List.mem_singleton, Bool.or_eq_true, decide_eq_true_eq, List.getD, List.getElem?_eq_getElem hj, Option.getD_some]
theorem eq_take (a b : List Int) (h : a.length = b.length) (j : Nat) (hj : j < a.length) : (a.take (j + 1) = b.take (j + 1)) ↔ (a.take j = b.take j ∧ a.getD j 0 = b.getD j 0) := by
  rw [List.take_succ_eq_append_getElem hj, List.take_succ_eq_append_getElem (by omega)]
  simp only [List.getD, List.getElem?_eq_getElem hj, List.getElem?_eq_getElem (show j < b.length by omega), Option.getD_some]
  constructor
  · intro e
    have := List.append_inj e (by simp; omega)
    exact ⟨this.1, by simpa using this.2⟩
  · rintro ⟨e1, e2⟩; rw [e1, e2]
/-- The first k of a row of bits. -/
def ofK (s k : Nat) : List Int := ((List.range k).filter fun i => s.testBit i).map fun (i : Nat) => (i : Int)
theorem ofK_succ (s k : Nat) : ofK s (k + 1) = ofK s k ++ (if s.testBit k then [(k : Int)] else []) := by
  rw [ofK, List.range_succ, List.filter_append, List.map_append, ofK]
  congr 1
  by_cases h : s.testBit k <;> simp [h]
theorem ofK_7 (s : Nat) : ofK s 7 = ofN s := rfl
theorem ofK_len (s k : Nat) : (ofK s k).length ≤ k := by
  rw [ofK, List.length_map]
  exact Nat.le_trans (List.length_filter_le _ _) (by simp)
/-- The first k of the reference's row. -/
def rowK (p : Nat → Bool) (k : Nat) : List Int := ((List.range k).filter p).map fun (i : Nat) => (i : Int)
theorem rowK_succ (p : Nat → Bool) (k : Nat) : rowK p (k + 1) = rowK p k ++ (if p k then [(k : Int)] else []) := by
  rw [rowK, List.range_succ, List.filter_append, List.map_append, rowK]
  congr 1
  by_cases h : p k <;> simp [h]
theorem rowK_7 (p : Nat → Bool) : rowK p 7 = rowOf p := rfl
theorem rowK_len (p : Nat → Bool) (k : Nat) : (rowK p k).length ≤ k := by
  rw [rowK, List.length_map]
  exact Nat.le_trans (List.length_filter_le _ _) (by simp)
/-- What the reference asks of a row, number by number. -/
def rowOk (l : List Int) : Nat → Bool
  | 0 => true
  | j + 1 => rowOk l j && (decide (0 ≤ l.getD j 0) && decide (l.getD j 0 ≤ 6) && (decide (j = 0) || decide (l.getD (j - 1) 0 < l.getD j 0)))
theorem rowOk_at {l : List Int} : ∀ {k : Nat}, rowOk l k = true → ∀ i, i < k → 0 ≤ l.getD i 0 ∧ l.getD i 0 ≤ 6 ∧ (i ≠ 0 → l.getD (i - 1) 0 < l.getD i 0)
  | 0, _, i, hi => absurd hi (by omega)
  | k + 1, h, i, hi => by
    simp only [rowOk, Bool.and_eq_true, decide_eq_true_eq, Bool.or_eq_true] at h
    by_cases hik : i = k
    · subst hik; exact ⟨h.2.1.1, h.2.1.2, fun h0 => h.2.2.resolve_left h0⟩
    · exact rowOk_at h.1 i (by omega)
theorem rowOk_lt {l : List Int} {k : Nat} (h : rowOk l k = true) (i : Nat) : ∀ d, i + d + 1 < k → l.getD i 0 < l.getD (i + d + 1) 0
  | 0, hd => by have := (rowOk_at h (i + 1) (by omega)).2.2 (by omega); simpa using this
  | d + 1, hd => by
    have h1 := rowOk_lt h i d (by omega)
    have h2 := (rowOk_at h (i + (d + 1) + 1) hd).2.2 (by omega)
    simp only [Nat.add_sub_cancel] at h2
    rw [show i + (d + 1) = i + d + 1 by omega] at h2 ⊢
    omega
theorem rowOk_of {l : List Int} (h2 : l.Pairwise (· < ·)) (h3 : ∀ x ∈ l, 0 ≤ x ∧ x < 7) : ∀ k, k ≤ l.length → rowOk l k = true
  | 0, _ => rfl
  | k + 1, hk => by
    have hm := h3 (l[k]'(by omega)) (List.getElem_mem _)
    have e : l.getD k 0 = l[k]'(by omega) := by simp [List.getD, List.getElem?_eq_getElem (show k < l.length by omega)]
    simp only [rowOk, Bool.and_eq_true, decide_eq_true_eq, Bool.or_eq_true, e]
    refine ⟨rowOk_of h2 h3 k (by omega), ⟨hm.1, by omega⟩, ?_⟩
    by_cases h0 : k = 0
    · exact .inl h0
    · right
      have e' : l.getD (k - 1) 0 = l[k - 1]'(by omega) := by simp [List.getD, List.getElem?_eq_getElem (show k - 1 < l.length by omega)]
      rw [e']
      exact List.pairwise_iff_getElem.1 h2 (k - 1) k (by omega) (by omega) (by omega)
theorem rowOk_mono {l : List Int} : ∀ {k : Nat}, rowOk l k = true → ∀ {j}, j ≤ k → rowOk l j = true
  | 0, _, j, hj => by have : j = 0 := by omega
                      subst this; rfl
  | k + 1, h, j, hj => by
    simp only [rowOk, Bool.and_eq_true] at h
    by_cases hjk : j = k + 1
    · subst hjk; simp only [rowOk, Bool.and_eq_true]; exact h
    · exact rowOk_mono h.1 (by omega)
theorem sound_ref (l : List Int) : soundB l = (decide (1 ≤ l.length) && decide (l.length ≤ 7) && rowOk l l.length) := by
  rw [Bool.eq_iff_iff]
  simp only [Bool.and_eq_true, decide_eq_true_eq]
  constructor
  · intro h
    obtain ⟨_, h2, h3⟩ := (sound_iff l).1 h
    exact ⟨sound_len h, rowOk_of h2 h3 _ (Nat.le_refl _)⟩
  · rintro ⟨⟨h1, _⟩, h⟩
    refine (sound_iff l).2 ⟨fun e => by rw [e] at h1; simp at h1, ?_, ?_⟩
    · rw [List.pairwise_iff_getElem]
      intro i j hi hj hij
      have := rowOk_lt h i (j - i - 1) (by omega)
      rw [show i + (j - i - 1) + 1 = j by omega] at this
      simpa [List.getD, List.getElem?_eq_getElem hi, List.getElem?_eq_getElem hj] using this
    · intro x hx
      obtain ⟨i, hi, rfl⟩ := List.getElem_of_mem hx
      have := rowOk_at h i hi
      simp only [List.getD, List.getElem?_eq_getElem hi, Option.getD_some] at this
      omega
end Go.Proofs.Ytpgakkpmpnebnaa.Row
