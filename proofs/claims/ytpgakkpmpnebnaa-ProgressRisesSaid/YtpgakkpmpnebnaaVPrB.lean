/- Progress: what a quorum has, in plain lists. No program in sight. Progress: lines and tables, in plain words. No program in sight. -/
section
namespace Go.Proofs.Ytpgakkpmpnebnaa
namespace Prg
set_option linter.unusedVariables false

/-- How many reach x; how many are above it. -/
def cntGe (l : List Nat) (x : Nat) : Nat := (l.filter (fun y => decide (x ≤ y))).length
def cntGt (l : List Nat) (x : Nat) : Nat := (l.filter (fun y => decide (x < y))).length
theorem cntGe_perm {l l' : List Nat} (h : l.Perm l') (x : Nat) : cntGe l x = cntGe l' x := (h.filter _).length_eq
theorem cntGt_perm {l l' : List Nat} (h : l.Perm l') (x : Nat) : cntGt l x = cntGt l' x := (h.filter _).length_eq
theorem cntGe_cons (y : Nat) (l : List Nat) (x : Nat) : cntGe (y :: l) x = (if x ≤ y then 1 else 0) + cntGe l x := by
  unfold cntGe; rw [List.filter_cons]; by_cases h : x ≤ y <;> simp [h] <;> omega
theorem cntGt_cons (y : Nat) (l : List Nat) (x : Nat) : cntGt (y :: l) x = (if x < y then 1 else 0) + cntGt l x := by
  unfold cntGt; rw [List.filter_cons]; by_cases h : x < y <;> simp [h] <;> omega
theorem cntGe_all : ∀ (l : List Nat) (x : Nat), (∀ y ∈ l, x ≤ y) → cntGe l x = l.length
  | [], _, _ => rfl
  | y :: l, x, h => by
    rw [cntGe_cons, if_pos (h y (by simp)), cntGe_all l x (fun z hz => h z (by simp [hz]))]; simp; omega
theorem cntGt_le : ∀ (l : List Nat) (x : Nat), cntGt l x ≤ l.length
  | [], _ => Nat.le_refl _
  | y :: l, x => by rw [cntGt_cons]; have := cntGt_le l x; simp; split <;> omega
theorem cntGe_gt {x y : Nat} (h : x < y) : ∀ l : List Nat, cntGe l y ≤ cntGt l x
  | [] => Nat.le_refl _
  | z :: l => by
    rw [cntGe_cons, cntGt_cons]
    have := cntGe_gt h l
    by_cases h1 : y ≤ z
    · rw [if_pos h1, if_pos (by omega)]; omega
    · rw [if_neg h1]; split <;> omega
/-- In a rising list the one with q - 1 behind it: q reach it, fewer are above. -/
theorem sorted_pos : ∀ (l : List Nat), l.Pairwise (· ≤ ·) → ∀ (k : Nat) (hk : k < l.length), l.length - k ≤ cntGe l l[k] ∧ cntGt l l[k] < l.length - k
  | [], _, k, hk => by simp at hk
  | y :: l, hs, k, hk => by
    rw [List.pairwise_cons] at hs
    obtain ⟨h1, h2⟩ := hs
    cases k with
    | zero =>
      simp only [List.getElem_cons_zero, List.length_cons, Nat.sub_zero]
      rw [cntGe_cons, cntGt_cons, if_pos (Nat.le_refl _), if_neg (Nat.lt_irrefl _), cntGe_all l y h1]
      have := cntGt_le l y
      omega
    | succ k =>
      have hk' : k < l.length := by simpa using hk
      obtain ⟨i1, i2⟩ := sorted_pos l h2 k hk'
      simp only [List.getElem_cons_succ, List.length_cons]
      have hm : y ≤ l[k] := h1 _ (List.getElem_mem hk')
      rw [cntGe_cons, cntGt_cons, if_neg (show ¬ l[k] < y by omega)]
      constructor
      · split <;> omega
      · omega
/-- The document's: the greatest one that q reach. -/
def great (all : List Nat) (q : Nat) : List Nat → Nat → Nat
  | [], best => best
  | x :: l, best => great all q l (if q ≤ cntGe all x ∧ best < x then x else best)
theorem great_ge (all : List Nat) (q : Nat) : ∀ (l : List Nat) (best : Nat), best ≤ great all q l best
  | [], _ => Nat.le_refl _
  | x :: l, best => by
    rw [great]
    refine Nat.le_trans ?_ (great_ge all q l _)
    split <;> omega
theorem great_mem (all : List Nat) (q : Nat) : ∀ (l : List Nat) (best x : Nat), x ∈ l → q ≤ cntGe all x → x ≤ great all q l best
  | [], _, _, h, _ => by cases h
  | y :: l, best, x, h, hq => by
    rw [great]
    rcases List.mem_cons.1 h with rfl | h
    · refine Nat.le_trans ?_ (great_ge all q l _)
      by_cases hb : best < x
      · rw [if_pos ⟨hq, hb⟩]; exact Nat.le_refl _
      · rw [if_neg (fun e => hb e.2)]; omega
    · exact great_mem all q l _ x h hq
theorem great_le (all : List Nat) (q m : Nat) (hm : ∀ x, q ≤ cntGe all x → x ∈ all → x ≤ m) : ∀ (l : List Nat) (best : Nat), (∀ x ∈ l, x ∈ all) → best ≤ m → great all q l best ≤ m
  | [], _, _, h => h
  | x :: l, best, hl, hb => by
    rw [great]
    refine great_le all q m hm l _ (fun z hz => hl z (by simp [hz])) ?_
    split
    · rename_i h; exact hm x h.1 (hl x (by simp))
    · exact hb
/-- The sorted list's answer is the document's. -/
theorem great_eq {l s : List Nat} (hp : s.Perm l) (hs : s.Pairwise (· ≤ ·)) (q : Nat) (h1 : 1 ≤ q) (h2 : q ≤ l.length) :
    ∃ h : s.length - q < s.length, s[s.length - q] = great l q l 0 ∧ q ≤ cntGe l s[s.length - q] ∧ cntGt l s[s.length - q] < q := by
  have hl := hp.length_eq
  refine ⟨by omega, ?_⟩
  obtain ⟨p1, p2⟩ := sorted_pos s hs (s.length - q) (by omega)
  rw [cntGe_perm hp] at p1
  rw [cntGt_perm hp] at p2
  have hm : s[s.length - q]'(by omega) ∈ l := hp.mem_iff.1 (List.getElem_mem _)
  generalize s[s.length - q]'(by omega) = x at *
  refine ⟨Nat.le_antisymm (great_mem l q l 0 x hm (by omega)) (great_le l q x (fun y hy _ => ?_) l 0 (fun _ h => h) (Nat.zero_le _)), by omega, by omega⟩
  rcases Nat.lt_or_ge x y with h | h
  · have := cntGe_gt h l; omega
  · exact h
end Prg
end Go.Proofs.Ytpgakkpmpnebnaa
end

section
namespace Go.Proofs.Ytpgakkpmpnebnaa
namespace Prg
set_option linter.unusedVariables false

/-- How far one is. -/
structure Ln where
  m : Nat
  n : Nat
  r : Nat
  a : Bool
def Ln.z : Ln := ⟨0, 0, 0, false⟩
/-- A line as it comes about. -/
structure Ln.Ok (x : Ln) : Prop where
  m : x.m ≤ 1152921504606846976
  n : x.n ≤ 1152921504606846977
  r : x.r < 18446744073709551616
  up : x.m < x.n
def took (x : Ln) (i : Nat) : Ln := ⟨max x.m i, max x.n (i + 1), x.r, x.a⟩
def tookB (x : Ln) (i : Nat) : Bool := decide (x.m < i)
def refN (x : Ln) (h : Nat) : Nat := max (if h < x.n then h + 1 else x.n) (x.m + 1)
def refused (x : Ln) (h : Nat) : Ln := ⟨x.m, refN x h, x.r, x.a⟩
def refusedB (x : Ln) (h : Nat) : Bool := refN x h != x.n
def heard (x : Ln) (r : Nat) : Ln := ⟨x.m, x.n, max x.r r, true⟩
def calm (x : Ln) : Ln := ⟨x.m, x.n, x.r, false⟩
theorem took_ok {x : Ln} (h : x.Ok) {i : Nat} (hi : i ≤ 1152921504606846976) : (took x i).Ok := by
  obtain ⟨a, b, c, d⟩ := h
  exact ⟨by show max x.m i ≤ _; omega, by show max x.n (i + 1) ≤ _; omega, c, by show max x.m i < max x.n (i + 1); omega⟩
theorem refused_ok {x : Ln} (h : x.Ok) (k : Nat) : (refused x k).Ok := by
  obtain ⟨a, b, c, d⟩ := h
  refine ⟨a, ?_, c, ?_⟩
  · show max (if k < x.n then k + 1 else x.n) (x.m + 1) ≤ _
    split <;> omega
  · show x.m < max (if k < x.n then k + 1 else x.n) (x.m + 1)
    split <;> omega
theorem heard_ok {x : Ln} (h : x.Ok) {r : Nat} (hr : r < 18446744073709551616) : (heard x r).Ok := by
  obtain ⟨a, b, c, d⟩ := h
  exact ⟨a, b, by show max x.r r < _; omega, d⟩
theorem calm_ok {x : Ln} (h : x.Ok) : (calm x).Ok := ⟨h.m, h.n, h.r, h.up⟩
theorem new_ok {last : Nat} (h : last ≤ 1152921504606846976) : (Ln.mk 0 (last + 1) 0 false).Ok := ⟨by simp, by simp only; omega, by simp, by simp⟩
/-- A table: lines of nodes. -/
abbrev Tb := Int → Option Ln
def Tb.Ok (t : Tb) : Prop := ∀ i x, t i = some x → 0 ≤ i ∧ i ≤ 6 ∧ x.Ok
def setT (t : Tb) (nodes : List Int) (last : Nat) : Tb := fun i => if 0 ≤ i ∧ i ≤ 6 ∧ i ∈ nodes then some ((t i).getD ⟨0, last + 1, 0, false⟩) else none
def putT (t : Tb) (k : Int) (x : Ln) : Tb := fun i => if i = k then some x else t i
def calmT (t : Tb) : Tb := fun i => (t i).map calm
theorem setT_ok {t : Tb} (h : t.Ok) (nodes : List Int) {last : Nat} (hl : last ≤ 1152921504606846976) : (setT t nodes last).Ok := by
  intro i x hx
  unfold setT at hx
  split at hx
  · rename_i hi
    refine ⟨hi.1, hi.2.1, ?_⟩
    cases ht : t i with
    | none => rw [ht] at hx; simp at hx; subst hx; exact new_ok hl
    | some y => rw [ht] at hx; simp at hx; subst hx; exact (h i y ht).2.2
  · cases hx
theorem putT_ok {t : Tb} (h : t.Ok) {k : Int} (hk : 0 ≤ k ∧ k ≤ 6) {x : Ln} (hx : x.Ok) : (putT t k x).Ok := by
  intro i y hy
  unfold putT at hy
  split at hy
  · injection hy with hy; subst hy; rename_i e; subst e; exact ⟨hk.1, hk.2, hx⟩
  · exact h i y hy
theorem calmT_ok {t : Tb} (h : t.Ok) : (calmT t).Ok := by
  intro i y hy
  unfold calmT at hy
  cases ht : t i with
  | none => rw [ht] at hy; cases hy
  | some x => rw [ht] at hy; simp at hy; subst hy; have := h i x ht; exact ⟨this.1, this.2.1, calm_ok this.2.2⟩
/-- Lines go up alone. -/
def Ln.le (x y : Ln) : Prop := x.m ≤ y.m ∧ x.r ≤ y.r
theorem Ln.le_refl (x : Ln) : x.le x := ⟨Nat.le_refl _, Nat.le_refl _⟩
theorem took_le (x : Ln) (i : Nat) : x.le (took x i) := ⟨by show x.m ≤ max x.m i; omega, Nat.le_refl _⟩
theorem refused_le (x : Ln) (i : Nat) : x.le (refused x i) := ⟨Nat.le_refl _, Nat.le_refl _⟩
theorem heard_le (x : Ln) (i : Nat) : x.le (heard x i) := ⟨Nat.le_refl _, by show x.r ≤ max x.r i; omega⟩
theorem calm_le (x : Ln) : x.le (calm x) := ⟨Nat.le_refl _, Nat.le_refl _⟩
/-- From one table to the next a line that stays goes up alone. -/
def Tb.Up (t t' : Tb) : Prop := ∀ i x y, t i = some x → t' i = some y → x.le y
theorem setT_up (t : Tb) (nodes : List Int) (last : Nat) : t.Up (setT t nodes last) := by
  intro i x y hx hy
  unfold setT at hy
  split at hy
  · rw [hx] at hy; simp at hy; subst hy; exact x.le_refl
  · cases hy
theorem putT_up {t : Tb} {k : Int} {x x' : Ln} (hx : t k = some x) (h : x.le x') : t.Up (putT t k x') := by
  intro i y z hy hz
  unfold putT at hz
  split at hz
  · rename_i e; subst e; rw [hx] at hy; injection hy with hy; injection hz with hz; subst hy hz; exact h
  · rw [hy] at hz; injection hz with hz; subst hz; exact y.le_refl
theorem calmT_up (t : Tb) : t.Up (calmT t) := by
  intro i x y hx hy
  unfold calmT at hy
  rw [hx] at hy; simp at hy; subst hy; exact calm_le x
/-- What a quorum of these has, by some number of each line's. -/
def vals (t : Tb) (of : Ln → Nat) (members : List Int) (self : Int) (own : Nat) : List Nat := members.map fun n => if n = self then own else of ((t n).getD Ln.z)
end Prg
end Go.Proofs.Ytpgakkpmpnebnaa
end
