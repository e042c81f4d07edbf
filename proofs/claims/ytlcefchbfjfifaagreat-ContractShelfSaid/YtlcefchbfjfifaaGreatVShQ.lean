/- Reading and writing a shelf, in plain words (the first laws as in CdI: never import both). -/
import Derived.Test.YtlcefchbfjfifaaGreatVShJ
import Derived.Test.YtlcefchbfjfifaaGreatVCcF
namespace Go.Proofs.YtlcefchbfjfifaaGreat
open Go.RowKit Cal
set_option maxHeartbeats 4000000
set_option maxRecDepth 100000
set_option linter.unusedVariables false

theorem rdSt_ok {l : List UInt8} {b : Bool} : ∀ n, (rdSt l b n).2.2 = false → b = false
  | 0, h => h
  | n + 1, h => by
    rw [rdSt_succ] at h
    simp only at h
    refine rdSt_ok (l := l) n ?_
    cases h1 : (rdSt l b n).2.2
    · rfl
    · rw [h1, rdNum_bad, rdNum_bad] at h; cases h
theorem rdSt_split {l : List UInt8} : ∀ n, (rdSt l false n).2.2 = false → l = encSps (rdSt l false n).1 ++ (rdSt l false n).2.1
  | 0, _ => by simp [rdSt, encSps]
  | n + 1, h => by
    have hs := rdSt_succ l false n
    rw [hs] at h ⊢
    simp only at h ⊢
    cases h1 : (rdSt l false n).2.2
    · have ih := rdSt_split n h1
      rw [h1] at h
      generalize rdSt l false n = q at *
      obtain ⟨L, l2, b2⟩ := q
      simp only at *
      obtain ⟨f, b3, l3, e1⟩ := rd3_pair 1125899906842624 (false, l2)
      have e1' := e1
      simp only [rd3, Prod.mk.injEq] at e1'
      obtain ⟨f1, f2, f3⟩ := e1'
      rw [f2, f3] at h
      cases b3
      · obtain ⟨t, b4, l4, e2⟩ := rd3_pair 1125899906842624 (false, l3)
        have e2' := e2
        simp only [rd3, Prod.mk.injEq] at e2'
        obtain ⟨g1, g2, g3⟩ := e2'
        rw [g2] at h
        subst h
        rw [f1, f2, f3, g1, g3]
        have s1 := rd3_split e1
        have s2 := rd3_split e2
        rw [ih, s1, s2]
        simp [encSps, encS2, encs]
      · rw [rdNum_bad] at h; cases h
    · rw [h1, rdNum_bad, rdNum_bad] at h; cases h
theorem rdRow_ok {l : List UInt8} {b : Bool} (h : (rdRow b l).2.2 = false) : b = false := by
  cases b
  · rfl
  · have := rdSt_ok (l := (rdNum 32 false true l).left) _ h
    rw [rdNum_bad] at this; cases this
theorem rdRow_split {l : List UInt8} (h : (rdRow false l).2.2 = false) : l = encRow (rdRow false l).1 ++ (rdRow false l).2.1 := by
  obtain ⟨n, b1, l1, e⟩ := rd3_pair 32 (false, l)
  have e' := e
  simp only [rd3, Prod.mk.injEq] at e'
  obtain ⟨f1, f2, f3⟩ := e'
  have hr : rdRow false l = rdSt l1 b1 n := by unfold rdRow; rw [f1, f2, f3]
  rw [hr] at h ⊢
  have hb := rdSt_ok (l := l1) _ h
  subst hb
  have s1 := rd3_split e
  have s2 := rdSt_split n h
  have hl := rdSt_len l1 false n
  rw [encRow, hl]
  generalize rdSt l1 false n = q at *
  rw [s1, s2]
  simp [encs]
theorem rdRes_split {l : List UInt8} (h : (rdRes false l).bad = false) : l = encCa (rdRes false l).c ++ (rdRes false l).left ∧ (rdRes false l).ok = true := by
  cases hk : rdOkC false l
  · rw [rdRes, hk] at h; cases h
  · have hr : rdRes false l = ⟨rdCa false l, true, (rdC2 false l).2.1, false⟩ := by rw [rdRes, hk]; rfl
    rw [hr]
    refine ⟨?_, rfl⟩
    simp only [rdOkC, Bool.and_eq_true, Bool.not_eq_true', decide_eq_true_eq] at hk
    have h2 : (rdC2 false l).2.2 = false := hk.1
    have h1 : (rdC1 false l).2.2 = false := rdRow_ok h2
    have h0 : (rdNum 9223372036854775807 true false l).bad = false := rdRow_ok h1
    have s0 := rdI_split (l := l) (v := rdInt false l) (l' := (rdNum 9223372036854775807 true false l).left) (by rw [rdI, h0])
    have e1 : rdC1 false l = rdRow false (rdNum 9223372036854775807 true false l).left := by rw [rdC1, h0]
    have e2 : rdC2 false l = rdRow false (rdC1 false l).2.1 := by rw [rdC2, h1]
    rw [e1] at h1 e2
    have s1 := rdRow_split h1
    rw [e2] at h2
    have s2 := rdRow_split h2
    rw [rdCa, e2, e1]
    generalize rdInt false l = o at *
    generalize (rdNum 9223372036854775807 true false l).left = l0 at *
    generalize rdRow false l0 = q at *
    generalize rdRow false q.2.1 = q2 at *
    show l = encCa ⟨o, q.1, q2.1⟩ ++ q2.2.1
    rw [s0, s1, s2]
    simp [encCa, encIs]
theorem rdRes_bad1 (l : List UInt8) : (rdRes true l).bad = true := by
  cases hk : rdOkC true l
  · rw [rdRes, hk]; rfl
  · simp only [rdOkC, Bool.and_eq_true, Bool.not_eq_true', decide_eq_true_eq] at hk
    have h1 : (rdC1 true l).2.2 = false := rdRow_ok hk.1
    have h0 : (rdNum 9223372036854775807 true true l).bad = false := rdRow_ok h1
    rw [rdNum_bad] at h0; cases h0
theorem rdLv_split : ∀ (k : Nat) {l l' : List UInt8} {xs : List Sp}, rdLv k (false, l) = (xs, false, l') → l = encSps xs ++ l'
  | 0, l, l', xs, h => by
    injection h with h1 h2
    injection h2 with h2 h3
    subst h1 h3
    simp [encSps]
  | k + 1, l, l', xs, h => by
    obtain ⟨ys, b1, l1, e1⟩ : ∃ ys b1 l1, rdLv k (false, l) = (ys, b1, l1) := ⟨_, _, _, rfl⟩
    obtain ⟨f, b2, l2, e2⟩ := rd3_pair 1125899906842624 (b1, l1)
    obtain ⟨t, b3, l3, e3⟩ := rd3_pair 7 (b2, l2)
    have hs := rdLv_step e1 e2 e3
    rw [hs] at h
    injection h with h1 h2
    injection h2 with h2 h3
    subst h1 h2 h3
    have hb2 := rd3_ok e3
    simp only at hb2
    subst hb2
    have hb1 := rd3_ok e2
    simp only at hb1
    subst hb1
    have s1 := rdLv_split k e1
    have s2 := rd3_split e2
    have s3 := rd3_split e3
    rw [s1, s2, s3]
    simp [encSps, encS2, encs]
theorem rdLv_ok {k : Nat} {s : Bool × List UInt8} {xs : List Sp} {l : List UInt8} (h : rdLv k s = (xs, false, l)) : s.1 = false := by
  cases hs : s.1
  · rfl
  · have := rdLv_bad k hs; rw [h] at this; cases this
theorem rdCon_split {l l' : List UInt8} {c : Co} (h : rdCon (false, l) = (c, false, l')) : l = encK c ++ l' := by
  obtain ⟨a, b1, l1, e1⟩ := rd3_pair 7 (false, l)
  obtain ⟨n, b2, l2, e2⟩ := rd3_pair 6 (b1, l1)
  obtain ⟨xs, b3, l3, e3⟩ : ∃ xs b3 l3, rdLv n (b2, l2) = (xs, b3, l3) := ⟨_, _, _, rfl⟩
  obtain ⟨r, b4, l4, e4⟩ := rd3_pair 8 (b3, l3)
  obtain ⟨k, b5, l5, e5⟩ := rd3_pair 1048576 (b4, l4)
  have hr : rdCon (false, l) = (⟨a, xs, r, k⟩, b5, l5) := by simp only [rdCon, e1, e2, e3, e4, e5]
  rw [hr] at h
  injection h with h1 h2
  injection h2 with h2 h3
  subst h1 h2 h3
  have hb4 := rd3_ok e5; simp only at hb4; subst hb4
  have hb3 := rd3_ok e4; simp only at hb3; subst hb3
  have hb2 := rdLv_ok e3; simp only at hb2; subst hb2
  have hb1 := rd3_ok e2; simp only at hb1; subst hb1
  have hl := rdLv_len n (false, l2)
  rw [e3] at hl
  simp only at hl
  have s1 := rd3_split e1; have s2 := rd3_split e2; have s3 := rdLv_split n e3; have s4 := rd3_split e4; have s5 := rd3_split e5
  rw [s1, s2, s3, s4, s5]
  simp [encK, encs, hl]
theorem rdCon_ok {s : Bool × List UInt8} (h : (rdCon s).2.1 = false) : s.1 = false := by
  cases hs : s.1
  · rfl
  · have : (rdCon s).2.1 = true := rd3_bad (rd3_bad (rdLv_bad _ (rd3_bad (rd3_bad hs))))
    rw [this] at h; cases h
theorem conRes_ok {r : Co × Bool × List UInt8} (h : (conRes r).2.1 = false) : conRes r = r ∧ r.2.1 = false := by
  unfold conRes at h ⊢
  split at h
  · rename_i hg; rw [if_pos hg]; exact ⟨rfl, h⟩
  · cases h
theorem rdRes_writeS (c : Ca) (rest : List UInt8) (hk : checkE c = 0) : rdRes false (encCa c ++ rest) = ⟨c, true, rest, false⟩ := by
  have h := check_ok hk
  have ho := h.off
  have e : encCa c ++ rest = encI c.off ++ (encRow c.wk ++ (encRow c.cl ++ rest)) := by simp [encCa, encIs]
  obtain ⟨i1, i2, i3⟩ := written_readI c.off false (encRow c.wk ++ (encRow c.cl ++ rest)) (by omega) (by omega)
  have e1 : rdC1 false (encCa c ++ rest) = (c.wk, encRow c.cl ++ rest, false) := by
    rw [rdC1, e, i2, i3, rdRow_back c.wk _ (row_sp (Int.le_refl 0) h.wk.1) h.wk.2.1]
  have e2 : rdC2 false (encCa c ++ rest) = (c.cl, rest, false) := by
    rw [rdC2, e1, rdRow_back c.cl _ (row_sp (Int.le_refl 0) h.cl) h.cn]
  have e3 : rdCa false (encCa c ++ rest) = c := by
    rw [rdCa, e1, e2, e, i1]
  rw [rdRes, rdOkC, e3, e2, hk]
  rfl
/-- A kind of thing kept by numbers: its bytes, how it is read, which may be. -/
structure Knd (α : Type) where
  m : Nat
  enc : α → List UInt8
  rd : Bool × List UInt8 → α × Bool × Bool × List UInt8
  ok : α → Bool
structure Knd.Law {α : Type} (K : Knd α) : Prop where
  m : K.m ≤ 100
  write : ∀ a rest, K.ok a = true → K.rd (false, K.enc a ++ rest) = (a, true, false, rest)
  split : ∀ st, (K.rd st).2.1 = true → st.1 = false ∧ (K.rd st).2.2.1 = false ∧ st.2 = K.enc (K.rd st).1 ++ (K.rd st).2.2.2 ∧ K.ok (K.rd st).1 = true
def kCal : Knd Ca := ⟨7, encCa, fun st => ((rdRes st.1 st.2).c, (rdRes st.1 st.2).ok, (rdRes st.1 st.2).bad, (rdRes st.1 st.2).left), fun c => decide (checkE c = 0)⟩
def kCon : Knd Co := ⟨15, encK, fun st => ((conRes (rdCon st)).1, conGood (rdCon st), (conRes (rdCon st)).2.1, (conRes (rdCon st)).2.2), goodB⟩
theorem kCal_law : kCal.Law := by
  refine ⟨by decide, fun a rest h => ?_, fun st h => ?_⟩
  · have h : checkE a = 0 := by simpa [kCal] using h
    simp [kCal, rdRes_writeS a rest h]
  · obtain ⟨b, l⟩ := st
    have h : (rdRes b l).ok = true := h
    have hk : rdOkC b l = true := by
      cases hk : rdOkC b l
      · rw [rdRes, hk] at h; cases h
      · rfl
    have hr : rdRes b l = ⟨rdCa b l, true, (rdC2 b l).2.1, false⟩ := by rw [rdRes, hk]; rfl
    have hbad : (rdRes b l).bad = false := by rw [hr]
    cases b
    · have h2 := rdRes_split hbad
      refine ⟨rfl, hbad, h2.1, ?_⟩
      show decide (checkE (rdRes false l).c = 0) = true
      rw [hr]
      simp only [rdOkC, Bool.and_eq_true] at hk
      exact hk.2
    · rw [rdRes_bad1] at hbad; cases hbad
theorem kCon_law : kCon.Law := by
  refine ⟨by decide, fun a rest h => ?_, fun st h => ?_⟩
  · have h : goodB a = true := h
    have hg : conGood (a, false, rest) = true := by simp [conGood, h]
    show ((conRes (rdCon (false, encK a ++ rest))).1, conGood (rdCon (false, encK a ++ rest)), (conRes (rdCon (false, encK a ++ rest))).2.1, (conRes (rdCon (false, encK a ++ rest))).2.2) = _
    rw [rdCon_write h rest, conRes, if_pos hg, hg]
  · have h : conGood (rdCon st) = true := h
    have hR : conRes (rdCon st) = rdCon st := by rw [conRes, if_pos h]
    show st.1 = false ∧ (conRes (rdCon st)).2.1 = false ∧ st.2 = encK (conRes (rdCon st)).1 ++ (conRes (rdCon st)).2.2 ∧ goodB (conRes (rdCon st)).1 = true
    rw [hR]
    have h' := h
    simp only [conGood, Bool.and_eq_true] at h'
    have hb : (rdCon st).2.1 = false := by simpa using h'.1
    have h0 := rdCon_ok hb
    obtain ⟨b, l⟩ := st
    simp only at h0
    subst h0
    refine ⟨rfl, hb, ?_, h'.2⟩
    exact rdCon_split (l' := (rdCon (false, l)).2.2) (Prod.ext rfl (Prod.ext hb rfl))
section
variable {α : Type}
def setG (f : Int → Option α) (i : Int) (a : α) : Int → Option α := fun j => if j = i then some a else f j
/-- Under way: what is there, the last number, is all well, the reader. -/
structure RdG (α : Type) where
  f : Int → Option α
  last : Int
  ok : Bool
  st : Bool × List UInt8
structure RwG (α : Type) where
  i : Nat
  a : α
  good : Bool
  st : Bool × List UInt8
def Knd.row (K : Knd α) (st : Bool × List UInt8) : RwG α := ⟨(rd3 K.m st).1, (K.rd (rd3 K.m st).2).1, (K.rd (rd3 K.m st).2).2.1, (K.rd (rd3 K.m st).2).2.2⟩
def okG (chk : α → Bool) (x : RdG α) (y : RwG α) : Bool := y.good && decide (x.last < (y.i : Int)) && chk y.a
def Knd.step (K : Knd α) (chk : α → Bool) (x : RdG α) : RdG α := if x.ok = true then (if okG chk x (K.row x.st) = true then ⟨setG x.f (K.row x.st).i (K.row x.st).a, (K.row x.st).i, true, (K.row x.st).st⟩ else ⟨x.f, x.last, false, (K.row x.st).st⟩) else x
def Knd.steps (K : Knd α) (chk : α → Bool) : Nat → RdG α → RdG α
  | 0, x => x
  | k + 1, x => K.step chk (K.steps chk k x)
def x0G (st : Bool × List UInt8) : RdG α := ⟨fun _ => none, -1, true, st⟩
structure RdG.In (K : Knd α) (chk : α → Bool) (x : RdG α) : Prop where
  top : ∀ i a, x.f i = some a → 0 ≤ i ∧ i ≤ x.last ∧ K.ok a = true ∧ chk a = true
  hi : x.last ≤ K.m
  lo : -1 ≤ x.last
theorem x0G_in (K : Knd α) (chk : α → Bool) (st : Bool × List UInt8) : (x0G st : RdG α).In K chk := ⟨(fun _ _ h => by cases h), (show (-1 : Int) ≤ K.m by omega), Int.le_refl _⟩
theorem step_in {K : Knd α} (hK : K.Law) {chk : α → Bool} {x : RdG α} (h : x.In K chk) : (K.step chk x).In K chk := by
  unfold Knd.step
  split
  · split
    · rename_i hk
      simp only [okG, Bool.and_eq_true, decide_eq_true_eq] at hk
      obtain ⟨⟨hg, hl⟩, hc⟩ := hk
      have hs := hK.split _ hg
      have hm := rd3_le K.m x.st
      have hlo := h.lo
      refine ⟨fun i a hi => ?_, ?_, ?_⟩
      · simp only [setG] at hi
        split at hi
        · rename_i e; subst e; injection hi with hi; subst hi; exact ⟨by omega, Int.le_refl _, hs.2.2.2, hc⟩
        · have := h.top i a hi; exact ⟨this.1, by simp only; omega, this.2.2⟩
      · show ((rd3 K.m x.st).1 : Int) ≤ K.m; omega
      · show (-1 : Int) ≤ ((rd3 K.m x.st).1 : Int); omega
    · exact ⟨h.top, h.hi, h.lo⟩
  · exact h
theorem steps_in {K : Knd α} (hK : K.Law) {chk : α → Bool} {x : RdG α} (h : x.In K chk) : ∀ k, (K.steps chk k x).In K chk
  | 0 => h
  | k + 1 => step_in hK (steps_in hK h k)
theorem step_off {K : Knd α} {chk : α → Bool} {x : RdG α} (h : x.ok = false) : K.step chk x = x := by unfold Knd.step; rw [if_neg (by rw [h]; simp)]
theorem steps_off {K : Knd α} {chk : α → Bool} {x : RdG α} {j : Nat} (h : (K.steps chk j x).ok = false) : ∀ k, j ≤ k → (K.steps chk k x) = K.steps chk j x
  | 0, hk => by obtain rfl : j = 0 := by omega
                rfl
  | k + 1, hk => by
    by_cases e : j = k + 1
    · subst e; rfl
    · have := steps_off h k (by omega)
      rw [Knd.steps, this, step_off h]
/-- What is there below k, as bytes; how many. -/
def rowG (enc : α → List UInt8) (f : Int → Option α) (k : Nat) : List UInt8 := match f k with | some a => encN 0 k ++ enc a | none => []
def rowsG (enc : α → List UInt8) (f : Int → Option α) : Nat → List UInt8
  | 0 => []
  | k + 1 => rowsG enc f k ++ rowG enc f k
def cntG (f : Int → Option α) : Nat → Nat
  | 0 => 0
  | k + 1 => cntG f k + (if (f k).isSome = true then 1 else 0)
theorem cntG_le (f : Int → Option α) : ∀ k, cntG f k ≤ k
  | 0 => Nat.le_refl _
  | k + 1 => by have := cntG_le f k; rw [cntG]; split <;> omega
theorem rowsG_nil (enc : α → List UInt8) {f : Int → Option α} (h : ∀ i, f i = none) : ∀ k, rowsG enc f k = [] ∧ cntG f k = 0
  | 0 => ⟨rfl, rfl⟩
  | k + 1 => by obtain ⟨a, b⟩ := rowsG_nil enc h k; rw [rowsG, cntG, rowG, h, a, b]; exact ⟨rfl, rfl⟩
/-- One above all others. -/
theorem rowsG_set (enc : α → List UInt8) {f : Int → Option α} {i : Nat} {a : α} (h : ∀ j b, f j = some b → j < (i : Int)) : ∀ k, (k ≤ i → rowsG enc (setG f i a) k = rowsG enc f k ∧ cntG (setG f i a) k = cntG f k) ∧ (i < k → rowsG enc (setG f i a) k = rowsG enc f k ++ (encN 0 i ++ enc a) ∧ cntG (setG f i a) k = cntG f k + 1)
  | 0 => ⟨fun _ => ⟨rfl, rfl⟩, fun h => by omega⟩
  | k + 1 => by
    obtain ⟨h1, h2⟩ := rowsG_set enc (a := a) h k
    have hn : ∀ j : Nat, i ≤ j → f j = none := fun j hj => by
      cases hs : f j with
      | none => rfl
      | some b => have := h j b hs; omega
    refine ⟨fun hk => ?_, fun hk => ?_⟩
    · obtain ⟨e1, e2⟩ := h1 (by omega)
      have : setG f i a (k : Int) = f k := by rw [setG, if_neg (by omega)]
      rw [rowsG, rowsG, cntG, cntG, rowG, rowG, e1, e2, this]; exact ⟨rfl, rfl⟩
    · by_cases e : k = i
      · obtain ⟨e1, e2⟩ := h1 (by omega)
        subst e
        have : setG f (k : Int) a (k : Int) = some a := by rw [setG, if_pos rfl]
        rw [rowsG, rowsG, cntG, cntG, rowG, rowG, e1, e2, this, hn k (Nat.le_refl _)]; simp
      · obtain ⟨e1, e2⟩ := h2 (by omega)
        have : setG f i a (k : Int) = none := by rw [setG, if_neg (by omega), hn k (by omega)]
        rw [rowsG, rowsG, cntG, cntG, rowG, rowG, e1, e2, this, hn k (by omega)]; simp
theorem row_split {K : Knd α} (hK : K.Law) {st : Bool × List UInt8} (hg : (K.row st).good = true) : st.1 = false ∧ (K.row st).st.1 = false ∧ st.2 = encN 0 (K.row st).i ++ K.enc (K.row st).a ++ (K.row st).st.2 := by
  obtain ⟨h1, h2, h3, h4⟩ := hK.split _ hg
  have h5 : st.1 = false := by
    cases hs : st.1
    · rfl
    · rw [rd3_bad hs] at h1; cases h1
  refine ⟨h5, h2, ?_⟩
  obtain ⟨b, l⟩ := st
  simp only at h5
  subst h5
  obtain ⟨v1, b1, l1, q1⟩ := rd3_pair K.m (false, l)
  rw [q1] at h1
  simp only at h1
  subst h1
  have s1 := rd3_split q1
  unfold Knd.row
  rw [q1] at h3 ⊢
  simp only at h3 ⊢
  rw [List.append_assoc, ← h3, ← s1]
theorem steps_split {K : Knd α} (hK : K.Law) {chk : α → Bool} {l : List UInt8} : ∀ k, (K.steps chk k (x0G (false, l))).ok = true → ∃ l', (K.steps chk k (x0G (false, l))).st = (false, l') ∧ l = rowsG K.enc (K.steps chk k (x0G (false, l))).f (K.m + 1) ++ l' ∧ cntG (K.steps chk k (x0G (false, l))).f (K.m + 1) = k
  | 0 => fun _ => ⟨l, rfl, by rw [(rowsG_nil K.enc (f := (K.steps chk 0 (x0G (false, l))).f) (fun _ => rfl) (K.m + 1)).1]; rfl, (rowsG_nil K.enc (f := (K.steps chk 0 (x0G (false, l))).f) (fun _ => rfl) (K.m + 1)).2⟩
  | k + 1 => fun h => by
    have hin := steps_in hK (x0G_in K chk (false, l)) k
    simp only [Knd.steps] at h ⊢
    generalize hx : K.steps chk k (x0G (false, l)) = x at *
    have hxo : x.ok = true := by
      cases hb : x.ok
      · rw [step_off hb, hb] at h; cases h
      · rfl
    obtain ⟨l1, e1, e2, e3⟩ := steps_split hK (chk := chk) (l := l) k (by rw [hx]; exact hxo)
    rw [hx] at e1 e2 e3
    unfold Knd.step at h ⊢
    rw [if_pos hxo] at h ⊢
    by_cases hk : okG chk x (K.row x.st) = true
    · rw [if_pos hk]
      have hk' := hk
      simp only [okG, Bool.and_eq_true, decide_eq_true_eq] at hk'
      obtain ⟨⟨hg, hl⟩, hq⟩ := hk'
      obtain ⟨a1, a2, a3⟩ := row_split hK hg
      have h8 : (K.row x.st).i ≤ K.m := rd3_le K.m x.st
      obtain ⟨b1, b2⟩ := (rowsG_set K.enc (a := (K.row x.st).a) (fun j b hj => by have := (hin.top j b hj).2.1; omega) (K.m + 1)).2 (by omega : (K.row x.st).i < K.m + 1)
      refine ⟨(K.row x.st).st.2, by simp only; rw [← a2], ?_, by simp only; rw [b2, e3]⟩
      simp only
      rw [b1, e2]
      rw [e1] at a3
      simp only at a3
      rw [e1]
      rw [List.append_assoc, ← a3]
    · rw [if_neg hk] at h; cases h
/-- A reader that is wrong stays so. -/
theorem steps_bad {K : Knd α} (hK : K.Law) {chk : α → Bool} {st : Bool × List UInt8} : ∀ k, (K.steps chk k (x0G st)).ok = true → (K.steps chk k (x0G st)).st.1 = false → st.1 = false
  | 0 => fun _ h => h
  | k + 1 => fun h h2 => by
    simp only [Knd.steps] at h h2
    have hxo : (K.steps chk k (x0G st)).ok = true := by
      cases hb : (K.steps chk k (x0G st)).ok
      · rw [step_off hb, hb] at h; cases h
      · rfl
    refine steps_bad hK k hxo ?_
    unfold Knd.step at h
    rw [if_pos hxo] at h
    split at h
    · rename_i hk
      simp only [okG, Bool.and_eq_true] at hk
      exact (row_split hK hk.1.1).1
    · cases h
def toG (f : Int → Option α) (k : Nat) : Int → Option α := fun i => if i < (k : Int) then f i else none
theorem row_write {K : Knd α} (hK : K.Law) {i : Nat} {a : α} (hi : i ≤ K.m) (ha : K.ok a = true) (l : List UInt8) : K.row (false, encN 0 i ++ K.enc a ++ l) = ⟨i, a, true, (false, l)⟩ := by
  have hm := hK.m
  unfold Knd.row
  rw [List.append_assoc, rd3_write K.m i false _ (by omega) hi]
  simp only
  rw [hK.write a l ha]
theorem steps_write {K : Knd α} (hK : K.Law) {chk : α → Bool} {f : Int → Option α} (hf : ∀ i a, f i = some a → (0 ≤ i ∧ i ≤ K.m) ∧ K.ok a = true ∧ chk a = true) : ∀ k, k ≤ K.m + 1 → ∀ rest, ∃ la, la < (k : Int) ∧ K.steps chk (cntG f k) (x0G (false, rowsG K.enc f k ++ rest)) = ⟨toG f k, la, true, (false, rest)⟩
  | 0 => fun _ rest => ⟨-1, by omega, by
    have : toG f 0 = fun _ => none := by
      funext i
      unfold toG
      split
      · cases hs : f i with
        | none => rfl
        | some a => have := (hf i a hs).1.1; omega
      · rfl
    simp [cntG, rowsG, Knd.steps, x0G, this]⟩
  | k + 1 => fun hk rest => by
    rw [cntG, rowsG, rowG]
    cases hs : f (k : Int) with
    | none =>
      obtain ⟨la, h1, h2⟩ := steps_write hK (chk := chk) hf k (by omega) rest
      refine ⟨la, by omega, ?_⟩
      have : toG f (k + 1) = toG f k := by
        funext i
        unfold toG
        by_cases e : i = (k : Int)
        · subst e; rw [if_pos (by omega), if_neg (by omega), hs]
        · by_cases e2 : i < (k : Int)
          · rw [if_pos (by omega), if_pos e2]
          · rw [if_neg (by omega), if_neg e2]
      simp only [Option.isSome_none, Bool.false_eq_true, if_false, Nat.add_zero, List.append_nil]
      rw [h2, this]
    | some a =>
      obtain ⟨⟨ha1, ha2⟩, ha3, ha4⟩ := hf k a hs
      obtain ⟨la, h1, h2⟩ := steps_write hK (chk := chk) hf k (by omega) (encN 0 k ++ K.enc a ++ rest)
      have h3 := row_write hK (i := k) (by omega) ha3 rest
      refine ⟨k, by omega, ?_⟩
      simp only [Option.isSome_some, if_true]
      rw [List.append_assoc, Knd.steps, h2]
      unfold Knd.step
      simp only [if_true]
      rw [h3]
      have hk : okG chk ⟨toG f k, la, true, (false, encN 0 k ++ K.enc a ++ rest)⟩ ⟨k, a, true, (false, rest)⟩ = true := by
        simp only [okG, Bool.and_eq_true, decide_eq_true_eq]; exact ⟨⟨trivial, by omega⟩, ha4⟩
      rw [if_pos hk]
      congr 1
      funext i
      unfold setG toG
      by_cases e : i = (k : Int)
      · subst e; rw [if_pos rfl, if_pos (by omega), hs]
      · rw [if_neg e]
        by_cases e2 : i < (k : Int)
        · rw [if_pos e2, if_pos (by omega)]
        · rw [if_neg e2, if_neg (by omega)]
theorem toG_all {f : Int → Option α} {k : Nat} (h : ∀ i a, f i = some a → i < (k : Int)) : toG f k = f := by
  funext i
  unfold toG
  split
  · rfl
  · cases hs : f i with
    | none => rfl
    | some a => have := h i a hs; omega
end
/-- What is read of a shelf. -/
def hasC (f : Int → Option Ca) (c : Co) : Bool := (f c.cal).isSome
def rdA (st : Bool × List UInt8) : RdG Ca := kCal.steps (fun _ => true) (rd3 8 st).1 (x0G (rd3 8 st).2)
def rdB (st : Bool × List UInt8) : RdG Co := kCon.steps (hasC (rdA st).f) (rd3 16 (rdA st).st).1 (x0G (rd3 16 (rdA st).st).2)
def rdShG (st : Bool × List UInt8) : Bool := (rdA st).ok && (rdB st).ok && !(rdB st).st.1
def rdShV (st : Bool × List UInt8) : Shl := ⟨(rdA st).f, (rdB st).f⟩
def rdShS (st : Bool × List UInt8) : Bool × List UInt8 := if rdShG st = true then (rdB st).st else (true, [])
def encS (S : Shl) : List UInt8 := encN 0 (cntG S.cal 8) ++ rowsG encCa S.cal 8 ++ (encN 0 (cntG S.con 16) ++ rowsG encK S.con 16)
theorem rdSh_ok (st : Bool × List UInt8) : (rdShV st).Ok := by
  have hA := steps_in kCal_law (x0G_in kCal (fun _ => true) (rd3 8 st).2) (rd3 8 st).1
  have hB := steps_in kCon_law (x0G_in kCon (hasC (rdA st).f) (rd3 16 (rdA st).st).2) (rd3 16 (rdA st).st).1
  refine ⟨fun i c hc => ?_, fun i c hc => ?_⟩
  · have h := hA.top i c hc
    have h2 : (rdA st).last ≤ 7 := hA.hi
    have h3 : i ≤ (rdA st).last := h.2.1
    exact ⟨⟨h.1, by omega⟩, by have := h.2.2.1; simpa [kCal] using this⟩
  · have h := hB.top i c hc
    have h2 : (rdB st).last ≤ 15 := hB.hi
    have h3 : i ≤ (rdB st).last := h.2.1
    exact ⟨⟨h.1, by omega⟩, h.2.2.1, h.2.2.2⟩
theorem rdSh_split {st : Bool × List UInt8} (h : rdShG st = true) : ∃ l', rdShS st = (false, l') ∧ st.1 = false ∧ st.2 = encS (rdShV st) ++ l' := by
  have h' := h
  simp only [rdShG, Bool.and_eq_true] at h'
  obtain ⟨⟨h1, h2⟩, h3⟩ := h'
  have h3 : (rdB st).st.1 = false := by simpa using h3
  have h4 : (rd3 16 (rdA st).st).2.1 = false := steps_bad kCon_law _ h2 h3
  have h5 : (rdA st).st.1 = false := by
    cases hs : (rdA st).st.1
    · rfl
    · rw [rd3_bad hs] at h4; cases h4
  have h6 : (rd3 8 st).2.1 = false := steps_bad kCal_law _ h1 h5
  have h7 : st.1 = false := by
    cases hs : st.1
    · rfl
    · rw [rd3_bad hs] at h6; cases h6
  have hS : rdShS st = (rdB st).st := by rw [rdShS, if_pos h]
  rw [hS]
  unfold encS rdShV
  simp only
  obtain ⟨v2, b2, l2, q2⟩ := rd3_pair 16 (rdA st).st
  have hB : rdB st = kCon.steps (hasC (rdA st).f) v2 (x0G (b2, l2)) := by unfold rdB; rw [q2]
  rw [q2] at h4
  simp only at h4
  subst h4
  rw [hB] at h2 ⊢
  obtain ⟨l3, e1, e2, e3⟩ := steps_split kCon_law v2 h2
  refine ⟨l3, e1, h7, ?_⟩
  rw [show kCon.m + 1 = 16 from rfl] at e2 e3
  rw [show kCon.enc = encK from rfl] at e2
  rw [e3]
  obtain ⟨b, l⟩ := st
  simp only at h7
  subst h7
  obtain ⟨v1, b1, l1, q1⟩ := rd3_pair 8 (false, l)
  have hA : rdA (false, l) = kCal.steps (fun _ => true) v1 (x0G (b1, l1)) := by unfold rdA; rw [q1]
  rw [q1] at h6
  simp only at h6
  subst h6
  rw [hA] at h1
  obtain ⟨l4, f1, f2, f3⟩ := steps_split kCal_law v1 h1
  rw [← hA] at f1 f2 f3
  rw [show kCal.m + 1 = 8 from rfl] at f2 f3
  rw [show kCal.enc = encCa from rfl] at f2
  rw [f1] at q2
  have s1 := rd3_split q1
  have s2 := rd3_split q2
  generalize (kCon.steps (hasC (rdA (false, l)).f) v2 (x0G (false, l2))).f = fB at *
  generalize (rdA (false, l)).f = fA at *
  rw [f3]
  simp only [List.append_assoc]
  rw [← e2, ← s2, ← f2]
  exact s1
theorem rdSh_write {S : Shl} (h : S.Ok) (rest : List UInt8) : rdShG (false, encS S ++ rest) = true ∧ rdShV (false, encS S ++ rest) = S ∧ rdShS (false, encS S ++ rest) = (false, rest) := by
  have c8 := cntG_le S.cal 8
  have c16 := cntG_le S.con 16
  obtain ⟨la, h1, h2⟩ := steps_write kCal_law (chk := fun _ => true) (f := S.cal) (fun i a hi => ⟨by have := (h.cal i a hi).1; show 0 ≤ i ∧ i ≤ (7 : Int); omega, by simpa [kCal] using (h.cal i a hi).2, rfl⟩) 8 (Nat.le_refl _) (encN 0 (cntG S.con 16) ++ rowsG encK S.con 16 ++ rest)
  rw [toG_all (fun i a hi => (h.cal i a hi).1.2)] at h2
  rw [show kCal.enc = encCa from rfl] at h2
  have hA : rdA (false, encS S ++ rest) = ⟨S.cal, la, true, (false, encN 0 (cntG S.con 16) ++ rowsG encK S.con 16 ++ rest)⟩ := by
    unfold rdA encS
    simp only [List.append_assoc]
    rw [rd3_write 8 (cntG S.cal 8) false _ (by omega) c8]
    simp only
    simp only [List.append_assoc] at h2
    exact h2
  obtain ⟨lb, h3, h4⟩ := steps_write kCon_law (chk := hasC S.cal) (f := S.con) (fun i a hi => ⟨by have := (h.con i a hi).1; show 0 ≤ i ∧ i ≤ (15 : Int); omega, (h.con i a hi).2.1, (h.con i a hi).2.2⟩) 16 (Nat.le_refl _) rest
  rw [toG_all (fun i a hi => (h.con i a hi).1.2)] at h4
  rw [show kCon.enc = encK from rfl] at h4
  have hB : rdB (false, encS S ++ rest) = ⟨S.con, lb, true, (false, rest)⟩ := by
    unfold rdB
    rw [hA]
    simp only [List.append_assoc]
    rw [rd3_write 16 (cntG S.con 16) false _ (by omega) c16]
    simp only
    rw [← h4]
  have hG : rdShG (false, encS S ++ rest) = true := by rw [rdShG, hA, hB]; rfl
  exact ⟨hG, by rw [rdShV, hA, hB], by rw [rdShS, if_pos hG, hB]⟩
end Go.Proofs.YtlcefchbfjfifaaGreat
