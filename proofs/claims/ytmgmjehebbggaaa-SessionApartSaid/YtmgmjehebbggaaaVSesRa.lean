/- Reading a table of sessions, in plain words: the program's rows, the document's. -/
import Derived.Test.YtmgmjehebbggaaaVSesX
namespace Go.Proofs.Ytmgmjehebbggaaa
open Go.RowKit Go.Maps
set_option maxHeartbeats 4000000
set_option maxRecDepth 100000
set_option linter.unusedVariables false

/-- A reply that was read, as the table holds it. -/
def RepN.v (r : RepN) : RpV := ⟨r.code, r.time, r.t.v, r.fired, r.notice, r.dead⟩
/-- Under way: the table, the last client, is all well, the reader. -/
structure RdS where
  s : SesS
  last : Nat
  ok : Bool
  st : Bool × List UInt8
/-- One row, read. -/
structure RowR where
  i : Nat
  q : Nat
  r : RepN
  good : Bool
  st : Bool × List UInt8
def rowR (st : Bool × List UInt8) : RowR :=
  let a := rd3 8 st
  let b := rd3 18446744073709551615 a.2
  let r := rdRep b.2
  ⟨a.1, b.1, (rpRes r).1, rpGood r, (rpRes r).2⟩
def okR (x : RdS) (y : RowR) : Bool := y.good && decide (x.last < y.i) && decide (0 < y.q)
/-- The document's row: it stops at the first that is wrong. -/
def stepR (x : RdS) (y : RowR) : RdS := ⟨setS x.s y.i y.q y.r.v, y.i, true, y.st⟩
def fRow (x : RdS) : RdS := if x.ok = true then (if okR x (rowR x.st) = true then stepR x (rowR x.st) else ⟨x.s, x.last, false, (rowR x.st).st⟩) else x
/-- The program's: it reads on. -/
def pRow (x : RdS) : RdS := if (x.ok && okR x (rowR x.st)) = true then stepR x (rowR x.st) else ⟨x.s, (rowR x.st).i, false, (rowR x.st).st⟩
def fRows : Nat → RdS → RdS
  | 0, x => x
  | k + 1, x => fRow (fRows k x)
def pRows : Nat → RdS → RdS
  | 0, x => x
  | k + 1, x => pRow (pRows k x)
theorem rows_same (x : RdS) : ∀ k, (pRows k x).ok = (fRows k x).ok ∧ ((fRows k x).ok = true → pRows k x = fRows k x)
  | 0 => ⟨rfl, fun _ => rfl⟩
  | k + 1 => by
    obtain ⟨h1, h2⟩ := rows_same x k
    simp only [pRows, fRows]
    by_cases h : (fRows k x).ok = true
    · rw [h2 h]
      unfold pRow fRow
      rw [if_pos h, h, Bool.true_and]
      by_cases h3 : okR (fRows k x) (rowR (fRows k x).st) = true
      · simp only [h3, if_true]; exact ⟨trivial, fun _ => trivial⟩
      · simp only [h3]; exact ⟨rfl, fun h => by cases h⟩
    · have h' : (fRows k x).ok = false := by simpa using h
      rw [h'] at h1
      unfold pRow fRow
      rw [if_neg h, h1, h', Bool.false_and]
      exact ⟨rfl, fun h => by cases h⟩
/-- What is read of a table: the rows, all well. -/
def x0 (st : Bool × List UInt8) : RdS := ⟨fun _ => none, 0, true, st⟩
def rdSesX (st : Bool × List UInt8) : RdS := fRows (rd3 8 st).1 (x0 (rd3 8 st).2)
def rdSesG (st : Bool × List UInt8) : Bool := (rdSesX st).ok && !(rdSesX st).st.1
def rdSesS (st : Bool × List UInt8) : Bool × List UInt8 := if rdSesG st = true then (rdSesX st).st else (true, [])
/-- Between rows. -/
structure RdS.In (x : RdS) : Prop where
  top : ∀ c y, x.s c = some y → c ≤ x.last
  l8 : x.last ≤ 8
  ok : SesOk x.s
  good : SesGood x.s
theorem x0_in (st : Bool × List UInt8) : (x0 st).In :=
  ⟨(fun _ _ h => by cases h), (show 0 ≤ 8 by omega), ⟨(fun _ _ h => by cases h), (fun _ _ _ h => by cases h), (fun _ _ _ h => by cases h)⟩, SesGood.none_⟩
theorem rowR_le (st : Bool × List UInt8) : (rowR st).i ≤ 8 ∧ (rowR st).q < 18446744073709551616 := ⟨rd3_le 8 st, Nat.lt_succ_of_le (rd3_le 18446744073709551615 _)⟩
theorem RepN.v_okp (s : Bool × List UInt8) : (rdRep s).1.v.okp := by
  obtain ⟨h1, h2, h3⟩ := rdRep_ids s
  refine ⟨?_, h1, h2, h3⟩
  have : (rdRep s).1.t.v.ok := by
    simp only [rdRep, rdTk1]
    split
    · exact tkRes_ok _
    · simp only [tkZero, TkN.v, TkV.ok]; omega
  exact this
theorem rpGood_s {s : Bool × List UInt8} (h : rpGood (rdRep s) = true) : rpS (rdRep s).1.v = true := by
  rw [rpGood, Bool.and_eq_true] at h; exact h.2
theorem RdS.In.set {x : RdS} (h : x.In) (hk : okR x (rowR x.st) = true) (st : Bool × List UInt8) : RdS.In ⟨setS x.s (rowR x.st).i (rowR x.st).q (rowR x.st).r.v, (rowR x.st).i, true, st⟩ := by
  simp only [okR, Bool.and_eq_true, decide_eq_true_eq] at hk
  obtain ⟨⟨hg, hl⟩, hq⟩ := hk
  obtain ⟨h8, hq2⟩ := rowR_le x.st
  have hR : (rowR x.st).r = (rdRep (rd3 18446744073709551615 (rd3 8 x.st).2).2).1 := by
    show (rpRes _).1 = _
    have : rpGood (rdRep (rd3 18446744073709551615 (rd3 8 x.st).2).2) = true := hg
    rw [rpRes, if_pos this]
  have hs : rpS (rowR x.st).r.v = true := by rw [hR]; exact rpGood_s hg
  have ho : (rowR x.st).r.v.okp := by rw [hR]; exact RepN.v_okp _
  have h64 := rpS_len hs
  refine ⟨fun c y hc => ?_, h8, ⟨fun c y hc => ?_, fun c q a hc => ?_, fun c q a hc => ?_⟩, h.good.set _ _ _ hs ho⟩
  · simp only [setS] at hc
    split at hc
    · simp only; omega
    · have := h.top c y hc; simp only; omega
  · simp only [setS] at hc
    split at hc
    · omega
    · exact h.ok.who c y hc
  · simp only [setS] at hc
    split at hc
    · injection hc with hc; injection hc with h1 h2; omega
    · exact h.ok.req c q a hc
  · simp only [setS] at hc
    split at hc
    · injection hc with hc; injection hc with h1 h2; subst h2; exact h64
    · exact h.ok.rep c q a hc
theorem fRow_in {x : RdS} (h : x.In) : (fRow x).In := by
  unfold fRow
  split
  · split
    · rename_i hk; exact h.set hk _
    · exact ⟨h.top, h.l8, h.ok, h.good⟩
  · exact h
theorem fRows_in {x : RdS} (h : x.In) : ∀ k, (fRows k x).In
  | 0 => h
  | k + 1 => fRow_in (fRows_in h k)
theorem pRow_in {x : RdS} (h : x.In) : SesOk (pRow x).s ∧ SesGood (pRow x).s := by
  unfold pRow
  split
  · rename_i hk; rw [Bool.and_eq_true] at hk; have := h.set hk.2 (rowR x.st).st; exact ⟨this.ok, this.good⟩
  · exact ⟨h.ok, h.good⟩
/-- Rows above all others. -/
theorem rowsB_set {s : SesS} {i q : Nat} {a : RpV} (h0 : s i = none) (hi : 0 < i) (h : ∀ c y, s c = some y → c < i) : ∀ k, (k < i → rowsB (setS s i q a) k = rowsB s k ∧ cntB (setS s i q a) k = cntB s k) ∧ (i ≤ k → rowsB (setS s i q a) k = rowsB s k ++ (encN 0 i ++ encN 0 q ++ repB a) ∧ cntB (setS s i q a) k = cntB s k + 1)
  | 0 => ⟨fun _ => ⟨rfl, rfl⟩, fun h => by omega⟩
  | k + 1 => by
    obtain ⟨h1, h2⟩ := rowsB_set h0 hi h k
    refine ⟨fun hk => ?_, fun hk => ?_⟩
    · obtain ⟨e1, e2⟩ := h1 (by omega)
      have : setS s i q a (k + 1) = s (k + 1) := by rw [setS, if_neg (by omega)]
      rw [rowsB, rowsB, cntB, cntB, rowB, rowB, e1, e2, this]; exact ⟨rfl, rfl⟩
    · by_cases e : k + 1 = i
      · obtain ⟨e1, e2⟩ := h1 (by omega)
        subst e
        have : setS s (k + 1) q a (k + 1) = some (q, a) := by rw [setS, if_pos rfl]
        rw [rowsB, rowsB, cntB, cntB, rowB, rowB, e1, e2, this, h0]; simp
      · obtain ⟨e1, e2⟩ := h2 (by omega)
        have h3 : s (k + 1) = none := by
          cases hs : s (k + 1) with
          | none => rfl
          | some y => have := h _ _ hs; omega
        have : setS s i q a (k + 1) = none := by rw [setS, if_neg e, h3]
        rw [rowsB, rowsB, cntB, cntB, rowB, rowB, e1, e2, this, h3]; simp
theorem rdTk_false {s : Bool × List UInt8} (h : (rdTk s).2.1 = false) : s.1 = false := by
  cases hs : s.1
  · rfl
  · exfalso
    have : (rdTk s).2.1 = true := by simp only [rdTk]; exact rd3_bad (rd3_bad (rd3_bad (rd3_bad (rd3_bad (rd3_bad (rd3_bad (rd3_bad (rd3_bad hs))))))))
    rw [h] at this; cases this
theorem rd3_false {m : Nat} {s : Bool × List UInt8} (h : (rd3 m s).2.1 = false) : s.1 = false := by
  cases hs : s.1
  · rfl
  · rw [rd3_bad hs] at h; cases h
theorem rdRep_false {s : Bool × List UInt8} (h : (rdRep s).2.1 = false) : s.1 = false := by
  simp only [rdRep] at h
  have h1 := rd3_false (rd3_false h)
  have h2 : (rd3 64 (rdTk1 (rd3 1 (rdI (rd3 99 s).2).2)).2).2.1 = false := by
    cases hb : (rd3 64 (rdTk1 (rd3 1 (rdI (rd3 99 s).2).2)).2).2.1
    · rfl
    · rw [rdFired_bad _ hb] at h1; cases h1
  have h3 := rd3_false h2
  have h4 : (rd3 1 (rdI (rd3 99 s).2).2).2.1 = false := rdTk1_false (t := (rdTk1 (rd3 1 (rdI (rd3 99 s).2).2)).1) (l := (rdTk1 (rd3 1 (rdI (rd3 99 s).2).2)).2.2) (by rw [← h3])
  have h5 := rd3_false h4
  exact rd3_false (rdI_ok (v := (rdI (rd3 99 s).2).1) (l := (rdI (rd3 99 s).2).2.2) (by rw [← h5]))
theorem repB_v (r : RepN) : repB r.v = r.bytes := by
  simp [repB, RepN.bytes, RepN.v, TkN.v]
/-- A row that is well, as bytes. -/
theorem rowR_split {st : Bool × List UInt8} (hg : (rowR st).good = true) : st.1 = false ∧ (rowR st).st.1 = false ∧ st.2 = encN 0 (rowR st).i ++ encN 0 (rowR st).q ++ repB (rowR st).r.v ++ (rowR st).st.2 := by
  have hg' : rpGood (rdRep (rd3 18446744073709551615 (rd3 8 st).2).2) = true := hg
  have hR : rpRes (rdRep (rd3 18446744073709551615 (rd3 8 st).2).2) = rdRep (rd3 18446744073709551615 (rd3 8 st).2).2 := by rw [rpRes, if_pos hg']
  have e1 : (rowR st).r = (rdRep (rd3 18446744073709551615 (rd3 8 st).2).2).1 := by show (rpRes _).1 = _; rw [hR]
  have e2 : (rowR st).st = (rdRep (rd3 18446744073709551615 (rd3 8 st).2).2).2 := by show (rpRes _).2 = _; rw [hR]
  obtain ⟨h1, h2⟩ := rpGood_ok hg'
  have h3 := rdRep_false h1
  have h4 := rd3_false h3
  have h5 := rd3_false h4
  refine ⟨h5, by rw [e2]; exact h1, ?_⟩
  rw [e1, e2, repB_v]
  show st.2 = encN 0 (rd3 8 st).1 ++ encN 0 (rd3 18446744073709551615 (rd3 8 st).2).1 ++ _ ++ _
  obtain ⟨b, l⟩ := st
  simp only at h5
  subst h5
  obtain ⟨v1, b1, l1, q1⟩ := rd3_pair 8 (false, l)
  rw [q1] at h1 h2 h3 h4 ⊢
  simp only at h1 h2 h3 h4 ⊢
  subst h4
  obtain ⟨v2, b2, l2, q2⟩ := rd3_pair 18446744073709551615 (false, l1)
  rw [q2] at h1 h2 h3 ⊢
  simp only at h1 h2 h3 ⊢
  subst h3
  have h6 := rdRep_split (l := l2) (l' := (rdRep (false, l2)).2.2) (r := (rdRep (false, l2)).1) (Prod.ext rfl (Prod.ext h1 rfl)) (by rw [h2.time]; omega)
  rw [rd3_split q1, rd3_split q2, List.append_assoc, List.append_assoc, ← h6]
/-- All rows well: their bytes. -/
theorem fRows_split {l : List UInt8} : ∀ k, (fRows k (x0 (false, l))).ok = true → ∃ l', (fRows k (x0 (false, l))).st = (false, l') ∧ l = rowsB (fRows k (x0 (false, l))).s 8 ++ l' ∧ cntB (fRows k (x0 (false, l))).s 8 = k
  | 0 => fun _ => ⟨l, rfl, by simp [fRows, x0, rowsB, rowB], by simp [fRows, x0, cntB]⟩
  | k + 1 => fun h => by
    have hin := fRows_in (x0_in (false, l)) k
    simp only [fRows] at h ⊢
    generalize hx : fRows k (x0 (false, l)) = x at *
    have hxo : x.ok = true := by
      cases hb : x.ok
      · unfold fRow at h; rw [if_neg (by rw [hb]; simp), hb] at h; cases h
      · rfl
    obtain ⟨l1, e1, e2, e3⟩ := fRows_split (l := l) k (by rw [hx]; exact hxo)
    rw [hx] at e1 e2 e3
    unfold fRow at h ⊢
    rw [if_pos hxo] at h ⊢
    by_cases hk : okR x (rowR x.st) = true
    · rw [if_pos hk]
      simp only [stepR]
      have hk' := hk
      simp only [okR, Bool.and_eq_true, decide_eq_true_eq] at hk'
      obtain ⟨⟨hg, hl⟩, hq⟩ := hk'
      obtain ⟨a1, a2, a3⟩ := rowR_split hg
      have h8 := (rowR_le x.st).1
      have hn : x.s (rowR x.st).i = none := by
        cases hs : x.s (rowR x.st).i with
        | none => rfl
        | some y => have := hin.top _ _ hs; omega
      obtain ⟨b1, b2⟩ := (rowsB_set (q := (rowR x.st).q) (a := (rowR x.st).r.v) hn (by omega) (fun c y hc => by have := hin.top c y hc; omega) 8).2 h8
      refine ⟨(rowR x.st).st.2, by rw [← a2], ?_, by rw [b2, e3]⟩
      rw [b1, e2]
      rw [e1] at a3
      simp only at a3
      rw [e1]
      rw [List.append_assoc, ← a3]
    · rw [if_neg hk] at h; cases h
theorem rdSes_split {st : Bool × List UInt8} (h : rdSesG st = true) : ∃ l', rdSesS st = (false, l') ∧ st.1 = false ∧ st.2 = encS (rdSesX st).s ++ l' := by
  have h' := h
  simp only [rdSesG, Bool.and_eq_true] at h'
  obtain ⟨h1, h2⟩ := h'
  have h2 : (rdSesX st).st.1 = false := by simpa using h2
  have h3 : (rd3 8 st).2.1 = false := by
    have : ∀ k x, (fRows k x).ok = true → x.ok = true → (fRows k x).st.1 = false → x.st.1 = false := by
      intro k
      induction k with
      | zero => intro x _ _ h; exact h
      | succ k ih =>
        intro x a b c
        simp only [fRows] at a c
        have hk : (fRows k x).ok = true := by
          cases hb : (fRows k x).ok
          · unfold fRow at a; rw [if_neg (by rw [hb]; simp), hb] at a; cases a
          · rfl
        refine ih x hk b ?_
        unfold fRow at a
        rw [if_pos hk] at a
        split at a
        · rename_i ho
          simp only [okR, Bool.and_eq_true, decide_eq_true_eq] at ho
          exact (rowR_split ho.1.1).1
        · cases a
    exact this _ _ h1 rfl h2
  have h4 := rd3_false h3
  obtain ⟨b, l⟩ := st
  simp only at h4
  subst h4
  obtain ⟨v1, b1, l1, q1⟩ := rd3_pair 8 (false, l)
  unfold rdSesS
  rw [if_pos h]
  unfold rdSesX at h1 h2 ⊢
  rw [q1] at h1 h2 h3 ⊢
  simp only at h1 h2 h3 ⊢
  subst h3
  obtain ⟨l', e1, e2, e3⟩ := fRows_split v1 h1
  refine ⟨l', e1, trivial, ?_⟩
  rw [encS, e3, List.append_assoc, ← e2]
  exact rd3_split q1
/-- A table that was written is read as it was. -/
def toS (s : SesS) (m : Nat) : SesS := fun c => if c ≤ m then s c else none
theorem toS_8 {s : SesS} (h : SesOk s) : toS s 8 = s := by
  funext c
  unfold toS
  split
  · rfl
  · cases hs : s c with
    | none => rfl
    | some y => have := h.who c y hs; omega
theorem rowR_write {i q : Nat} {a : RpV} (hi : i ≤ 8) (hq : q < 18446744073709551616) (hs : rpS a = true) (ho : a.okp) (l : List UInt8) : ∃ r, rowR (false, encN 0 i ++ encN 0 q ++ repB a ++ l) = ⟨i, q, r, true, (false, l)⟩ ∧ r.v = a := by
  obtain ⟨code, tm, t, dead, e, hk⟩ := sound_is hs ho.2.1 ho.2.2.1 ho.2.2.2
  refine ⟨⟨code, tm, t, a.fired, a.notice, dead⟩, ?_, by rw [e]; rfl⟩
  have hb : repB a = (RepN.mk code tm t a.fired a.notice dead).bytes := by rw [← repB_v]; rw [e]; rfl
  have hw := rdRep_write hk l
  have hg := rpGood_of hk l
  rw [hb]
  unfold rowR
  rw [List.append_assoc, List.append_assoc, rd3_write 8 i false _ (by omega) hi]
  simp only
  rw [rd3_write _ q false _ (by omega) (by omega)]
  simp only
  rw [hw, rpRes, hg]
  rfl
theorem fRows_write {s : SesS} (hok : SesOk s) (hgd : SesGood s) : ∀ m, m ≤ 8 → ∀ rest, ∃ lm, lm ≤ m ∧ fRows (cntB s m) (x0 (false, rowsB s m ++ rest)) = ⟨toS s m, lm, true, (false, rest)⟩
  | 0 => fun _ rest => ⟨0, Nat.le_refl _, by
    have : toS s 0 = fun _ => none := by
      funext c
      unfold toS
      split
      · rename_i h
        cases hs : s c with
        | none => rfl
        | some y => have := hok.who c y hs; omega
      · rfl
    simp [cntB, rowsB, fRows, x0, this]⟩
  | m + 1 => fun hm rest => by
    rw [cntB, rowsB, rowB]
    cases hs : s (m + 1) with
    | none =>
      obtain ⟨lm, h1, h2⟩ := fRows_write hok hgd m (by omega) rest
      refine ⟨lm, by omega, ?_⟩
      have : toS s (m + 1) = toS s m := by
        funext c
        unfold toS
        by_cases e : c = m + 1
        · subst e; rw [if_pos (Nat.le_refl _), if_neg (by omega), hs]
        · by_cases e2 : c ≤ m
          · rw [if_pos (by omega), if_pos e2]
          · rw [if_neg (by omega), if_neg e2]
      simp only [Option.isSome_none, Bool.false_eq_true, if_false, Nat.add_zero, List.append_nil]
      rw [h2, this]
    | some y =>
      obtain ⟨q, a⟩ := y
      obtain ⟨hsa, hoa⟩ := hgd (m + 1) q a hs
      obtain ⟨hq1, hq2⟩ := hok.req (m + 1) q a hs
      obtain ⟨lm, h1, h2⟩ := fRows_write hok hgd m (by omega) (encN 0 (m + 1) ++ encN 0 q ++ repB a ++ rest)
      obtain ⟨r, h3, h4⟩ := rowR_write (show m + 1 ≤ 8 from hm) hq2 hsa hoa rest
      refine ⟨m + 1, Nat.le_refl _, ?_⟩
      simp only [Option.isSome_some, if_true]
      rw [List.append_assoc, fRows, h2]
      unfold fRow
      simp only [if_true]
      rw [h3]
      have hk : okR ⟨toS s m, lm, true, (false, encN 0 (m + 1) ++ encN 0 q ++ repB a ++ rest)⟩ ⟨m + 1, q, r, true, (false, rest)⟩ = true := by
        simp only [okR, Bool.and_eq_true, decide_eq_true_eq]; exact ⟨⟨trivial, by omega⟩, by omega⟩
      rw [if_pos hk, stepR]
      simp only
      rw [h4]
      congr 1
      funext c
      unfold setS toS
      by_cases e : c = m + 1
      · subst e; rw [if_pos rfl, if_pos (Nat.le_refl _), hs]
      · rw [if_neg e]
        by_cases e2 : c ≤ m
        · rw [if_pos e2, if_pos (by omega)]
        · rw [if_neg e2, if_neg (by omega)]
theorem rdSes_write {s : SesS} (hok : SesOk s) (hgd : SesGood s) (rest : List UInt8) : rdSesG (false, encS s ++ rest) = true ∧ (rdSesX (false, encS s ++ rest)).s = s ∧ rdSesS (false, encS s ++ rest) = (false, rest) := by
  have hc := cntB_le s 8
  obtain ⟨lm, h1, h2⟩ := fRows_write hok hgd 8 (Nat.le_refl _) rest
  have hX : rdSesX (false, encS s ++ rest) = ⟨s, lm, true, (false, rest)⟩ := by
    unfold rdSesX
    rw [encS, List.append_assoc, rd3_write 8 (cntB s 8) false _ (by omega) hc]
    simp only
    rw [h2, toS_8 hok]
  have hG : rdSesG (false, encS s ++ rest) = true := by rw [rdSesG, hX]; rfl
  exact ⟨hG, by rw [hX], by rw [rdSesS, if_pos hG, hX]⟩
end Go.Proofs.Ytmgmjehebbggaaa
