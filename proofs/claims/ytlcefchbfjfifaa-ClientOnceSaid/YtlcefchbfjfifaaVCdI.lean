/- Reading a command: the plain law; what is written is read as it was, what is read is written as it was. -/
import Derived.Test.YtlcefchbfjfifaaVCdG
import Derived.Test.YtlcefchbfjfifaaVCtD
import Derived.Test.YtlcefchbfjfifaaVCcE
import Derived.Test.YtlcefchbfjfifaaVCcF
import Derived.Test.YtlcefchbfjfifaaVRdY
namespace Go.Proofs.Ytlcefchbfjfifaa
open Go.RowKit Cal
set_option maxHeartbeats 4000000
set_option maxRecDepth 100000
set_option linter.unusedVariables false

theorem rdSt_ok {l : List UInt8} {b : Bool} : ∀ n, (rdSt l b n).2.2 = false → b = false
  | 0, h => h
  | n + 1, h => by
    rw [rdSt_succ] at h
    simp only at h
    refine rdSt_ok (l := l) n ?_
    cases h1 : (rdSt l b n).2.2
    · rfl
    · rw [h1, rdNum_bad, rdNum_bad] at h; cases h
theorem rdSt_split {l : List UInt8} : ∀ n, (rdSt l false n).2.2 = false → l = encSps (rdSt l false n).1 ++ (rdSt l false n).2.1
  | 0, _ => by simp [rdSt, encSps]
  | n + 1, h => by
    have hs := rdSt_succ l false n
    rw [hs] at h ⊢
    simp only at h ⊢
    cases h1 : (rdSt l false n).2.2
    · have ih := rdSt_split n h1
      rw [h1] at h
      generalize rdSt l false n = q at *
      obtain ⟨L, l2, b2⟩ := q
      simp only at *
      obtain ⟨f, b3, l3, e1⟩ := rd3_pair 1125899906842624 (false, l2)
      have e1' := e1
      simp only [rd3, Prod.mk.injEq] at e1'
      obtain ⟨f1, f2, f3⟩ := e1'
      rw [f2, f3] at h
      cases b3
      · obtain ⟨t, b4, l4, e2⟩ := rd3_pair 1125899906842624 (false, l3)
        have e2' := e2
        simp only [rd3, Prod.mk.injEq] at e2'
        obtain ⟨g1, g2, g3⟩ := e2'
        rw [g2] at h
        subst h
        rw [f1, f2, f3, g1, g3]
        have s1 := rd3_split e1
        have s2 := rd3_split e2
        rw [ih, s1, s2]
        simp [encSps, encS2, encs]
      · rw [rdNum_bad] at h; cases h
    · rw [h1, rdNum_bad, rdNum_bad] at h; cases h
theorem rdRow_ok {l : List UInt8} {b : Bool} (h : (rdRow b l).2.2 = false) : b = false := by
  cases b
  · rfl
  · have := rdSt_ok (l := (rdNum 32 false true l).left) _ h
    rw [rdNum_bad] at this; cases this
theorem rdRow_split {l : List UInt8} (h : (rdRow false l).2.2 = false) : l = encRow (rdRow false l).1 ++ (rdRow false l).2.1 := by
  obtain ⟨n, b1, l1, e⟩ := rd3_pair 32 (false, l)
  have e' := e
  simp only [rd3, Prod.mk.injEq] at e'
  obtain ⟨f1, f2, f3⟩ := e'
  have hr : rdRow false l = rdSt l1 b1 n := by unfold rdRow; rw [f1, f2, f3]
  rw [hr] at h ⊢
  have hb := rdSt_ok (l := l1) _ h
  subst hb
  have s1 := rd3_split e
  have s2 := rdSt_split n h
  have hl := rdSt_len l1 false n
  rw [encRow, hl]
  generalize rdSt l1 false n = q at *
  rw [s1, s2]
  simp [encs]
theorem rdRes_split {l : List UInt8} (h : (rdRes false l).bad = false) : l = encCa (rdRes false l).c ++ (rdRes false l).left ∧ (rdRes false l).ok = true := by
  cases hk : rdOkC false l
  · rw [rdRes, hk] at h; cases h
  · have hr : rdRes false l = ⟨rdCa false l, true, (rdC2 false l).2.1, false⟩ := by rw [rdRes, hk]; rfl
    rw [hr]
    refine ⟨?_, rfl⟩
    simp only [rdOkC, Bool.and_eq_true, Bool.not_eq_true', decide_eq_true_eq] at hk
    have h2 : (rdC2 false l).2.2 = false := hk.1
    have h1 : (rdC1 false l).2.2 = false := rdRow_ok h2
    have h0 : (rdNum 9223372036854775807 true false l).bad = false := rdRow_ok h1
    have s0 := rdI_split (l := l) (v := rdInt false l) (l' := (rdNum 9223372036854775807 true false l).left) (by rw [rdI, h0])
    have e1 : rdC1 false l = rdRow false (rdNum 9223372036854775807 true false l).left := by rw [rdC1, h0]
    have e2 : rdC2 false l = rdRow false (rdC1 false l).2.1 := by rw [rdC2, h1]
    rw [e1] at h1 e2
    have s1 := rdRow_split h1
    rw [e2] at h2
    have s2 := rdRow_split h2
    rw [rdCa, e2, e1]
    generalize rdInt false l = o at *
    generalize (rdNum 9223372036854775807 true false l).left = l0 at *
    generalize rdRow false l0 = q at *
    generalize rdRow false q.2.1 = q2 at *
    show l = encCa ⟨o, q.1, q2.1⟩ ++ q2.2.1
    rw [s0, s1, s2]
    simp [encCa, encIs]
theorem rdRes_bad1 (l : List UInt8) : (rdRes true l).bad = true := by
  cases hk : rdOkC true l
  · rw [rdRes, hk]; rfl
  · simp only [rdOkC, Bool.and_eq_true, Bool.not_eq_true', decide_eq_true_eq] at hk
    have h1 : (rdC1 true l).2.2 = false := rdRow_ok hk.1
    have h0 : (rdNum 9223372036854775807 true true l).bad = false := rdRow_ok h1
    rw [rdNum_bad] at h0; cases h0
theorem rdLv_split : ∀ (k : Nat) {l l' : List UInt8} {xs : List Sp}, rdLv k (false, l) = (xs, false, l') → l = encSps xs ++ l'
  | 0, l, l', xs, h => by
    injection h with h1 h2
    injection h2 with h2 h3
    subst h1 h3
    simp [encSps]
  | k + 1, l, l', xs, h => by
    obtain ⟨ys, b1, l1, e1⟩ : ∃ ys b1 l1, rdLv k (false, l) = (ys, b1, l1) := ⟨_, _, _, rfl⟩
    obtain ⟨f, b2, l2, e2⟩ := rd3_pair 1125899906842624 (b1, l1)
    obtain ⟨t, b3, l3, e3⟩ := rd3_pair 7 (b2, l2)
    have hs := rdLv_step e1 e2 e3
    rw [hs] at h
    injection h with h1 h2
    injection h2 with h2 h3
    subst h1 h2 h3
    have hb2 := rd3_ok e3
    simp only at hb2
    subst hb2
    have hb1 := rd3_ok e2
    simp only at hb1
    subst hb1
    have s1 := rdLv_split k e1
    have s2 := rd3_split e2
    have s3 := rd3_split e3
    rw [s1, s2, s3]
    simp [encSps, encS2, encs]
theorem rdLv_ok {k : Nat} {s : Bool × List UInt8} {xs : List Sp} {l : List UInt8} (h : rdLv k s = (xs, false, l)) : s.1 = false := by
  cases hs : s.1
  · rfl
  · have := rdLv_bad k hs; rw [h] at this; cases this
theorem rdCon_split {l l' : List UInt8} {c : Co} (h : rdCon (false, l) = (c, false, l')) : l = encK c ++ l' := by
  obtain ⟨a, b1, l1, e1⟩ := rd3_pair 7 (false, l)
  obtain ⟨n, b2, l2, e2⟩ := rd3_pair 6 (b1, l1)
  obtain ⟨xs, b3, l3, e3⟩ : ∃ xs b3 l3, rdLv n (b2, l2) = (xs, b3, l3) := ⟨_, _, _, rfl⟩
  obtain ⟨r, b4, l4, e4⟩ := rd3_pair 8 (b3, l3)
  obtain ⟨k, b5, l5, e5⟩ := rd3_pair 1048576 (b4, l4)
  have hr : rdCon (false, l) = (⟨a, xs, r, k⟩, b5, l5) := by simp only [rdCon, e1, e2, e3, e4, e5]
  rw [hr] at h
  injection h with h1 h2
  injection h2 with h2 h3
  subst h1 h2 h3
  have hb4 := rd3_ok e5; simp only at hb4; subst hb4
  have hb3 := rd3_ok e4; simp only at hb3; subst hb3
  have hb2 := rdLv_ok e3; simp only at hb2; subst hb2
  have hb1 := rd3_ok e2; simp only at hb1; subst hb1
  have hl := rdLv_len n (false, l2)
  rw [e3] at hl
  simp only at hl
  have s1 := rd3_split e1; have s2 := rd3_split e2; have s3 := rdLv_split n e3; have s4 := rd3_split e4; have s5 := rd3_split e5
  rw [s1, s2, s3, s4, s5]
  simp [encK, encs, hl]
theorem rdCon_ok {s : Bool × List UInt8} (h : (rdCon s).2.1 = false) : s.1 = false := by
  cases hs : s.1
  · rfl
  · have : (rdCon s).2.1 = true := rd3_bad (rd3_bad (rdLv_bad _ (rd3_bad (rd3_bad hs))))
    rw [this] at h; cases h
theorem conRes_ok {r : Co × Bool × List UInt8} (h : (conRes r).2.1 = false) : conRes r = r ∧ r.2.1 = false := by
  unfold conRes at h ⊢
  split at h
  · rename_i hg; rw [if_pos hg]; exact ⟨rfl, h⟩
  · cases h
theorem rdLv_write (L : List Sp) (rest : List UInt8) (hb : ∀ s ∈ L, 1 ≤ s.f ∧ s.f ≤ 1125899906842624 ∧ 0 ≤ s.t ∧ s.t ≤ 7) : ∀ j, j ≤ L.length → rdLv j (false, encSps L ++ rest) = (L.take j, false, encSps (L.drop j) ++ rest)
  | 0, _ => by simp [rdLv]
  | j + 1, h => by
    have ih := rdLv_write L rest hb j (by omega)
    have hs := List.drop_eq_getElem_cons (l := L) (i := j) (by omega)
    have hbs := hb _ (List.getElem_mem (show j < L.length by omega))
    have ht := List.take_succ_eq_append_getElem (show j < L.length by omega)
    generalize L[j]'_ = s at *
    obtain ⟨f, t⟩ := s
    simp only at hbs
    obtain ⟨b1, b2, b3, b4⟩ := hbs
    obtain ⟨f, rfl⟩ : ∃ f' : Nat, f = (f' : Int) := ⟨f.toNat, by omega⟩
    obtain ⟨t, rfl⟩ : ∃ t' : Nat, t = (t' : Int) := ⟨t.toNat, by omega⟩
    have e : encSps (L.drop j) ++ rest = encN 0 f ++ (encN 0 t ++ (encSps (L.drop (j + 1)) ++ rest)) := by
      rw [hs]; simp [encSps, encS2, encs]
    rw [e] at ih
    have h1 := rd3_write 1125899906842624 f false (encN 0 t ++ (encSps (L.drop (j + 1)) ++ rest)) (by omega) (by omega)
    have h2 := rd3_write 7 t false (encSps (L.drop (j + 1)) ++ rest) (by omega) (by omega)
    rw [rdLv_step ih h1 h2, ht]
theorem rdCon_write {c : Co} (hg : goodB c = true) (rest : List UInt8) : rdCon (false, encK c ++ rest) = (c, false, rest) := by
  obtain ⟨b1, b2, b3, b4, b5, b6, b7, b8⟩ := good_hd hg
  have hl := good_lv hg
  obtain ⟨cal, lv, rt, bk⟩ := c
  simp only at *
  obtain ⟨cal, rfl⟩ : ∃ k : Nat, cal = (k : Int) := ⟨cal.toNat, by omega⟩
  obtain ⟨rt, rfl⟩ : ∃ k : Nat, rt = (k : Int) := ⟨rt.toNat, by omega⟩
  obtain ⟨bk, rfl⟩ : ∃ k : Nat, bk = (k : Int) := ⟨bk.toNat, by omega⟩
  have e : encK ⟨cal, lv, rt, bk⟩ ++ rest = encN 0 cal ++ (encN 0 lv.length ++ (encSps lv ++ (encN 0 rt ++ (encN 0 bk ++ rest)))) := by simp [encK, encs]
  rw [e]
  have h1 := rd3_write 7 cal false (encN 0 lv.length ++ (encSps lv ++ (encN 0 rt ++ (encN 0 bk ++ rest)))) (by omega) (by omega)
  have h2 := rd3_write 6 lv.length false (encSps lv ++ (encN 0 rt ++ (encN 0 bk ++ rest))) (by omega) (by omega)
  have h3 := rdLv_write lv (encN 0 rt ++ (encN 0 bk ++ rest)) hl lv.length (Nat.le_refl _)
  rw [List.take_length, List.drop_length] at h3
  rw [show encSps [] = [] from rfl, List.nil_append] at h3
  have h4 := rd3_write 8 rt false (encN 0 bk ++ rest) (by omega) (by omega)
  have h5 := rd3_write 1048576 bk false rest (by omega) (by omega)
  simp only [rdCon, h1, h2, h3, h4, h5]

/-- What stands behind the kind, the client and the number of the request. -/
def rdBody (kd cl rq : Nat) (s : Bool × List UInt8) : Cm × Bool × List UInt8 :=
  let i := bif fid kd then rd3 18446744073709551615 s else (0, s)
  bif fcal kd then (⟨kd, cl, rq, i.1, 0, 0, (rdRes i.2.1 i.2.2).c, coZ⟩, (rdRes i.2.1 i.2.2).bad, (rdRes i.2.1 i.2.2).left)
  else bif ftm kd then (⟨kd, cl, rq, i.1, 0, 0, caZ, (conRes (rdCon i.2)).1⟩, (conRes (rdCon i.2)).2)
  else bif fcon kd then (⟨kd, cl, rq, i.1, (rd3 15 i.2).1, 0, caZ, coZ⟩, (rd3 15 i.2).2)
  else bif fat kd then (⟨kd, cl, rq, i.1, 0, (rdI i.2).1, caZ, coZ⟩, (rdI i.2).2)
  else (⟨kd, cl, rq, i.1, 0, 0, caZ, coZ⟩, i.2)
def rdCmd (s : Bool × List UInt8) : Cm × Bool × List UInt8 :=
  rdBody (rd3 12 s).1 (rd3 8 (rd3 12 s).2).1 (rd3 18446744073709551615 (rd3 8 (rd3 12 s).2).2).1 (rd3 18446744073709551615 (rd3 8 (rd3 12 s).2).2).2
def cmGood (r : Cm × Bool × List UInt8) : Bool := !r.2.1 && r.2.2.isEmpty && cmSound r.1
/-- What reading bytes as a command answers. -/
def rdAns (l : List UInt8) : Cm × Int := if 2048 < l.length then (cmZ, 21) else bif cmGood (rdCmd (false, l)) then ((rdCmd (false, l)).1, 0) else (cmZ, 20)
theorem rdAns_no {l : List UInt8} (h : l.length ≤ 2048) (hg : cmGood (rdCmd (false, l)) = false) : rdAns l = (cmZ, 20) := by rw [rdAns, if_neg (by omega), hg]; rfl
theorem rdAns_yes {l : List UInt8} (h : l.length ≤ 2048) (hg : cmGood (rdCmd (false, l)) = true) : rdAns l = ((rdCmd (false, l)).1, 0) := by rw [rdAns, if_neg (by omega), hg]; rfl
theorem rdBody_split {kd cl rq : Nat} {l : List UInt8} (h : (rdBody kd cl rq (false, l)).2.1 = false) (he : (rdBody kd cl rq (false, l)).2.2 = []) (hn : named kd = true) :
    encs [kd, cl, rq] ++ l = encC (rdBody kd cl rq (false, l)).1 := by
  obtain ⟨i, b, l1, hi, hs⟩ : ∃ i b l1, (bif fid kd then rd3 18446744073709551615 (false, l) else (0, false, l)) = (i, b, l1) ∧ (b = false → l = (bif fid (kd : Int) then encs [i] else []) ++ l1) := by
    cases hf : fid kd
    · exact ⟨0, false, l, rfl, fun _ => by simp⟩
    · obtain ⟨i, b, l1, e⟩ := rd3_pair 18446744073709551615 (false, l)
      refine ⟨i, b, l1, by simpa using e, fun hb => ?_⟩
      subst hb
      have := rd3_split e
      simpa [encs] using this
  have hr : rdBody kd cl rq (false, l) = (bif fcal kd then (⟨kd, cl, rq, i, 0, 0, (rdRes b l1).c, coZ⟩, (rdRes b l1).bad, (rdRes b l1).left)
      else bif ftm kd then (⟨kd, cl, rq, i, 0, 0, caZ, (conRes (rdCon (b, l1))).1⟩, (conRes (rdCon (b, l1))).2)
      else bif fcon kd then (⟨kd, cl, rq, i, (rd3 15 (b, l1)).1, 0, caZ, coZ⟩, (rd3 15 (b, l1)).2)
      else bif fat kd then (⟨kd, cl, rq, i, 0, (rdI (b, l1)).1, caZ, coZ⟩, (rdI (b, l1)).2)
      else (⟨kd, cl, rq, i, 0, 0, caZ, coZ⟩, b, l1)) := by
    simp only [rdBody, hi]
  rw [hr] at h he ⊢
  clear hr hi
  cases h1 : fcal kd
  · rw [h1] at h he
    simp only [cond_false] at h he ⊢
    cases h2 : ftm kd
    · rw [h2] at h he
      simp only [cond_false] at h he ⊢
      cases h3 : fcon kd
      · rw [h3] at h he
        simp only [cond_false] at h he ⊢
        cases h4 : fat kd
        · rw [h4] at h he
          simp only [cond_false] at h he ⊢
          subst h he
          rw [hs rfl]
          simp [encC, h1, h2, h3, h4]
        · rw [h4] at h he
          simp only [cond_true] at h he ⊢
          obtain ⟨v, b2, l2, e⟩ : ∃ v b2 l2, rdI (b, l1) = (v, b2, l2) := ⟨_, _, _, rfl⟩
          rw [e] at h he ⊢
          simp only at h he ⊢
          subst h he
          have hb := rdI_ok e
          simp only at hb
          subst hb
          have s := rdI_split e
          rw [hs rfl, s]
          simp [encC, h1, h2, h3, h4, encIs]
      · rw [h3] at h he
        simp only [cond_true] at h he ⊢
        obtain ⟨v, b2, l2, e⟩ := rd3_pair 15 (b, l1)
        rw [e] at h he ⊢
        simp only at h he ⊢
        subst h he
        have hb := rd3_ok e
        simp only at hb
        subst hb
        have s := rd3_split e
        rw [hs rfl, s]
        simp [encC, h1, h2, h3, encs]
    · rw [h2] at h he
      simp only [cond_true] at h he ⊢
      obtain ⟨e1, e2⟩ := conRes_ok h
      rw [e1] at he ⊢
      have hb := rdCon_ok e2
      simp only at hb
      subst hb
      obtain ⟨c, b2, l2, e⟩ : ∃ c b2 l2, rdCon (false, l1) = (c, b2, l2) := ⟨_, _, _, rfl⟩
      rw [e] at he e2 ⊢
      simp only at he e2 ⊢
      subst he e2
      have s := rdCon_split e
      rw [hs rfl, s]
      simp [encC, h1, h2]
  · rw [h1] at h he
    simp only [cond_true] at h he ⊢
    cases b
    · obtain ⟨s, -⟩ := rdRes_split h
      rw [he, List.append_nil] at s
      rw [hs rfl]
      generalize (rdRes false l1).c = c at *
      rw [s]
      simp [encC, h1]
    · rw [rdRes_bad1] at h; cases h
theorem rdBody_kind (kd cl rq : Nat) (s : Bool × List UInt8) : (rdBody kd cl rq s).1.kind = kd ∧ (rdBody kd cl rq s).1.client = cl ∧ (rdBody kd cl rq s).1.req = rq := by
  simp only [rdBody]
  cases fcal (kd : Int) <;> cases ftm (kd : Int) <;> cases fcon (kd : Int) <;> cases fat (kd : Int) <;> exact ⟨rfl, rfl, rfl⟩
theorem rdBody_bad (kd cl rq : Nat) (l : List UInt8) : (rdBody kd cl rq (true, l)).2.1 = true := by
  have hi : (bif fid kd then rd3 18446744073709551615 (true, l) else (0, true, l)).2.1 = true := by
    cases fid (kd : Int)
    · rfl
    · exact rd3_bad rfl
  simp only [rdBody]
  generalize (bif fid kd then rd3 18446744073709551615 (true, l) else (0, true, l)) = i at *
  obtain ⟨i, b, l1⟩ := i
  simp only at hi
  subst hi
  cases fcal (kd : Int)
  · cases ftm (kd : Int)
    · cases fcon (kd : Int)
      · cases fat (kd : Int)
        · rfl
        · exact rdNum_bad _ _ _
      · exact rd3_bad rfl
    · simp only [cond_true, cond_false]
      cases h : (conRes (rdCon (true, l1))).2.1
      · have := rdCon_ok (conRes_ok h).2; cases this
      · rfl
  · exact rdRes_bad1 _
/-- What is read is written as it was. -/
theorem rdAns_split {l : List UInt8} {c : Cm} (h : rdAns l = (c, 0)) : l = encC c ∧ cmSound c = true ∧ l.length ≤ 2048 := by
  unfold rdAns at h
  split at h
  · injection h with _ h; cases h
  · rename_i hl
    cases hg : cmGood (rdCmd (false, l))
    · rw [hg] at h; injection h with _ h; cases h
    · rw [hg] at h
      simp only [cond_true, Prod.mk.injEq, and_true] at h
      simp only [cmGood, Bool.and_eq_true, Bool.not_eq_true', List.isEmpty_iff] at hg
      obtain ⟨⟨g1, g2⟩, g3⟩ := hg
      subst h
      refine ⟨?_, g3, by omega⟩
      have hn := (cm_sound g3).1
      obtain ⟨kd, b1, l1, e1⟩ := rd3_pair 12 (false, l)
      obtain ⟨cl, b2, l2, e2⟩ := rd3_pair 8 (b1, l1)
      obtain ⟨rq, b3, l3, e3⟩ := rd3_pair 18446744073709551615 (b2, l2)
      have hr : rdCmd (false, l) = rdBody kd cl rq (b3, l3) := by simp only [rdCmd, e1, e2, e3]
      rw [hr] at g1 g2 g3 hn ⊢
      rw [(rdBody_kind kd cl rq _).1] at hn
      cases b3
      · have hb2 := rd3_ok e3; simp only at hb2; subst hb2
        have hb1 := rd3_ok e2; simp only at hb1; subst hb1
        have s1 := rd3_split e1; have s2 := rd3_split e2; have s3 := rd3_split e3
        have s := rdBody_split g1 g2 hn
        rw [← s, s1, s2, s3]
        simp [encs]
      · rw [rdBody_bad] at g1; cases g1
theorem encC_len {c : Cm} (h : cmSound c = true) : (encC c).length ≤ 2048 := by
  obtain ⟨hn, -, -, hcal, htm, -⟩ := cm_sound h
  have e1 := encs_len [c.kind.toNat, c.client, c.req]
  have e2 := encs_len [c.id]; have e3 := encs_len [c.con.toNat]; have e4 := encIs_len [c.at_]
  have h1 : (bif fid c.kind then encs [c.id] else []).length ≤ 9 := by
    cases fid c.kind
    · exact Nat.zero_le _
    · simpa using e2
  have h2 : (bif fcal c.kind then encCa c.cal else bif ftm c.kind then encK c.tm else bif fcon c.kind then encs [c.con.toNat] else bif fat c.kind then encIs [c.at_] else []).length ≤ 1900 := by
    cases hf : fcal c.kind
    · cases hm : ftm c.kind
      · cases fcon c.kind
        · cases fat c.kind
          · exact Nat.zero_le _
          · simp at e4 ⊢; omega
        · simp at e3 ⊢; omega
      · have hg := good_hd (htm hm)
        have := encK_len c.tm (by omega)
        simp only [cond_true, cond_false]; omega
    · have hk := check_ok (hcal hf)
      have l1 := hk.wk.2.1
      have l2 := hk.cn
      have r1 := encRow_len c.cal.wk; have r2 := encRow_len c.cal.cl; have r0 := encIs_len [c.cal.off]
      simp only [cond_true, encCa, List.length_append, List.length_cons, List.length_nil] at *; omega
  unfold encC
  simp only [List.length_append, List.length_cons, List.length_nil] at *; omega
theorem rdRes_write (c : Ca) (hk : checkE c = 0) : rdRes false (encCa c) = ⟨c, true, [], false⟩ := rdRes_back c hk
/-- What is written is read as it was. -/
theorem rdAns_back {c : Cm} (h : cmSound c = true) (h64 : c.req < 256 ^ 8 ∧ c.id < 256 ^ 8) (ha : -9223372036854775808 ≤ c.at_ ∧ c.at_ ≤ 9223372036854775807) : rdAns (encC c) = (c, 0) := by
  have hlen := encC_len h
  obtain ⟨hn, hc8, hkp, hcal, htm, hcon⟩ := cm_sound h
  obtain ⟨k1, k2, k3, k4, k5⟩ := kept_flat hkp
  have hkd : 1 ≤ c.kind ∧ c.kind ≤ 12 := by simpa [named] using hn
  have key : rdCmd (false, encC c) = (c, false, []) := by
    obtain ⟨kd, cl, rq, i, cn, at_, ca, tm⟩ := c
    simp only at *
    obtain ⟨kd, rfl⟩ : ∃ k : Nat, kd = (k : Int) := ⟨kd.toNat, by omega⟩
    obtain ⟨R, hR⟩ : ∃ R, R = (bif fid kd then encs [i] else []) ++ (bif fcal kd then encCa ca else bif ftm kd then encK tm else bif fcon kd then encs [cn.toNat] else bif fat kd then encIs [at_] else []) := ⟨_, rfl⟩
    have e : encC ⟨kd, cl, rq, i, cn, at_, ca, tm⟩ = encN 0 kd ++ (encN 0 cl ++ (encN 0 rq ++ R)) := by rw [hR]; simp [encC, encs]
    rw [e]
    have r1 := rd3_write 12 kd false (encN 0 cl ++ (encN 0 rq ++ R)) (by omega) (by omega)
    have r2 := rd3_write 8 cl false (encN 0 rq ++ R) (by omega) (by omega)
    have r3 := rd3_write 18446744073709551615 rq false R h64.1 (by omega)
    simp only [rdCmd, r1, r2, r3]
    obtain ⟨Q, hQ⟩ : ∃ Q, Q = (bif fcal kd then encCa ca else bif ftm kd then encK tm else bif fcon kd then encs [cn.toNat] else bif fat kd then encIs [at_] else []) := ⟨_, rfl⟩
    rw [← hQ] at hR
    have hi : (bif fid kd then rd3 18446744073709551615 (false, R) else (0, false, R)) = (i, false, Q) := by
      cases hf : fid kd
      · rw [hR, hf, k3 hf]; rfl
      · rw [hR, hf]
        have := rd3_write 18446744073709551615 i false Q h64.2 (by omega)
        simpa [encs] using this
    simp only [rdBody, hi]
    cases h1 : fcal kd
    · cases h2 : ftm kd
      · have hz := hcon h1 h2
        cases h3 : fcon kd
        · have e3 := k4 h3
          cases h4 : fat kd
          · rw [hQ, h1, h2, h3, h4, k1 h1, k2 h2, e3, k5 h4]; rfl
          · have e4 := rdI_write at_ false [] ha.1 ha.2
            rw [List.append_nil] at e4
            have e5 : Q = encI at_ := by rw [hQ, h1, h2, h3, h4]; simp [encIs]
            simp only [cond_false, cond_true, e5, e4]
            rw [k1 h1, k2 h2, e3]
        · have h4 : fat kd = false := by simp only [fcon, decide_eq_true_eq] at h3; simp [fat, h3]
          obtain ⟨cn, rfl⟩ : ∃ q : Nat, cn = (q : Int) := ⟨cn.toNat, by omega⟩
          have e4 := rd3_write 15 cn false [] (by omega) (by omega)
          rw [List.append_nil] at e4
          have e5 : Q = encN 0 cn := by rw [hQ, h1, h2, h3]; simp [encs]
          simp only [cond_false, cond_true, e5, e4]
          rw [k1 h1, k2 h2, k5 h4]
      · have h3 : fcon kd = false := by simp only [ftm, decide_eq_true_eq] at h2; simp [fcon, h2]
        have h4 : fat kd = false := by simp only [ftm, decide_eq_true_eq] at h2; simp [fat, h2]
        have e4 := rdCon_write (htm h2) []
        rw [List.append_nil] at e4
        have e5 : Q = encK tm := by rw [hQ, h1, h2]; rfl
        have hg : conGood (tm, false, ([] : List UInt8)) = true := by rw [conGood, htm h2]; rfl
        simp only [cond_false, cond_true, e5, e4, conRes, hg, if_true]
        rw [k1 h1, k4 h3, k5 h4]
    · have h2 : ftm kd = false := by simp only [fcal, decide_eq_true_eq] at h1; simp [ftm, h1]
      have h3 : fcon kd = false := by simp only [fcal, decide_eq_true_eq] at h1; simp [fcon, h1]
      have h4 : fat kd = false := by simp only [fcal, decide_eq_true_eq] at h1; simp [fat, h1]
      have e4 := rdRes_back ca (hcal h1)
      have e5 : Q = encCa ca := by rw [hQ, h1]; rfl
      simp only [cond_true, e5, e4]
      rw [k2 h2, k4 h3, k5 h4]
  have hg : cmGood (rdCmd (false, encC c)) = true := by rw [key, cmGood, h]; rfl
  rw [rdAns_yes hlen hg, key]
end Go.Proofs.Ytlcefchbfjfifaa
