/- Plain laws of the encoding: what was written is read; what is read was written so. No program in sight. What was read, as bytes; what was written, read. ContractBytes: the plain law (rdLv_write, rdCon_write, left_st, bad_st, Rd.insideC as in CdI, CcI: never import these beside them). -/
import Derived.Test.YtlcefchbfjfifaaGreatVWrA
import Derived.Test.YtlcefchbfjfifaaGreatVRdX
import Derived.Test.YtlcefchbfjfifaaGreatVArgsTc
import Derived.Test.YtlcefchbfjfifaaGreatVCkPl
import Derived.Test.YtlcefchbfjfifaaGreatVCtC
import Derived.Test.YtlcefchbfjfifaaGreatVCtE
section
namespace Go.Proofs.YtlcefchbfjfifaaGreat

theorem be_dg : ∀ f n, n < 256 ^ f → be (dg f n) = n
  | 0, n, h => by simp at h; subst h; rfl
  | f + 1, n, h => by
    unfold dg
    split
    · rename_i h0; subst h0; rfl
    · have hd : n / 256 < 256 ^ f := by rw [Nat.pow_succ] at h; omega
      rw [be_snoc, be_dg f _ hd, UInt8.toNat_ofNat']
      omega
theorem be_dig (n : Nat) (h : n < 256 ^ 8) : be (dig n) = n := be_dg 8 n h
theorem dg_head : ∀ f n, n < 256 ^ f → ∀ c t, dg f n = c :: t → c ≠ 0
  | 0, n, _, c, t, e => by simp [dg] at e
  | f + 1, n, h, c, t, e => by
    unfold dg at e
    split at e
    · cases e
    · rename_i h0
      have hd : n / 256 < 256 ^ f := by rw [Nat.pow_succ] at h; omega
      rcases hq : dg f (n / 256) with _ | ⟨d, q⟩
      · rw [hq] at e
        simp at e
        obtain ⟨rfl, _⟩ := e
        have hb := be_dg f _ hd
        rw [hq] at hb
        have hz : n / 256 = 0 := by simpa [be] using hb.symm
        intro hc
        have := congrArg UInt8.toNat hc
        rw [UInt8.toNat_ofNat'] at this
        simp at this
        omega
      · rw [hq] at e
        simp at e
        obtain ⟨rfl, _⟩ := e
        exact dg_head f _ hd _ _ hq
theorem dig_head (n : Nat) (h : n < 256 ^ 8) {c : UInt8} {t : List UInt8} (e : dig n = c :: t) : c ≠ 0 := dg_head 8 n h c t e

theorem be_pos : ∀ (d : List UInt8) (c : UInt8), c ≠ 0 → 0 < be (c :: d) := by
  intro d c hc
  have key : ∀ (d : List UInt8) (n : Nat), 0 < n → 0 < d.foldl (fun n c => n * 256 + c.toNat) n := by
    intro d
    induction d with
    | nil => intro n hn; exact hn
    | cons x d ih => intro n hn; rw [List.foldl_cons]; exact ih _ (Nat.lt_of_lt_of_le (Nat.mul_pos hn (by decide)) (Nat.le_add_right _ _))
  have h0 : 0 < c.toNat := by
    rcases Nat.eq_zero_or_pos c.toNat with h | h
    · exact absurd (UInt8.toNat_inj.1 (by simpa using h)) hc
    · exact h
  simp only [be, List.foldl_cons]
  exact key d _ (by omega)

theorem dg_be : ∀ (f : Nat) (d : List UInt8), d.length ≤ f → (∀ c t, d = c :: t → c ≠ 0) → dg f (be d) = d
  | 0, d, hl, _ => by
    have : d = [] := List.eq_nil_of_length_eq_zero (by omega)
    subst this; rfl
  | f + 1, d, hl, hh => by
    rcases List.eq_nil_or_concat d with rfl | ⟨q, x, rfl⟩
    · simp [be, dg]
    · rw [List.concat_eq_append] at *
      have hq : dg f (be q) = q := dg_be f q (by simp at hl; omega) (fun c t e => hh c (t ++ [x]) (by rw [e]; rfl))
      have hx := B8_lt x
      rw [be_snoc, dg]
      have hpos : ¬ (be q * 256 + x.toNat = 0) := by
        rcases q with _ | ⟨c, t⟩
        · have : x ≠ 0 := hh x [] rfl
          have h0 : 0 < x.toNat := by
            rcases Nat.eq_zero_or_pos x.toNat with h | h
            · exact absurd (UInt8.toNat_inj.1 (by simpa using h)) this
            · exact h
          omega
        · have := be_pos t c (hh c (t ++ [x]) rfl)
          omega
      rw [if_neg hpos, show (be q * 256 + x.toNat) / 256 = be q by omega, show (be q * 256 + x.toNat) % 256 = x.toNat by omega, hq]
      congr 1
      simp
theorem dig_be (d : List UInt8) (hl : d.length ≤ 8) (hh : ∀ c t, d = c :: t → c ≠ 0) : dig (be d) = d := dg_be 8 d hl hh

/-- What rdOk says. -/
theorem rdOk_spec {m : Bool} {c : UInt8} {t : List UInt8} (h : rdOk m c t = true) : rdHead m c ≤ 8 ∧ rdHead m c ≤ t.length ∧ ∀ d q, t.take (rdHead m c) = d :: q → d ≠ 0 := by
  simp only [rdOk, Bool.and_eq_true, decide_eq_true_eq, Bool.not_eq_true', Bool.and_eq_false_iff] at h
  refine ⟨h.1.1, h.1.2, fun d q e hd => ?_⟩
  rcases h.2 with h2 | h2
  · simp at h2
    rw [h2] at e; simp at e
  · rcases t with _ | ⟨x, t⟩
    · simp at e
    · rcases hz : rdHead m c with _ | k
      · rw [hz] at e; simp at e
      · rw [hz, List.take_succ_cons] at e
        injection e with e1 e2
        subst e1
        simp [hd] at h2

theorem read_written (most : Nat) (l : List UInt8) (h : (rdNum most false false l).bad = false) : encN 0 (rdNum most false false l).val = l.take (l.length - (rdNum most false false l).left.length) := by
  rcases l with _ | ⟨c, t⟩
  · simp [rdNum, rdFail] at h
  unfold rdNum at h ⊢
  simp only at h ⊢
  split at h
  · rename_i hok
    split at h
    · rename_i hm
      simp only [hok, hm, if_true]
      obtain ⟨h8, hl, hh⟩ := rdOk_spec hok
      have hd := dig_be (t.take (rdHead false c)) (by rw [List.length_take]; omega) hh
      rw [encN, hd]
      have hlen : (t.take (rdHead false c)).length = rdHead false c := by rw [List.length_take]; omega
      rw [hlen, List.length_drop, List.length_cons, show t.length + 1 - (t.length - rdHead false c) = rdHead false c + 1 by omega, List.take_succ_cons]
      congr 1
      simp [rdHead]
    · simp [rdFail] at h
  · simp [rdFail] at h

theorem readI_written (l : List UInt8) (h : (rdNum 9223372036854775807 true false l).bad = false) : encI (rdInt false l) = l.take (l.length - (rdNum 9223372036854775807 true false l).left.length) := by
  rcases l with _ | ⟨c, t⟩
  · simp [rdNum, rdFail] at h
  have hc := B8_lt c
  unfold rdInt
  unfold rdNum at h ⊢
  simp only at h ⊢
  split at h
  · rename_i hok
    split at h
    · rename_i hm
      simp only [hok, hm, if_true]
      obtain ⟨h8, hl, hh⟩ := rdOk_spec hok
      have hd := dig_be (t.take (rdHead true c)) (by rw [List.length_take]; omega) hh
      have hlen : (t.take (rdHead true c)).length = rdHead true c := by rw [List.length_take]; omega
      rw [List.length_drop, List.length_cons, show t.length + 1 - (t.length - rdHead true c) = rdHead true c + 1 by omega, List.take_succ_cons]
      by_cases hmk : 128 ≤ c.toNat
      · have e1 : rdMark true c = true := by simp [rdMark, hmk]
        rw [e1]
        simp only [if_true]
        rw [encI, if_pos (by omega), show (-1 - (-1 - (be (t.take (rdHead true c)) : Int))).toNat = be (t.take (rdHead true c)) by omega, encN, hd, hlen]
        congr 1
        apply UInt8.toNat_inj.1
        rw [UInt8.toNat_ofNat']
        simp only [rdHead, if_true]
        omega
      · have e1 : rdMark true c = false := by simp [rdMark, hmk]
        rw [e1]
        simp only [Bool.false_eq_true, if_false]
        rw [encI, if_neg (by omega), Int.toNat_natCast, encN, hd, hlen]
        congr 1
        apply UInt8.toNat_inj.1
        rw [UInt8.toNat_ofNat']
        simp only [rdHead, if_true]
        omega
    · simp [rdFail] at h
  · simp [rdFail] at h

theorem rdOk_enc (m : Bool) (mark n : Nat) (rest : List UInt8) (hn : n < 256 ^ 8) (hm : m = true ∧ mark = 128 ∨ mark = 0) :
    rdOk m (UInt8.ofNat (mark + (dig n).length)) (dig n ++ rest) = true ∧ rdHead m (UInt8.ofNat (mark + (dig n).length)) = (dig n).length := by
  have hl := dig_le n
  have hh : rdHead m (UInt8.ofNat (mark + (dig n).length)) = (dig n).length := by
    unfold rdHead
    rw [UInt8.toNat_ofNat']
    rcases hm with ⟨rfl, rfl⟩ | rfl
    · simp; omega
    · split <;> omega
  refine ⟨?_, hh⟩
  unfold rdOk
  rw [hh]
  simp only [Bool.and_eq_true, decide_eq_true_eq, Bool.not_eq_true', Bool.and_eq_false_iff]
  refine ⟨⟨hl, by simp⟩, ?_⟩
  rcases hd : dig n with _ | ⟨c, t⟩
  · left; simp
  · right
    have := dig_head n hn hd
    simp [this]
/-- What was written is read as it was. -/
theorem written_read (most n : Nat) (bad : Bool) (rest : List UInt8) (hn : n < 256 ^ 8) (hm : n ≤ most) : rdNum most false bad (encN 0 n ++ rest) = ⟨n, false, rest, bad⟩ := by
  obtain ⟨h1, h2⟩ := rdOk_enc false 0 n rest hn (.inr rfl)
  rw [encN, List.cons_append]
  unfold rdNum
  simp only
  rw [if_pos h1, h2, List.take_left, List.drop_left, be_dig n hn, if_pos hm]
  simp [rdMark]
theorem written_readI (i : Int) (bad : Bool) (rest : List UInt8) (h1 : -9223372036854775808 ≤ i) (h2 : i ≤ 9223372036854775807) :
    rdInt bad (encI i ++ rest) = i ∧ (rdNum 9223372036854775807 true bad (encI i ++ rest)).left = rest ∧ (rdNum 9223372036854775807 true bad (encI i ++ rest)).bad = bad := by
  by_cases hneg : i < 0
  · have hn : (-1 - i).toNat < 256 ^ 8 := by omega
    have hle := dig_le (-1 - i).toNat
    obtain ⟨k1, k2⟩ := rdOk_enc true 128 (-1 - i).toNat rest hn (.inl ⟨rfl, rfl⟩)
    have hX : rdNum 9223372036854775807 true bad (encI i ++ rest) = ⟨(-1 - i).toNat, true, rest, bad⟩ := by
      rw [encI, if_pos hneg, encN, List.cons_append]
      unfold rdNum
      simp only
      rw [if_pos k1, k2, List.take_left, List.drop_left, be_dig _ hn, if_pos (by omega)]
      congr 1
      unfold rdMark
      rw [UInt8.toNat_ofNat']
      simp; omega
    unfold rdInt
    rw [hX]
    simp; omega
  · have hn : i.toNat < 256 ^ 8 := by omega
    have hle := dig_le i.toNat
    obtain ⟨k1, k2⟩ := rdOk_enc true 0 i.toNat rest hn (.inr rfl)
    have hX : rdNum 9223372036854775807 true bad (encI i ++ rest) = ⟨i.toNat, false, rest, bad⟩ := by
      rw [encI, if_neg hneg, encN, List.cons_append]
      unfold rdNum
      simp only
      rw [if_pos k1, k2, List.take_left, List.drop_left, be_dig _ hn, if_pos (by omega)]
      congr 1
      unfold rdMark
      rw [UInt8.toNat_ofNat']
      simp; omega
    unfold rdInt
    rw [hX]
    simp; omega
theorem written_readT (s : ByteArray) (most : Int) (bad : Bool) (rest : List UInt8) (hs : s.size < 256 ^ 8) (h0 : 0 ≤ most) (hm : (s.size : Int) ≤ most) : rdText most bad (encT s ++ rest) = ⟨s.data.toList, rest, bad⟩ := by
  have hl : s.data.toList.length = s.size := Array.length_toList
  have hX := written_read most.toNat s.size bad (s.data.toList ++ rest) hs (by omega)
  unfold rdText
  rw [if_neg (by omega), encT, List.append_assoc, hX]
  simp only
  rw [if_neg (by rw [List.length_append]; omega), ← hl, List.take_left, List.drop_left]
end Go.Proofs.YtlcefchbfjfifaaGreat
end

section
namespace Go.Proofs.YtlcefchbfjfifaaGreat
open Go.RowKit
set_option maxHeartbeats 4000000
set_option maxRecDepth 100000
set_option linter.unusedVariables false

theorem rdNum_suffix (m : Nat) (mk b : Bool) (l : List UInt8) (h : (rdNum m mk b l).bad = false) : ∃ p, l = p ++ (rdNum m mk b l).left ∧ (rdNum m mk b l).left.length ≤ l.length := by
  rcases l with _ | ⟨c, t⟩
  · simp [rdNum, rdFail] at h
  unfold rdNum at h ⊢
  simp only at h ⊢
  split
  · split
    · exact ⟨c :: t.take (rdHead mk c), by simp, by simp; omega⟩
    · rename_i h1 h2; rw [if_pos h1, if_neg h2] at h; cases h
  · rename_i h1; rw [if_neg h1] at h; cases h
theorem split_of {l p q e : List UInt8} (h : l = p ++ q) (he : e = l.take (l.length - q.length)) : l = e ++ q := by
  subst h
  rw [he]; simp
theorem rd3_ok {m : Nat} {s : Bool × List UInt8} {v : Nat} {l : List UInt8} (h : rd3 m s = (v, false, l)) : s.1 = false := by
  cases hs : s.1
  · rfl
  · have := rd3_bad (m := m) hs; rw [h] at this; cases this
theorem rd3_split {m : Nat} {l l' : List UInt8} {v : Nat} (h : rd3 m (false, l) = (v, false, l')) : l = encN 0 v ++ l' := by
  simp only [rd3, Prod.mk.injEq] at h
  obtain ⟨h1, h2, h3⟩ := h
  obtain ⟨p, hp, _⟩ := rdNum_suffix m false false l h2
  have := read_written m l h2
  rw [← h1, ← h3]
  exact split_of hp this
theorem rdI_ok {s : Bool × List UInt8} {v : Int} {l : List UInt8} (h : rdI s = (v, false, l)) : s.1 = false := by
  cases hs : s.1
  · rfl
  · simp only [rdI, hs, rdNum_bad, Prod.mk.injEq] at h
    exact absurd h.2.1 (by simp)
theorem rdI_split {l l' : List UInt8} {v : Int} (h : rdI (false, l) = (v, false, l')) : l = encI v ++ l' := by
  simp only [rdI, Prod.mk.injEq] at h
  obtain ⟨h1, h2, h3⟩ := h
  obtain ⟨p, hp, _⟩ := rdNum_suffix _ true false l h2
  have := readI_written l h2
  rw [← h1, ← h3]
  exact split_of hp this
theorem rd3_write (m n : Nat) (b : Bool) (rest : List UInt8) (h : n < 256 ^ 8) (hm : n ≤ m) : rd3 m (b, encN 0 n ++ rest) = (n, b, rest) := by
  simp only [rd3, written_read m n b rest h hm]
theorem rdI_write (i : Int) (b : Bool) (rest : List UInt8) (h1 : -9223372036854775808 ≤ i) (h2 : i ≤ 9223372036854775807) : rdI (b, encI i ++ rest) = (i, b, rest) := by
  obtain ⟨a1, a2, a3⟩ := written_readI i b rest h1 h2
  simp only [rdI, a1, a2, a3]
theorem rd3_pair (m : Nat) (s : Bool × List UInt8) : ∃ v b l, rd3 m s = (v, b, l) := ⟨_, _, _, rfl⟩
end Go.Proofs.YtlcefchbfjfifaaGreat
end

section
namespace Go.Proofs.YtlcefchbfjfifaaGreat
open Go.RowKit Cal
set_option maxHeartbeats 4000000
set_option maxRecDepth 100000
set_option linter.unusedVariables false
attribute [local irreducible] wpPlan

theorem rdLv_write (L : List Sp) (rest : List UInt8) (hb : ∀ s ∈ L, 1 ≤ s.f ∧ s.f ≤ 1125899906842624 ∧ 0 ≤ s.t ∧ s.t ≤ 7) : ∀ j, j ≤ L.length → rdLv j (false, encSps L ++ rest) = (L.take j, false, encSps (L.drop j) ++ rest)
  | 0, _ => by simp [rdLv]
  | j + 1, h => by
    have ih := rdLv_write L rest hb j (by omega)
    have hs := List.drop_eq_getElem_cons (l := L) (i := j) (by omega)
    have hbs := hb _ (List.getElem_mem (show j < L.length by omega))
    have ht := List.take_succ_eq_append_getElem (show j < L.length by omega)
    generalize L[j]'_ = s at *
    obtain ⟨f, t⟩ := s
    simp only at hbs
    obtain ⟨b1, b2, b3, b4⟩ := hbs
    obtain ⟨f, rfl⟩ : ∃ f' : Nat, f = (f' : Int) := ⟨f.toNat, by omega⟩
    obtain ⟨t, rfl⟩ : ∃ t' : Nat, t = (t' : Int) := ⟨t.toNat, by omega⟩
    have e : encSps (L.drop j) ++ rest = encN 0 f ++ (encN 0 t ++ (encSps (L.drop (j + 1)) ++ rest)) := by
      rw [hs]; simp [encSps, encS2, encs]
    rw [e] at ih
    have h1 := rd3_write 1125899906842624 f false (encN 0 t ++ (encSps (L.drop (j + 1)) ++ rest)) (by omega) (by omega)
    have h2 := rd3_write 7 t false (encSps (L.drop (j + 1)) ++ rest) (by omega) (by omega)
    rw [rdLv_step ih h1 h2, ht]
theorem rdCon_write {c : Co} (hg : goodB c = true) (rest : List UInt8) : rdCon (false, encK c ++ rest) = (c, false, rest) := by
  obtain ⟨b1, b2, b3, b4, b5, b6, b7, b8⟩ := good_hd hg
  have hl := good_lv hg
  obtain ⟨cal, lv, rt, bk⟩ := c
  simp only at *
  obtain ⟨cal, rfl⟩ : ∃ k : Nat, cal = (k : Int) := ⟨cal.toNat, by omega⟩
  obtain ⟨rt, rfl⟩ : ∃ k : Nat, rt = (k : Int) := ⟨rt.toNat, by omega⟩
  obtain ⟨bk, rfl⟩ : ∃ k : Nat, bk = (k : Int) := ⟨bk.toNat, by omega⟩
  have e : encK ⟨cal, lv, rt, bk⟩ ++ rest = encN 0 cal ++ (encN 0 lv.length ++ (encSps lv ++ (encN 0 rt ++ (encN 0 bk ++ rest)))) := by simp [encK, encs]
  rw [e]
  have h1 := rd3_write 7 cal false (encN 0 lv.length ++ (encSps lv ++ (encN 0 rt ++ (encN 0 bk ++ rest)))) (by omega) (by omega)
  have h2 := rd3_write 6 lv.length false (encSps lv ++ (encN 0 rt ++ (encN 0 bk ++ rest))) (by omega) (by omega)
  have h3 := rdLv_write lv (encN 0 rt ++ (encN 0 bk ++ rest)) hl lv.length (Nat.le_refl _)
  rw [List.take_length, List.drop_length] at h3
  rw [show encSps [] = [] from rfl, List.nil_append] at h3
  have h4 := rd3_write 8 rt false (encN 0 bk ++ rest) (by omega) (by omega)
  have h5 := rd3_write 1048576 bk false rest (by omega) (by omega)
  simp only [rdCon, h1, h2, h3, h4, h5]

theorem left_st (g : Nat) (F : Nat → Prop) (l : List UInt8) (bad : Bool) (w : World) (h : RdAt w g F l bad) :
    Calls Tryz.prog 20 #[.pointer (some ⟨g, 0, none⟩)] w fun e w' => e = .returned (.int .i64 l.length) ∧ w = w' := by
  obtain ⟨_, A, cap, _, _, hb, _⟩ := h
  exact left_any g A l.length cap bad w hb
theorem bad_st (g : Nat) (F : Nat → Prop) (l : List UInt8) (bad : Bool) (w : World) (h : RdAt w g F l bad) :
    Calls Tryz.prog 21 #[.pointer (some ⟨g, 0, none⟩)] w fun e w' => e = .returned (.bool bad) ∧ w = w' := by
  obtain ⟨_, A, cap, _, _, hb, _⟩ := h
  exact bad_any g A l.length cap bad w hb
theorem Rd.insideC {w : World} {F : Nat → Prop} {A : Option Addr} {n : Nat} {xs : List Value} (h : Rd w F A n xs) : Rd w (fun k => F k ∧ k < w.heap.size) A n xs :=
  ⟨h.1, fun hn => by obtain ⟨g, off, e, hl, hf, hc⟩ := h.2 hn; exact ⟨g, off, e, hl, ⟨hf, hl⟩, hc⟩⟩
theorem rdCon_back {c : Co} (hg : goodB c = true) : conRes (rdCon (false, encK c)) = (c, false, []) ∧ conGood (rdCon (false, encK c)) = true := by
  have h := rdCon_write hg []
  rw [List.append_nil] at h
  rw [h]
  have h2 : conGood (c, false, ([] : List UInt8)) = true := by simp [conGood, hg]
  exact ⟨by rw [conRes, if_pos h2], h2⟩
theorem conRes_len (r : Co × Bool × List UInt8) : (conRes r).1.lv.length ≤ 6 := by
  unfold conRes
  split
  · rename_i h
    simp only [conGood, Bool.and_eq_true] at h
    have := good_hd h.2
    omega
  · simp [conZ]
/-- Its laws are stated on literal cells. -/
def KRes (r : Co × Bool × List UInt8) : Co × Bool × Bool × List UInt8 := ((conRes r).1, conGood r, (conRes r).2)
end Go.Proofs.YtlcefchbfjfifaaGreat
end
