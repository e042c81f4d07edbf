/- Plain laws of the encoding: what was written is read; what is read was written so. No program in sight. What was put is read back. -/
import Derived.Test.YtlcefchbfjfifaaVWrA
import Derived.Test.YtlcefchbfjfifaaVCcE
section
namespace Go.Proofs.Ytlcefchbfjfifaa

theorem be_dg : ∀ f n, n < 256 ^ f → be (dg f n) = n
  | 0, n, h => by simp at h; subst h; rfl
  | f + 1, n, h => by
    unfold dg
    split
    · rename_i h0; subst h0; rfl
    · have hd : n / 256 < 256 ^ f := by rw [Nat.pow_succ] at h; omega
      rw [be_snoc, be_dg f _ hd, UInt8.toNat_ofNat']
      omega
theorem be_dig (n : Nat) (h : n < 256 ^ 8) : be (dig n) = n := be_dg 8 n h
theorem dg_head : ∀ f n, n < 256 ^ f → ∀ c t, dg f n = c :: t → c ≠ 0
  | 0, n, _, c, t, e => by simp [dg] at e
  | f + 1, n, h, c, t, e => by
    unfold dg at e
    split at e
    · cases e
    · rename_i h0
      have hd : n / 256 < 256 ^ f := by rw [Nat.pow_succ] at h; omega
      rcases hq : dg f (n / 256) with _ | ⟨d, q⟩
      · rw [hq] at e
        simp at e
        obtain ⟨rfl, _⟩ := e
        have hb := be_dg f _ hd
        rw [hq] at hb
        have hz : n / 256 = 0 := by simpa [be] using hb.symm
        intro hc
        have := congrArg UInt8.toNat hc
        rw [UInt8.toNat_ofNat'] at this
        simp at this
        omega
      · rw [hq] at e
        simp at e
        obtain ⟨rfl, _⟩ := e
        exact dg_head f _ hd _ _ hq
theorem dig_head (n : Nat) (h : n < 256 ^ 8) {c : UInt8} {t : List UInt8} (e : dig n = c :: t) : c ≠ 0 := dg_head 8 n h c t e

theorem be_pos : ∀ (d : List UInt8) (c : UInt8), c ≠ 0 → 0 < be (c :: d) := by
  intro d c hc
  have key : ∀ (d : List UInt8) (n : Nat), 0 < n → 0 < d.foldl (fun n c => n * 256 + c.toNat) n := by
    intro d
    induction d with
    | nil => intro n hn; exact hn
    | cons x d ih => intro n hn; rw [List.foldl_cons]; exact ih _ (Nat.lt_of_lt_of_le (Nat.mul_pos hn (by decide)) (Nat.le_add_right _ _))
  have h0 : 0 < c.toNat := by
    rcases Nat.eq_zero_or_pos c.toNat with h | h
    · exact absurd (UInt8.toNat_inj.1 (by simpa using h)) hc
    · exact h
  simp only [be, List.foldl_cons]
  exact key d _ (by omega)

theorem dg_be : ∀ (f : Nat) (d : List UInt8), d.length ≤ f → (∀ c t, d = c :: t → c ≠ 0) → dg f (be d) = d
  | 0, d, hl, _ => by
    have : d = [] := List.eq_nil_of_length_eq_zero (by omega)
    subst this; rfl
  | f + 1, d, hl, hh => by
    rcases List.eq_nil_or_concat d with rfl | ⟨q, x, rfl⟩
    · simp [be, dg]
    · rw [List.concat_eq_append] at *
      have hq : dg f (be q) = q := dg_be f q (by simp at hl; omega) (fun c t e => hh c (t ++ [x]) (by rw [e]; rfl))
      have hx := B8_lt x
      rw [be_snoc, dg]
      have hpos : ¬ (be q * 256 + x.toNat = 0) := by
        rcases q with _ | ⟨c, t⟩
        · have : x ≠ 0 := hh x [] rfl
          have h0 : 0 < x.toNat := by
            rcases Nat.eq_zero_or_pos x.toNat with h | h
            · exact absurd (UInt8.toNat_inj.1 (by simpa using h)) this
            · exact h
          omega
        · have := be_pos t c (hh c (t ++ [x]) rfl)
          omega
      rw [if_neg hpos, show (be q * 256 + x.toNat) / 256 = be q by omega, show (be q * 256 + x.toNat) % 256 = x.toNat by omega, hq]
      congr 1
      simp
theorem dig_be (d : List UInt8) (hl : d.length ≤ 8) (hh : ∀ c t, d = c :: t → c ≠ 0) : dig (be d) = d := dg_be 8 d hl hh

/-- What rdOk says. -/
theorem rdOk_spec {m : Bool} {c : UInt8} {t : List UInt8} (h : rdOk m c t = true) : rdHead m c ≤ 8 ∧ rdHead m c ≤ t.length ∧ ∀ d q, t.take (rdHead m c) = d :: q → d ≠ 0 := by
  simp only [rdOk, Bool.and_eq_true, decide_eq_true_eq, Bool.not_eq_true', Bool.and_eq_false_iff] at h
  refine ⟨h.1.1, h.1.2, fun d q e hd => ?_⟩
  rcases h.2 with h2 | h2
  · simp at h2
    rw [h2] at e; simp at e
  · rcases t with _ | ⟨x, t⟩
    · simp at e
    · rcases hz : rdHead m c with _ | k
      · rw [hz] at e; simp at e
      · rw [hz, List.take_succ_cons] at e
        injection e with e1 e2
        subst e1
        simp [hd] at h2

theorem read_written (most : Nat) (l : List UInt8) (h : (rdNum most false false l).bad = false) : encN 0 (rdNum most false false l).val = l.take (l.length - (rdNum most false false l).left.length) := by
  rcases l with _ | ⟨c, t⟩
  · simp [rdNum, rdFail] at h
  unfold rdNum at h ⊢
  simp only at h ⊢
  split at h
  · rename_i hok
    split at h
    · rename_i hm
      simp only [hok, hm, if_true]
      obtain ⟨h8, hl, hh⟩ := rdOk_spec hok
      have hd := dig_be (t.take (rdHead false c)) (by rw [List.length_take]; omega) hh
      rw [encN, hd]
      have hlen : (t.take (rdHead false c)).length = rdHead false c := by rw [List.length_take]; omega
      rw [hlen, List.length_drop, List.length_cons, show t.length + 1 - (t.length - rdHead false c) = rdHead false c + 1 by omega, List.take_succ_cons]
      congr 1
      simp [rdHead]
    · simp [rdFail] at h
  · simp [rdFail] at h

theorem readI_written (l : List UInt8) (h : (rdNum 9223372036854775807 true false l).bad = false) : encI (rdInt false l) = l.take (l.length - (rdNum 9223372036854775807 true false l).left.length) := by
  rcases l with _ | ⟨c, t⟩
  · simp [rdNum, rdFail] at h
  have hc := B8_lt c
  unfold rdInt
  unfold rdNum at h ⊢
  simp only at h ⊢
  split at h
  · rename_i hok
    split at h
    · rename_i hm
      simp only [hok, hm, if_true]
      obtain ⟨h8, hl, hh⟩ := rdOk_spec hok
      have hd := dig_be (t.take (rdHead true c)) (by rw [List.length_take]; omega) hh
      have hlen : (t.take (rdHead true c)).length = rdHead true c := by rw [List.length_take]; omega
      rw [List.length_drop, List.length_cons, show t.length + 1 - (t.length - rdHead true c) = rdHead true c + 1 by omega, List.take_succ_cons]
      by_cases hmk : 128 ≤ c.toNat
      · have e1 : rdMark true c = true := by simp [rdMark, hmk]
        rw [e1]
        simp only [if_true]
        rw [encI, if_pos (by omega), show (-1 - (-1 - (be (t.take (rdHead true c)) : Int))).toNat = be (t.take (rdHead true c)) by omega, encN, hd, hlen]
        congr 1
        apply UInt8.toNat_inj.1
        rw [UInt8.toNat_ofNat']
        simp only [rdHead, if_true]
        omega
      · have e1 : rdMark true c = false := by simp [rdMark, hmk]
        rw [e1]
        simp only [Bool.false_eq_true, if_false]
        rw [encI, if_neg (by omega), Int.toNat_natCast, encN, hd, hlen]
        congr 1
        apply UInt8.toNat_inj.1
        rw [UInt8.toNat_ofNat']
        simp only [rdHead, if_true]
        omega
    · simp [rdFail] at h
  · simp [rdFail] at h

theorem rdOk_enc (m : Bool) (mark n : Nat) (rest : List UInt8) (hn : n < 256 ^ 8) (hm : m = true ∧ mark = 128 ∨ mark = 0) :
    rdOk m (UInt8.ofNat (mark + (dig n).length)) (dig n ++ rest) = true ∧ rdHead m (UInt8.ofNat (mark + (dig n).length)) = (dig n).length := by
  have hl := dig_le n
  have hh : rdHead m (UInt8.ofNat (mark + (dig n).length)) = (dig n).length := by
    unfold rdHead
    rw [UInt8.toNat_ofNat']
    rcases hm with ⟨rfl, rfl⟩ | rfl
    · simp; omega
    · split <;> omega
  refine ⟨?_, hh⟩
  unfold rdOk
  rw [hh]
  simp only [Bool.and_eq_true, decide_eq_true_eq, Bool.not_eq_true', Bool.and_eq_false_iff]
  refine ⟨⟨hl, by simp⟩, ?_⟩
  rcases hd : dig n with _ | ⟨c, t⟩
  · left; simp
  · right
    have := dig_head n hn hd
    simp [this]
/-- What was written is read as it was. -/
theorem written_read (most n : Nat) (bad : Bool) (rest : List UInt8) (hn : n < 256 ^ 8) (hm : n ≤ most) : rdNum most false bad (encN 0 n ++ rest) = ⟨n, false, rest, bad⟩ := by
  obtain ⟨h1, h2⟩ := rdOk_enc false 0 n rest hn (.inr rfl)
  rw [encN, List.cons_append]
  unfold rdNum
  simp only
  rw [if_pos h1, h2, List.take_left, List.drop_left, be_dig n hn, if_pos hm]
  simp [rdMark]
theorem written_readI (i : Int) (bad : Bool) (rest : List UInt8) (h1 : -9223372036854775808 ≤ i) (h2 : i ≤ 9223372036854775807) :
    rdInt bad (encI i ++ rest) = i ∧ (rdNum 9223372036854775807 true bad (encI i ++ rest)).left = rest ∧ (rdNum 9223372036854775807 true bad (encI i ++ rest)).bad = bad := by
  by_cases hneg : i < 0
  · have hn : (-1 - i).toNat < 256 ^ 8 := by omega
    have hle := dig_le (-1 - i).toNat
    obtain ⟨k1, k2⟩ := rdOk_enc true 128 (-1 - i).toNat rest hn (.inl ⟨rfl, rfl⟩)
    have hX : rdNum 9223372036854775807 true bad (encI i ++ rest) = ⟨(-1 - i).toNat, true, rest, bad⟩ := by
      rw [encI, if_pos hneg, encN, List.cons_append]
      unfold rdNum
      simp only
      rw [if_pos k1, k2, List.take_left, List.drop_left, be_dig _ hn, if_pos (by omega)]
      congr 1
      unfold rdMark
      rw [UInt8.toNat_ofNat']
      simp; omega
    unfold rdInt
    rw [hX]
    simp; omega
  · have hn : i.toNat < 256 ^ 8 := by omega
    have hle := dig_le i.toNat
    obtain ⟨k1, k2⟩ := rdOk_enc true 0 i.toNat rest hn (.inr rfl)
    have hX : rdNum 9223372036854775807 true bad (encI i ++ rest) = ⟨i.toNat, false, rest, bad⟩ := by
      rw [encI, if_neg hneg, encN, List.cons_append]
      unfold rdNum
      simp only
      rw [if_pos k1, k2, List.take_left, List.drop_left, be_dig _ hn, if_pos (by omega)]
      congr 1
      unfold rdMark
      rw [UInt8.toNat_ofNat']
      simp; omega
    unfold rdInt
    rw [hX]
    simp; omega
theorem written_readT (s : ByteArray) (most : Int) (bad : Bool) (rest : List UInt8) (hs : s.size < 256 ^ 8) (h0 : 0 ≤ most) (hm : (s.size : Int) ≤ most) : rdText most bad (encT s ++ rest) = ⟨s.data.toList, rest, bad⟩ := by
  have hl : s.data.toList.length = s.size := Array.length_toList
  have hX := written_read most.toNat s.size bad (s.data.toList ++ rest) hs (by omega)
  unfold rdText
  rw [if_neg (by omega), encT, List.append_assoc, hX]
  simp only
  rw [if_neg (by rw [List.length_append]; omega), ← hl, List.take_left, List.drop_left]
end Go.Proofs.Ytlcefchbfjfifaa
end

section
namespace Go.Proofs.Ytlcefchbfjfifaa
open Go.RowKit Cal
set_option maxHeartbeats 4000000
set_option maxRecDepth 100000
set_option linter.unusedVariables false

theorem rdSt_back (L : List Sp) (rest : List UInt8) (hb : ∀ s ∈ L, 0 ≤ s.f ∧ s.f ≤ 1125899906842624 ∧ 0 ≤ s.t ∧ s.t ≤ 1125899906842624) : ∀ j, j ≤ L.length → rdSt (encSps L ++ rest) false j = (L.take j, encSps (L.drop j) ++ rest, false)
  | 0, _ => by simp [rdSt]
  | j + 1, h => by
    have ih := rdSt_back L rest hb j (by omega)
    have hs := List.drop_eq_getElem_cons (l := L) (i := j) (by omega)
    have hbs := hb _ (List.getElem_mem (show j < L.length by omega))
    have ht := List.take_succ_eq_append_getElem (show j < L.length by omega)
    generalize L[j]'_ = s at *
    obtain ⟨f, t⟩ := s
    simp only at hbs
    obtain ⟨b1, b2, b3, b4⟩ := hbs
    obtain ⟨f, rfl⟩ : ∃ f' : Nat, f = (f' : Int) := ⟨f.toNat, by omega⟩
    obtain ⟨t, rfl⟩ : ∃ t' : Nat, t = (t' : Int) := ⟨t.toNat, by omega⟩
    have e : encSps (L.drop j) ++ rest = encN 0 f ++ (encN 0 t ++ (encSps (L.drop (j + 1)) ++ rest)) := by
      rw [hs]; simp [encSps, encS2, encs]
    rw [rdSt_succ, ih]
    simp only
    rw [e, written_read _ f false _ (by omega) (by omega)]
    simp only
    rw [written_read _ t false _ (by omega) (by omega), ht]
theorem rdRow_back (L : List Sp) (rest : List UInt8) (hb : ∀ s ∈ L, 0 ≤ s.f ∧ s.f ≤ 1125899906842624 ∧ 0 ≤ s.t ∧ s.t ≤ 1125899906842624) (hl : L.length ≤ 32) : rdRow false (encRow L ++ rest) = (L, rest, false) := by
  have e : encRow L ++ rest = encN 0 L.length ++ (encSps L ++ rest) := by simp [encRow, encs]
  rw [rdRow, e, written_read 32 L.length false _ (by omega) hl]
  simp only
  rw [rdSt_back L rest hb L.length (Nat.le_refl _)]
  simp [encSps]
theorem row_sp {l : List Sp} : ∀ {e : Int}, 0 ≤ e → Row e l → ∀ s ∈ l, 0 ≤ s.f ∧ s.f ≤ 1125899906842624 ∧ 0 ≤ s.t ∧ s.t ≤ 1125899906842624 := by
  induction l with
  | nil => intro e _ _ s hs; cases hs
  | cons x l ih =>
    intro e he h s hs
    obtain ⟨h1, h2, h3, h4⟩ := h
    rcases List.mem_cons.1 hs with rfl | hs
    · omega
    · exact ih (by omega) h4 s hs
theorem rdRes_back (c : Ca) (hk : checkE c = 0) : rdRes false (encCa c) = ⟨c, true, [], false⟩ := by
  have h := check_ok hk
  have ho := h.off
  have e : encCa c = encI c.off ++ (encRow c.wk ++ (encRow c.cl ++ [])) := by simp [encCa, encIs]
  obtain ⟨i1, i2, i3⟩ := written_readI c.off false (encRow c.wk ++ (encRow c.cl ++ [])) (by omega) (by omega)
  have e1 : rdC1 false (encCa c) = (c.wk, encRow c.cl ++ [], false) := by
    rw [rdC1, e, i2, i3, rdRow_back c.wk _ (row_sp (Int.le_refl 0) h.wk.1) h.wk.2.1]
  have e2 : rdC2 false (encCa c) = (c.cl, [], false) := by
    rw [rdC2, e1, rdRow_back c.cl _ (row_sp (Int.le_refl 0) h.cl) h.cn]
  have e3 : rdCa false (encCa c) = c := by
    rw [rdCa, e1, e2, e, i1]
  rw [rdRes, rdOkC, e3, e2, hk]
  rfl
end Go.Proofs.Ytlcefchbfjfifaa
end
