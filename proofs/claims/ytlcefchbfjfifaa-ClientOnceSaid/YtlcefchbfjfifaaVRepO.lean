/- The plain law of replies: what was written is read as it was; what was read is written as it was. No program in sight. -/
import Derived.Test.YtlcefchbfjfifaaVRdY
import Derived.Test.YtlcefchbfjfifaaVCcF
namespace Go.Proofs.Ytlcefchbfjfifaa
set_option maxHeartbeats 1000000
set_option linter.unusedVariables false

theorem rdTk_split {l l' : List UInt8} {t : TkN} (h : rdTk (false, l) = (t, false, l')) : l = encs t.nums ++ l' := by
  simp only [rdTk] at h
  obtain ⟨v1, b1, l1, h1⟩ := rd3_pair 18446744073709551615 (false, l)
  rw [h1] at h; simp only at h
  obtain ⟨v2, b2, l2, h2⟩ := rd3_pair 15 (b1, l1)
  rw [h2] at h; simp only at h
  obtain ⟨v3, b3, l3, h3⟩ := rd3_pair 4 (b2, l2)
  rw [h3] at h; simp only at h
  obtain ⟨v4, b4, l4, h4⟩ := rd3_pair 5 (b3, l3)
  rw [h4] at h; simp only at h
  obtain ⟨v5, b5, l5, h5⟩ := rd3_pair 1152921504606846976 (b4, l4)
  rw [h5] at h; simp only at h
  obtain ⟨v6, b6, l6, h6⟩ := rd3_pair 1125899906842624 (b5, l5)
  rw [h6] at h; simp only at h
  obtain ⟨v7, b7, l7, h7⟩ := rd3_pair 1125899906842624 (b6, l6)
  rw [h7] at h; simp only at h
  obtain ⟨v8, b8, l8, h8⟩ := rd3_pair 1125899906842624 (b7, l7)
  rw [h8] at h; simp only at h
  obtain ⟨v9, b9, l9, h9⟩ := rd3_pair 2147483648 (b8, l8)
  rw [h9] at h
  simp only [Prod.mk.injEq] at h
  obtain ⟨ht, hb, hl⟩ := h
  subst ht hb hl
  obtain rfl : b8 = false := rd3_ok h9
  obtain rfl : b7 = false := rd3_ok h8
  obtain rfl : b6 = false := rd3_ok h7
  obtain rfl : b5 = false := rd3_ok h6
  obtain rfl : b4 = false := rd3_ok h5
  obtain rfl : b3 = false := rd3_ok h4
  obtain rfl : b2 = false := rd3_ok h3
  obtain rfl : b1 = false := rd3_ok h2
  rw [rd3_split h1, rd3_split h2, rd3_split h3, rd3_split h4, rd3_split h5, rd3_split h6, rd3_split h7, rd3_split h8, rd3_split h9]
  simp [TkN.nums, encs]
theorem rdTk_write (t : TkN) (b : Bool) (rest : List UInt8) (ht : t.ok) (hb : t.bd) : rdTk (b, encs t.nums ++ rest) = (t, b, rest) := by
  obtain ⟨id, c, s, lv, g, f, le, d, to_⟩ := t
  obtain ⟨b1, b2, b3, b4, b5, b6, b7, b8⟩ := hb
  have hid : id < 18446744073709551616 := ht id (by simp [TkN.nums])
  simp only at b1 b2 b3 b4 b5 b6 b7 b8
  simp only [TkN.nums, encs, List.flatMap_cons, List.flatMap_nil, List.append_assoc, List.append_nil, List.nil_append]
  simp only [rdTk]
  rw [rd3_write _ id b _ (by omega) (by omega)]; simp only
  rw [rd3_write _ c b _ (by omega) (by omega)]; simp only
  rw [rd3_write _ s b _ (by omega) (by omega)]; simp only
  rw [rd3_write _ lv b _ (by omega) (by omega)]; simp only
  rw [rd3_write _ g b _ (by omega) (by omega)]; simp only
  rw [rd3_write _ f b _ (by omega) (by omega)]; simp only
  rw [rd3_write _ le b _ (by omega) (by omega)]; simp only
  rw [rd3_write _ d b _ (by omega) (by omega)]; simp only
  rw [rd3_write _ to_ b _ (by omega) (by omega)]
theorem rdFired_ok {k : Nat} {s : Bool × List UInt8} {xs : List Nat} {l : List UInt8} (h : rdFired k s = (xs, false, l)) : s.1 = false := by
  cases hs : s.1
  · rfl
  · have := rdFired_bad k hs; rw [h] at this; cases this
theorem rdFired_split : ∀ (k : Nat) {l l' : List UInt8} {xs : List Nat}, rdFired k (false, l) = (xs, false, l') → l = encs xs ++ l'
  | 0, l, l', xs, h => by
    simp only [rdFired, Prod.mk.injEq] at h
    obtain ⟨rfl, -, rfl⟩ := h
    rfl
  | k + 1, l, l', xs, h => by
    obtain ⟨ys, b, m, hk⟩ : ∃ ys b m, rdFired k (false, l) = (ys, b, m) := ⟨_, _, _, rfl⟩
    obtain ⟨v, b2, m2, h2⟩ := rd3_pair 18446744073709551615 (b, m)
    rw [rdFired_step hk h2] at h
    simp only [Prod.mk.injEq] at h
    obtain ⟨rfl, rfl, rfl⟩ := h
    obtain rfl : b = false := rd3_ok h2
    rw [rdFired_split k hk, rd3_split h2]
    simp [encs]
theorem rdFired_upto (xs : List Nat) (b : Bool) (rest : List UInt8) (h : ∀ n ∈ xs, n < 256 ^ 8) : ∀ k, k ≤ xs.length → rdFired k (b, encs xs ++ rest) = (xs.take k, b, encs (xs.drop k) ++ rest)
  | 0, _ => by simp [rdFired]
  | k + 1, hk => by
    have h1 := rdFired_upto xs b rest h k (by omega)
    have hx := h xs[k] (List.getElem_mem (by omega))
    rw [List.drop_eq_getElem_cons (by omega : k < xs.length)] at h1
    have h1 : rdFired k (b, encs xs ++ rest) = (xs.take k, b, encN 0 xs[k] ++ (encs (xs.drop (k + 1)) ++ rest)) := by
      rw [h1]
      show (_, _, (encN 0 xs[k] ++ encs (xs.drop (k + 1))) ++ rest) = _
      rw [List.append_assoc]
    rw [rdFired_step h1 (rd3_write 18446744073709551615 xs[k] b _ hx (by omega)), List.take_succ_eq_append_getElem (by omega)]
theorem rdFired_write (xs : List Nat) (b : Bool) (rest : List UInt8) (h : ∀ n ∈ xs, n < 256 ^ 8) : rdFired xs.length (b, encs xs ++ rest) = (xs, b, rest) := by
  rw [rdFired_upto xs b rest h _ (Nat.le_refl _)]
  simp [encs]
theorem tkNone_v (t : TkN) : tkNone t.v = true ↔ t = tkZero := by
  obtain ⟨id, c, s, lv, g, f, le, d, to_⟩ := t
  simp only [tkNone, TkN.v, tkZero, decide_eq_true_eq, TkN.mk.injEq]
  constructor
  · intro h; have h := of_decide_eq_true h; omega
  · intro h; apply decide_eq_true; omega
theorem tkSound_none {t : TkN} (h : tkSound t.v = true) : tkNone t.v = false := by
  cases hn : tkNone t.v
  · rfl
  · rw [tkNone_v] at hn; subst hn; exact absurd h (by decide)
/-- What a sound reply's numbers are. -/
structure RepN.Ok (r : RepN) (tm : Nat) : Prop where
  time : r.time = (tm : Int)
  t1 : tm ≤ 1125899906842624
  code : r.code ≤ 99
  tk : tkNone r.t.v = true ∨ tkSound r.t.v = true
  ok : r.t.ok
  bd : r.t.bd
  fl : r.fired.length ≤ 64
  fs : ∀ n ∈ r.fired, n < 256 ^ 8
  no : r.notice < 18446744073709551616
  de : r.dead ≤ 128
def RepN.bytes (r : RepN) : List UInt8 := encR r.code r.time.toNat r.t r.fired r.notice r.dead
theorem rpSound_of {r : RepN} {tm : Nat} (h : r.Ok tm) : rpSound r.code r.time r.t.v r.fired.length r.dead = true := by
  rw [rpSound, Bool.and_eq_true, Bool.or_eq_true, decide_eq_true_eq]
  have h1 := h.code; have h2 := h.t1; have h3 := h.fl; have h4 := h.de
  refine ⟨?_, h.tk⟩
  rw [h.time]; omega
theorem TkN.ok_of {t : TkN} (h : tkSound t.v = true) (hid : t.id < 18446744073709551616) : t.ok ∧ t.bd := by
  obtain ⟨n, hn, h1, h2⟩ := tkSound_N h
  have e : t = n := by
    obtain ⟨id, c, s, lv, g, f, le, d, to_⟩ := t
    obtain ⟨id', c', s', lv', g', f', le', d', to'⟩ := n
    simp only [TkN.v, TkV.mk.injEq] at hn
    simp only [TkN.mk.injEq]
    omega
  subst e
  exact ⟨h1 hid, h2⟩
theorem zero_ok : tkZero.ok ∧ tkZero.bd := by
  refine ⟨fun n hn => ?_, ?_⟩
  · simp [TkN.nums, tkZero] at hn; omega
  · simp [TkN.bd, tkZero]
theorem of_rpSound {r : RepN} (h : rpSound r.code r.time r.t.v r.fired.length r.dead = true) (hid : r.t.id < 18446744073709551616) (hn : r.notice < 18446744073709551616) (hf : ∀ n ∈ r.fired, n < 256 ^ 8) : r.Ok r.time.toNat := by
  rw [rpSound, Bool.and_eq_true, Bool.or_eq_true, decide_eq_true_eq] at h
  obtain ⟨⟨h1, h2, h3, h4, h5, h6, h7⟩, ht⟩ := h
  have hk : r.t.ok ∧ r.t.bd := by
    rcases ht with ht | ht
    · rw [(tkNone_v _).1 ht]; exact zero_ok
    · exact TkN.ok_of ht hid
  exact ⟨by omega, by omega, by omega, ht, hk.1, hk.2, h5, hf, hn, by omega⟩

theorem rdTk1_zero (b : Bool) (l : List UInt8) : rdTk1 (0, b, l) = (tkZero, b, l) := rfl
theorem rdRep_write {r : RepN} {tm : Nat} (h : r.Ok tm) (rest : List UInt8) : rdRep (false, r.bytes ++ rest) = (r, false, rest) := by
  obtain ⟨code, time, t, fired, notice, dead⟩ := r
  obtain ⟨h1, h2, h3, h4, h5, h6, h7, h8, h9, h10⟩ := h
  simp only at h1 h2 h3 h4 h5 h6 h7 h8 h9 h10
  subst h1
  simp only [RepN.bytes, encR, Int.toNat_natCast]
  simp only [rdRep]
  rw [show encs [code] ++ encIs [(tm : Int)] ++ encFs [!tkNone t.v] ++ encTk t ++ encs [fired.length] ++ encs fired ++ encs [notice, dead] ++ rest = encN 0 code ++ (encI tm ++ (encF (!tkNone t.v) ++ (encTk t ++ (encN 0 fired.length ++ (encs fired ++ (encN 0 notice ++ (encN 0 dead ++ rest))))))) by simp [encs, encIs, encFs]]
  rw [rd3_write 99 code false _ (by omega) (by omega)]; simp only
  rw [rdI_write tm false _ (by omega) (by omega)]; simp only
  have key : ∀ l, rdTk1 (rd3 1 (false, encF (!tkNone t.v) ++ (encTk t ++ l))) = (t, false, l) := by
    intro l
    cases hn : tkNone t.v
    · have hs : tkSound t.v = true := by rcases h4 with h4 | h4; rw [h4] at hn; cases hn; exact h4
      rw [show encF (!false) = encN 0 1 from rfl, rd3_write 1 1 false _ (by omega) (by omega), show encTk t = encs t.nums by rw [encTk, hn]; rfl]
      rw [rdTk1, if_pos rfl, rdTk_write t false _ h5 h6, tkRes, if_pos]
      rw [tkGood, hs]; rfl
    · rw [show encF (!true) = encN 0 0 from rfl, rd3_write 1 0 false _ (by omega) (by omega), show encTk t = [] by rw [encTk, hn]; rfl, rdTk1_zero, (tkNone_v _).1 hn]
      rfl
  rw [key]; simp only
  rw [rd3_write 64 fired.length false _ (by omega) (by omega)]; simp only
  rw [rdFired_write fired false _ h8]; simp only
  rw [rd3_write _ notice false _ (by omega) (by omega)]; simp only
  rw [rd3_write _ dead false _ (by omega) (by omega)]
theorem rpGood_of {r : RepN} {tm : Nat} (h : r.Ok tm) (l : List UInt8) : rpGood (r, false, l) = true := by
  rw [rpGood, rpSound_of h]; rfl
theorem tkRes_ok2 {s : Bool × List UInt8} {t : TkN} {l : List UInt8} (h : tkRes (rdTk s) = (t, false, l)) : rdTk s = (t, false, l) ∧ tkSound t.v = true := by
  have hg : tkGood (rdTk s) = true := tkRes_bad (by rw [h])
  rw [tkRes, if_pos hg] at h
  rw [h] at hg
  rw [tkGood, Bool.and_eq_true] at hg
  exact ⟨h, hg.2⟩
theorem rdTk1_split {l l' : List UInt8} {t : TkN} {f : Nat × Bool × List UInt8} (hf : f = rd3 1 (false, l)) (h : rdTk1 f = (t, false, l')) : l = encF (!tkNone t.v) ++ encTk t ++ l' := by
  obtain ⟨v, b, m, h1⟩ := rd3_pair 1 (false, l)
  rw [h1] at hf
  subst hf
  have hv := rd3_le 1 (false, l)
  rw [h1] at hv
  simp only at hv
  rw [rdTk1] at h
  split at h
  · rename_i hv1
    simp only at hv1 h
    obtain ⟨h2, hs⟩ := tkRes_ok2 h
    have hb : b = false := by
      cases b
      · rfl
      · exfalso
        have : (rdTk (true, m)).2.1 = true := by simp only [rdTk]; exact rd3_bad (rd3_bad (rd3_bad (rd3_bad (rd3_bad (rd3_bad (rd3_bad (rd3_bad (rd3_bad rfl))))))))
        rw [h2] at this; cases this
    subst hb hv1
    rw [rd3_split h1, rdTk_split h2, encTk, tkSound_none hs]
    simp [encF]
  · rename_i hv1
    simp only [Prod.mk.injEq] at h
    obtain ⟨rfl, rfl, rfl⟩ := h
    have : v = 0 := by simp only at hv1; omega
    subst this
    rw [rd3_split h1]
    rfl
theorem rdTk1_false {f : Nat × Bool × List UInt8} {t : TkN} {l : List UInt8} (h : rdTk1 f = (t, false, l)) : f.2.1 = false := by
  rw [rdTk1] at h
  split at h
  · obtain ⟨h2, hs⟩ := tkRes_ok2 h
    cases hb : f.2.1
    · rfl
    · exfalso
      have : (rdTk f.2).2.1 = true := by simp only [rdTk]; exact rd3_bad (rd3_bad (rd3_bad (rd3_bad (rd3_bad (rd3_bad (rd3_bad (rd3_bad (rd3_bad hb))))))))
      rw [h2] at this; cases this
  · simp only [Prod.mk.injEq] at h
    rw [h.2]
theorem rdRep_split {l l' : List UInt8} {r : RepN} (h : rdRep (false, l) = (r, false, l')) (h0 : 0 ≤ r.time) : l = r.bytes ++ l' := by
  simp only [rdRep] at h
  obtain ⟨v1, b1, l1, h1⟩ := rd3_pair 99 (false, l)
  rw [h1] at h; simp only at h
  obtain ⟨v2, b2, l2, h2⟩ : ∃ v b m, rdI (b1, l1) = (v, b, m) := ⟨_, _, _, rfl⟩
  rw [h2] at h; simp only at h
  obtain ⟨f, hf⟩ : ∃ f, f = rd3 1 (b2, l2) := ⟨_, rfl⟩
  rw [← hf] at h
  obtain ⟨t, b3, l3, h3⟩ : ∃ t b m, rdTk1 f = (t, b, m) := ⟨_, _, _, rfl⟩
  rw [h3] at h; simp only at h
  obtain ⟨v4, b4, l4, h4⟩ := rd3_pair 64 (b3, l3)
  rw [h4] at h; simp only at h
  obtain ⟨xs, b5, l5, h5⟩ : ∃ xs b m, rdFired v4 (b4, l4) = (xs, b, m) := ⟨_, _, _, rfl⟩
  rw [h5] at h; simp only at h
  obtain ⟨v6, b6, l6, h6⟩ := rd3_pair 18446744073709551615 (b5, l5)
  rw [h6] at h; simp only at h
  obtain ⟨v7, b7, l7, h7⟩ := rd3_pair 128 (b6, l6)
  rw [h7] at h
  simp only [Prod.mk.injEq] at h
  obtain ⟨hr, hb, hl⟩ := h
  subst hr hb hl
  obtain rfl : b6 = false := rd3_ok h7
  obtain rfl : b5 = false := rd3_ok h6
  obtain rfl : b4 = false := rdFired_ok h5
  obtain rfl : b3 = false := rd3_ok h4
  have hb2 := rdTk1_false h3
  obtain rfl : b2 = false := by rw [hf] at hb2; cases b2; rfl; have := rd3_bad (m := 1) (s := (true, l2)) rfl; rw [hb2] at this; cases this
  obtain rfl : b1 = false := rdI_ok h2
  have hx := rdFired_len v4 (false, l4)
  rw [h5] at hx
  simp only at hx h0
  obtain ⟨tm, rfl⟩ := Int.eq_ofNat_of_zero_le h0
  rw [rd3_split h1, rdI_split h2, rdTk1_split hf h3, rd3_split h4, rdFired_split _ h5, rd3_split h6, rd3_split h7]
  simp [RepN.bytes, encR, encs, encIs, encFs, hx]
/-- What a good reading gives. -/
theorem rdRep_ids (s : Bool × List UInt8) : (rdRep s).1.t.id < 18446744073709551616 ∧ (rdRep s).1.notice < 18446744073709551616 ∧ ∀ n ∈ (rdRep s).1.fired, n < 256 ^ 8 := by
  simp only [rdRep]
  refine ⟨?_, by have := fun s => rd3_le 18446744073709551615 s; exact Nat.lt_succ_of_le (this _), rdFired_le _ _⟩
  unfold rdTk1
  split
  · unfold tkRes
    split
    · simp only [rdTk]; exact Nat.lt_succ_of_le (rd3_le 18446744073709551615 _)
    · exact (by decide : (0 : Nat) < 18446744073709551616)
  · exact (by decide : (0 : Nat) < 18446744073709551616)
theorem rpGood_ok {s : Bool × List UInt8} (h : rpGood (rdRep s) = true) : (rdRep s).2.1 = false ∧ (rdRep s).1.Ok (rdRep s).1.time.toNat := by
  rw [rpGood, Bool.and_eq_true] at h
  obtain ⟨h1, h2, h3⟩ := rdRep_ids s
  exact ⟨by simpa using h.1, of_rpSound h.2 h1 h2 h3⟩
end Go.Proofs.Ytlcefchbfjfifaa
