/- What was put is read back. -/
import Derived.Test.YtcblbjhhlnmkjaaGreatCcEv
import Derived.Test.YtcblbjhhlnmkjaaGreatQuillLawv
namespace Go.Proofs.YtcblbjhhlnmkjaaGreat
open Go.RowKit Cal
set_option maxHeartbeats 4000000
set_option maxRecDepth 100000
set_option linter.unusedVariables false

theorem rdSt_back (L : List Sp) (rest : List UInt8) (hb : ∀ s ∈ L, 0 ≤ s.f ∧ s.f ≤ 1125899906842624 ∧ 0 ≤ s.t ∧ s.t ≤ 1125899906842624) : ∀ j, j ≤ L.length → rdSt (encSps L ++ rest) false j = (L.take j, encSps (L.drop j) ++ rest, false)
  | 0, _ => by simp [rdSt]
  | j + 1, h => by
    have ih := rdSt_back L rest hb j (by omega)
    have hs := List.drop_eq_getElem_cons (l := L) (i := j) (by omega)
    have hbs := hb _ (List.getElem_mem (show j < L.length by omega))
    have ht := List.take_succ_eq_append_getElem (show j < L.length by omega)
    generalize L[j]'_ = s at *
    obtain ⟨f, t⟩ := s
    simp only at hbs
    obtain ⟨b1, b2, b3, b4⟩ := hbs
    obtain ⟨f, rfl⟩ : ∃ f' : Nat, f = (f' : Int) := ⟨f.toNat, by omega⟩
    obtain ⟨t, rfl⟩ : ∃ t' : Nat, t = (t' : Int) := ⟨t.toNat, by omega⟩
    have e : encSps (L.drop j) ++ rest = encN 0 f ++ (encN 0 t ++ (encSps (L.drop (j + 1)) ++ rest)) := by
      rw [hs]; simp [encSps, encS2, encs]
    rw [rdSt_succ, ih]
    simp only
    rw [e, written_read _ f false _ (by omega) (by omega)]
    simp only
    rw [written_read _ t false _ (by omega) (by omega), ht]
theorem rdRow_back (L : List Sp) (rest : List UInt8) (hb : ∀ s ∈ L, 0 ≤ s.f ∧ s.f ≤ 1125899906842624 ∧ 0 ≤ s.t ∧ s.t ≤ 1125899906842624) (hl : L.length ≤ 32) : rdRow false (encRow L ++ rest) = (L, rest, false) := by
  have e : encRow L ++ rest = encN 0 L.length ++ (encSps L ++ rest) := by simp [encRow, encs]
  rw [rdRow, e, written_read 32 L.length false _ (by omega) hl]
  simp only
  rw [rdSt_back L rest hb L.length (Nat.le_refl _)]
  simp [encSps]
theorem row_sp {l : List Sp} : ∀ {e : Int}, 0 ≤ e → Row e l → ∀ s ∈ l, 0 ≤ s.f ∧ s.f ≤ 1125899906842624 ∧ 0 ≤ s.t ∧ s.t ≤ 1125899906842624 := by
  induction l with
  | nil => intro e _ _ s hs; cases hs
  | cons x l ih =>
    intro e he h s hs
    obtain ⟨h1, h2, h3, h4⟩ := h
    rcases List.mem_cons.1 hs with rfl | hs
    · omega
    · exact ih (by omega) h4 s hs
theorem rdRes_back (c : Ca) (hk : checkE c = 0) : rdRes false (encCa c) = ⟨c, true, [], false⟩ := by
  have h := check_ok hk
  have ho := h.off
  have e : encCa c = encI c.off ++ (encRow c.wk ++ (encRow c.cl ++ [])) := by simp [encCa, encIs]
  obtain ⟨i1, i2, i3⟩ := written_readI c.off false (encRow c.wk ++ (encRow c.cl ++ [])) (by omega) (by omega)
  have e1 : rdC1 false (encCa c) = (c.wk, encRow c.cl ++ [], false) := by
    rw [rdC1, e, i2, i3, rdRow_back c.wk _ (row_sp (Int.le_refl 0) h.wk.1) h.wk.2.1]
  have e2 : rdC2 false (encCa c) = (c.cl, [], false) := by
    rw [rdC2, e1, rdRow_back c.cl _ (row_sp (Int.le_refl 0) h.cl) h.cn]
  have e3 : rdCa false (encCa c) = c := by
    rw [rdCa, e1, e2, e, i1]
  rw [rdRes, rdOkC, e3, e2, hk]
  rfl
end Go.Proofs.YtcblbjhhlnmkjaaGreat
