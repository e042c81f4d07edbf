/- Contracts: the plain law (a contract's levels are a row of pairs: budget, party); contract.within, contract.Check, the reference's Good. (written by genchA.py) -/
import Derived.Test.YtlcefchbfjfifaaGreatVCalJ
namespace Go.Proofs.YtlcefchbfjfifaaGreat
open Go.RowKit Cal
set_option maxHeartbeats 4000000
set_option maxRecDepth 100000
set_option linter.unusedVariables false

/-- A contract; its levels as pairs (f the budget, t the party). -/
structure Co where
  cal : Int
  lv : List Sp
  rt : Int
  bk : Int
def wB (n lo hi : Int) : Bool := decide (lo ≤ n) && decide (n ≤ hi)
theorem wB_true {n lo hi : Int} (h : wB n lo hi = true) : lo ≤ n ∧ n ≤ hi := by simpa [wB] using h
theorem wB_false {n lo hi : Int} (h : wB n lo hi = false) : n < lo ∨ hi < n := by
  by_cases h1 : lo ≤ n
  · right; simp [wB, h1] at h; exact h
  · left; omega
theorem wB_of {n lo hi : Int} (h1 : lo ≤ n) (h2 : n ≤ hi) : wB n lo hi = true := by simp [wB, h1, h2]
def lvB (s : Sp) : Bool := wB s.f 1 1125899906842624 && wB s.t 0 7
def lvsB : List Sp → Bool
  | [] => true
  | s :: l => lvB s && lvsB l
def hdB (c : Co) : Bool := wB c.cal 0 7 && wB c.lv.length 1 6 && wB c.rt 1 8 && wB c.bk 1 1048576
def goodB (c : Co) : Bool := hdB c && lvsB c.lv
def goodE (c : Co) : Int := if goodB c = true then 0 else 2
theorem lvsB_drop {l : List Sp} {j : Nat} {s : Sp} (h : l[j]? = some s) : lvsB (l.drop j) = (lvB s && lvsB (l.drop (j + 1))) := by
  obtain ⟨h1, h2⟩ := List.getElem?_eq_some_iff.1 h
  rw [List.drop_eq_getElem_cons h1, h2, lvsB]
theorem lvsB_mem : ∀ {l : List Sp}, lvsB l = true → ∀ s ∈ l, 1 ≤ s.f ∧ s.f ≤ 1125899906842624 ∧ 0 ≤ s.t ∧ s.t ≤ 7
  | [], _, s, hs => by cases hs
  | a :: l, h, s, hs => by
    simp only [lvsB, Bool.and_eq_true] at h
    rcases List.mem_cons.1 hs with rfl | hs
    · have := h.1; simp only [lvB, Bool.and_eq_true] at this
      have h1 := wB_true this.1; have h2 := wB_true this.2; omega
    · exact lvsB_mem h.2 s hs
theorem good_hd {c : Co} (h : goodB c = true) : 0 ≤ c.cal ∧ c.cal ≤ 7 ∧ 1 ≤ c.lv.length ∧ c.lv.length ≤ 6 ∧ 1 ≤ c.rt ∧ c.rt ≤ 8 ∧ 1 ≤ c.bk ∧ c.bk ≤ 1048576 := by
  simp only [goodB, hdB, Bool.and_eq_true] at h
  have h1 := wB_true h.1.1.1.1; have h2 := wB_true h.1.1.1.2; have h3 := wB_true h.1.1.2; have h4 := wB_true h.1.2; omega
theorem good_lv {c : Co} (h : goodB c = true) : ∀ s ∈ c.lv, 1 ≤ s.f ∧ s.f ≤ 1125899906842624 ∧ 0 ≤ s.t ∧ s.t ≤ 7 := by
  simp only [goodB, Bool.and_eq_true] at h; exact lvsB_mem h.2
theorem good0 {c : Co} (h : hdB c = false) : goodB c = false := by simp [goodB, h]
theorem good1 {c : Co} (h : hdB c = true) : goodB c = lvsB c.lv := by simp [goodB, h]

theorem within_any (n lo hi : Int) (w : World) : Calls Tryz.prog 38 #[.int .i64 n, .int .i64 lo, .int .i64 hi] w fun e w' => e = .returned (.bool (wB n lo hi)) ∧ w = w' := by
  go_enter Tryz.func38, Tryz.ntmps38
  go_wp2
  all_goals go_ret
  all_goals exact ⟨ret_bool (by unfold wB; simp <;> omega), rfl⟩
theorem kcheck_any (F : Nat → Prop) (A : Option Addr) (n : Nat) (c : Co) (w : World) (hr : SpR w F A c.lv.length c.lv) :
    Calls Tryz.prog 9 #[.agg #[.int .i64 c.cal, .slice A c.lv.length n, .int .i64 c.rt, .int .i64 c.bk]] w fun e w' => e = .returned (.int .i64 (goodE c)) ∧ Touch (fun _ => False) w w' := by
  have HT := Lib.hid ((Touch.refl (fun _ => False) w).alloc (.cells #[.int .i64 c.cal, .slice A c.lv.length n, .int .i64 c.rt, .int .i64 c.bk] 24))
  have HB0 := Lib.hid (Blk.new w 24 #[.int .i64 c.cal, .slice A c.lv.length n, .int .i64 c.rt, .int .i64 c.bk])
  have HR := Lib.hid hr
  have HE := Lib.hid (show goodE c = if goodB c = true then 0 else 2 from rfl)
  have HG0 := Lib.hid (fun h => good0 (c := c) h)
  have HG1 := Lib.hid (fun h => good1 (c := c) h)
  have HH := Lib.hid (show hdB c = (wB c.cal 0 7 && wB c.lv.length 1 6 && wB c.rt 1 8 && wB c.bk 1 1048576) from rfl)
  generalize goodE c = v at *
  generalize goodB c = gd at *
  generalize hdB c = hd at *
  clear hr
  cases h0 : wB c.cal 0 7
  · have HV := Lib.hid (show v = 2 by rw [HE.out, HG0.out (by rw [HH.out]; simp [h0])]; rfl)
    clear HE HG0 HG1 HH
    go_enter Tryz.func9, Tryz.ntmps9
    go_wp2_with (go_at_call 38; go_must (refine (within_any _ _ _ _).mono ?_); rintro e w1 ⟨rfl, rfl⟩)
    go_ret
    exact ⟨ret_int HV.out.symm, HT.out⟩
  cases h1 : wB (c.lv.length : Int) 1 6
  · have HV := Lib.hid (show v = 2 by rw [HE.out, HG0.out (by rw [HH.out]; simp [h0, h1])]; rfl)
    clear HE HG0 HG1 HH
    go_enter Tryz.func9, Tryz.ntmps9
    go_wp2_with (go_at_call 38; go_must (refine (within_any _ _ _ _).mono ?_); rintro e w1 ⟨rfl, rfl⟩)
    go_ret
    exact ⟨ret_int HV.out.symm, HT.out⟩
  cases h2 : wB c.rt 1 8
  · have HV := Lib.hid (show v = 2 by rw [HE.out, HG0.out (by rw [HH.out]; simp [h0, h1, h2])]; rfl)
    clear HE HG0 HG1 HH
    go_enter Tryz.func9, Tryz.ntmps9
    go_wp2_with (go_at_call 38; go_must (refine (within_any _ _ _ _).mono ?_); rintro e w1 ⟨rfl, rfl⟩)
    go_ret
    exact ⟨ret_int HV.out.symm, HT.out⟩
  cases h3 : wB c.bk 1 1048576
  · have HV := Lib.hid (show v = 2 by rw [HE.out, HG0.out (by rw [HH.out]; simp [h0, h1, h2, h3])]; rfl)
    clear HE HG0 HG1 HH
    go_enter Tryz.func9, Tryz.ntmps9
    go_wp2_with (go_at_call 38; go_must (refine (within_any _ _ _ _).mono ?_); rintro e w1 ⟨rfl, rfl⟩)
    go_ret
    exact ⟨ret_int HV.out.symm, HT.out⟩
  have HV := Lib.hid (show v = if lvsB c.lv = true then 0 else 2 by rw [HE.out, HG1.out (by rw [HH.out]; simp [h0, h1, h2, h3])])
  have hl := wB_true h1
  obtain ⟨cal, lv, rt, bk⟩ := c
  simp only at *
  clear HE HG0 HG1 HH
  go_enter Tryz.func9, Tryz.ntmps9
  go_wp2_with (go_at_call 38; go_must (refine (within_any _ _ _ _).mono ?_); rintro e w1 ⟨rfl, rfl⟩)
  go_loopw [32] (fun i wr => ∃ j : Nat, j ≤ lv.length ∧ i = .int .i64 j ∧ lvsB (lv.drop j) = lvsB lv ∧ Touch (fun _ => False) w wr) (fun i _ => lv.length - (intOf i).toNat)
  case atStart => exact ⟨0, by omega, rfl, rfl, HT.out⟩
  case round =>
    obtain ⟨j, hj, rfl, hno, hT⟩ := hrel
    have HN := Lib.hid hno
    have HTr := Lib.hid hT
    clear hno hT h0 h1 h2 h3
    by_cases hjk : j < lv.length
    · have ha : lv[j]? = some (lv[j]'hjk) := List.getElem?_eq_getElem _
      obtain ⟨g, off, rfl, hg, -, hc0, hc1⟩ := (HR.out.touch HTr.out (fun _ _ e => e)).at_ ha
      have HD := Lib.hid (lvsB_drop ha)
      generalize lv[j]'hjk = s at *
      obtain ⟨f, t⟩ := s
      simp only [lvB] at hc0 hc1 HD
      clear ha
      have HTa := Lib.hid (HTr.out.alloc (.cells #[.int .i64 f, .int .i64 t] 68))
      cases hf : wB f 1 1125899906842624
      · have HV2 := Lib.hid (show v = 2 by rw [HV.out, ← HN.out, HD.out, hf]; rfl)
        clear HV HN HD
        go_wp2_with (go_at_call 38; go_must (refine (within_any _ _ _ _).mono ?_); rintro e w1 ⟨rfl, rfl⟩)
        go_ret
        exact ⟨ret_int HV2.out.symm, HTa.out⟩
      cases ht : wB t 0 7
      · have HV2 := Lib.hid (show v = 2 by rw [HV.out, ← HN.out, HD.out, hf, ht]; rfl)
        clear HV HN HD
        go_wp2_with (go_at_call 38; go_must (refine (within_any _ _ _ _).mono ?_); rintro e w1 ⟨rfl, rfl⟩)
        go_ret
        exact ⟨ret_int HV2.out.symm, HTa.out⟩
      have HN2 := Lib.hid (show lvsB (lv.drop (j + 1)) = lvsB lv by rw [← HN.out, HD.out, hf, ht]; rfl)
      clear HN HD
      go_wp2_with (go_at_call 38; go_must (refine (within_any _ _ _ _).mono ?_); rintro e w1 ⟨rfl, rfl⟩)
      go_roundw
      case rel => exact ⟨j + 1, by omega, by go_num, HN2.out, HTa.out⟩
      case measure => simp [intOf]; omega
    · obtain rfl : j = lv.length := by omega
      have HV2 := Lib.hid (show v = 0 by rw [HV.out, ← HN.out, List.drop_length]; rfl)
      clear HV HN
      go_wp2
      go_ret
      exact ⟨ret_int HV2.out.symm, HTr.out⟩
theorem fgood_any (F : Nat → Prop) (A : Option Addr) (n : Nat) (c : Co) (w : World) (hr : SpR w F A c.lv.length c.lv) :
    Calls Tryz.prog 10 #[.agg #[.int .i64 c.cal, .slice A c.lv.length n, .int .i64 c.rt, .int .i64 c.bk]] w fun e w' => e = .returned (.bool (goodB c)) ∧ Touch (fun _ => False) w w' := by
  have HT := Lib.hid ((Touch.refl (fun _ => False) w).alloc (.cells #[.int .i64 c.cal, .slice A c.lv.length n, .int .i64 c.rt, .int .i64 c.bk] 24))
  have HB0 := Lib.hid (Blk.new w 24 #[.int .i64 c.cal, .slice A c.lv.length n, .int .i64 c.rt, .int .i64 c.bk])
  have HR := Lib.hid hr
  have HG0 := Lib.hid (fun h => good0 (c := c) h)
  have HG1 := Lib.hid (fun h => good1 (c := c) h)
  have HH := Lib.hid (show hdB c = (wB c.cal 0 7 && wB c.lv.length 1 6 && wB c.rt 1 8 && wB c.bk 1 1048576) from rfl)
  generalize goodB c = v at *
  generalize hdB c = hd at *
  clear hr
  by_cases h0 : c.cal < 0
  · have HV := Lib.hid (show v = false by rw [HG0.out (by rw [HH.out]; rcases Bool.eq_false_or_eq_true (wB c.cal 0 7) with h | h; exact absurd (wB_true h) (by omega); simp [h])])
    clear HG0 HG1 HH
    go_enter Tryz.func10, Tryz.ntmps10
    go_wp2
    go_ret
    exact ⟨ret_bool HV.out.symm, HT.out⟩
  by_cases h1 : 7 < c.cal
  · have HV := Lib.hid (show v = false by rw [HG0.out (by rw [HH.out]; rcases Bool.eq_false_or_eq_true (wB c.cal 0 7) with h | h; exact absurd (wB_true h) (by omega); simp [h])])
    clear HG0 HG1 HH
    go_enter Tryz.func10, Tryz.ntmps10
    go_wp2
    go_ret
    exact ⟨ret_bool HV.out.symm, HT.out⟩
  by_cases h2 : (c.lv.length : Int) < 1
  · have HV := Lib.hid (show v = false by rw [HG0.out (by rw [HH.out]; rcases Bool.eq_false_or_eq_true (wB (c.lv.length : Int) 1 6) with h | h; exact absurd (wB_true h) (by omega); simp [h])])
    clear HG0 HG1 HH
    go_enter Tryz.func10, Tryz.ntmps10
    go_wp2
    go_ret
    exact ⟨ret_bool HV.out.symm, HT.out⟩
  by_cases h3 : 6 < (c.lv.length : Int)
  · have HV := Lib.hid (show v = false by rw [HG0.out (by rw [HH.out]; rcases Bool.eq_false_or_eq_true (wB (c.lv.length : Int) 1 6) with h | h; exact absurd (wB_true h) (by omega); simp [h])])
    clear HG0 HG1 HH
    go_enter Tryz.func10, Tryz.ntmps10
    go_wp2
    go_ret
    exact ⟨ret_bool HV.out.symm, HT.out⟩
  by_cases h4 : c.rt < 1
  · have HV := Lib.hid (show v = false by rw [HG0.out (by rw [HH.out]; rcases Bool.eq_false_or_eq_true (wB c.rt 1 8) with h | h; exact absurd (wB_true h) (by omega); simp [h])])
    clear HG0 HG1 HH
    go_enter Tryz.func10, Tryz.ntmps10
    go_wp2
    go_ret
    exact ⟨ret_bool HV.out.symm, HT.out⟩
  by_cases h5 : 8 < c.rt
  · have HV := Lib.hid (show v = false by rw [HG0.out (by rw [HH.out]; rcases Bool.eq_false_or_eq_true (wB c.rt 1 8) with h | h; exact absurd (wB_true h) (by omega); simp [h])])
    clear HG0 HG1 HH
    go_enter Tryz.func10, Tryz.ntmps10
    go_wp2
    go_ret
    exact ⟨ret_bool HV.out.symm, HT.out⟩
  by_cases h6 : c.bk < 1
  · have HV := Lib.hid (show v = false by rw [HG0.out (by rw [HH.out]; rcases Bool.eq_false_or_eq_true (wB c.bk 1 1048576) with h | h; exact absurd (wB_true h) (by omega); simp [h])])
    clear HG0 HG1 HH
    go_enter Tryz.func10, Tryz.ntmps10
    go_wp2
    go_ret
    exact ⟨ret_bool HV.out.symm, HT.out⟩
  by_cases h7 : 1048576 < c.bk
  · have HV := Lib.hid (show v = false by rw [HG0.out (by rw [HH.out]; rcases Bool.eq_false_or_eq_true (wB c.bk 1 1048576) with h | h; exact absurd (wB_true h) (by omega); simp [h])])
    clear HG0 HG1 HH
    go_enter Tryz.func10, Tryz.ntmps10
    go_wp2
    go_ret
    exact ⟨ret_bool HV.out.symm, HT.out⟩
  have HV := Lib.hid (show v = lvsB c.lv by rw [HG1.out (by rw [HH.out]; simp only [wB_of (show 0 ≤ c.cal by omega) (show c.cal ≤ 7 by omega), wB_of (show (1 : Int) ≤ c.lv.length by omega) (show (c.lv.length : Int) ≤ 6 by omega), wB_of (show 1 ≤ c.rt by omega) (show c.rt ≤ 8 by omega), wB_of (show 1 ≤ c.bk by omega) (show c.bk ≤ 1048576 by omega)]; rfl)])
  have hl : c.lv.length ≤ 6 := by omega
  obtain ⟨cal, lv, rt, bk⟩ := c
  simp only at *
  clear HG0 HG1 HH
  go_enter Tryz.func10, Tryz.ntmps10
  go_wp2_with fail
  go_loopw [3] (fun i wr => ∃ j : Nat, j ≤ lv.length ∧ i = .int .i64 j ∧ lvsB (lv.drop j) = lvsB lv ∧ Touch (fun _ => False) (w.alloc (.cells #[.int .i64 cal, .slice A lv.length n, .int .i64 rt, .int .i64 bk] 24)) wr) (fun i _ => lv.length - (intOf i).toNat)
  case atStart => exact ⟨0, by omega, rfl, rfl, Touch.refl _ _⟩
  case round =>
    obtain ⟨j, hj, rfl, hno, hT⟩ := hrel
    have HN := Lib.hid hno
    have HTr := Lib.hid hT
    have hbr := hT.blk HB0.out (fun e => e)
    have q1 := hbr.cell 1
    simp at q1
    clear hno hT h0 h1 h2 h3 h4 h5 h6 h7 hbr
    by_cases hjk : j < lv.length
    · have ha : lv[j]? = some (lv[j]'hjk) := List.getElem?_eq_getElem _
      obtain ⟨g, off, rfl, hg, -, hc0, hc1⟩ := (HR.out.touch (HT.out.trans HTr.out (fun _ _ e => e)) (fun _ _ e => e)).at_ ha
      have HD := Lib.hid (lvsB_drop ha)
      generalize lv[j]'hjk = s at *
      obtain ⟨f, t⟩ := s
      simp only [lvB] at hc0 hc1 HD
      clear ha
      have HTa := Lib.hid (HTr.out.alloc (.cells #[.int .i64 f, .int .i64 t] 68))
      by_cases hok : (1 ≤ f ∧ f ≤ 1125899906842624) ∧ 0 ≤ t ∧ t ≤ 7
      · have HN2 := Lib.hid (show lvsB (lv.drop (j + 1)) = lvsB lv by rw [← HN.out, HD.out, wB_of hok.1.1 hok.1.2, wB_of hok.2.1 hok.2.2]; rfl)
        clear HN HD
        have x0 : ¬ f < 1 := by omega
        have x1 : ¬ 1125899906842624 < f := by omega
        have x2 : ¬ t < 0 := by omega
        have x3 : ¬ 7 < t := by omega
        clear hok
        go_wp2_with fail
        go_roundw
        case rel => exact ⟨j + 1, by omega, by go_num, HN2.out, HTa.out⟩
        case measure => simp [intOf]; omega
      · have HV2 := Lib.hid (show v = false by
          rw [HV.out, ← HN.out, HD.out]
          rcases Bool.eq_false_or_eq_true (wB f 1 1125899906842624) with h | h
          · rcases Bool.eq_false_or_eq_true (wB t 0 7) with h' | h'
            · exact absurd ⟨wB_true h, wB_true h'⟩ hok
            · rw [h']; simp
          · rw [h]; rfl)
        clear HN HD HV
        by_cases x0 : f < 1
        · go_wp2
          go_ret
          exact ⟨ret_bool HV2.out.symm, HT.out.trans HTa.out (fun _ _ e => e)⟩
        by_cases x1 : 1125899906842624 < f
        · go_wp2
          go_ret
          exact ⟨ret_bool HV2.out.symm, HT.out.trans HTa.out (fun _ _ e => e)⟩
        by_cases x2 : t < 0
        · go_wp2
          go_ret
          exact ⟨ret_bool HV2.out.symm, HT.out.trans HTa.out (fun _ _ e => e)⟩
        have x3 : 7 < t := by omega
        go_wp2
        go_ret
        exact ⟨ret_bool HV2.out.symm, HT.out.trans HTa.out (fun _ _ e => e)⟩
    · obtain rfl : j = lv.length := by omega
      have HV2 := Lib.hid (show v = true by rw [HV.out, ← HN.out, List.drop_length]; rfl)
      clear HV HN
      go_wp2
      go_ret
      exact ⟨ret_bool HV2.out.symm, HT.out.trans HTr.out (fun _ _ e => e)⟩
end Go.Proofs.YtlcefchbfjfifaaGreat
