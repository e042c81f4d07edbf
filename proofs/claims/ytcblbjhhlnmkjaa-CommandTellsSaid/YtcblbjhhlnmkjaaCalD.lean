/- The references of chapters 8 and 10: Wrong, Until, Between, weekly, count, Elapsed. -/
import Derived.Test.YtcblbjhhlnmkjaaCalC
namespace Go.Proofs.Ytcblbjhhlnmkjaa
open Go.RowKit Cal
set_option maxHeartbeats 4000000
set_option maxRecDepth 100000
set_option linter.unusedVariables false
attribute [local irreducible] wpPlan

def overB : List Sp → Bool
  | [] => false
  | s :: l => decide (604800 < s.t) || overB l
def weekE (l : List Sp) : Int := if rowE l ≠ 0 then rowE l else if overB l = true then 2 else 0
theorem over_take (l : List Sp) (j : Nat) (s : Sp) (hs : l[j]? = some s) : overB (l.take (j + 1)) = (overB (l.take j) || decide (604800 < s.t)) := by
  have key : ∀ (a b : List Sp), overB (a ++ b) = (overB a || overB b) := fun a b => by
    induction a with
    | nil => simp [overB]
    | cons y a ih => rw [List.cons_append, overB, overB, ih, Bool.or_assoc]
  obtain ⟨h1, h2⟩ := List.getElem?_eq_some_iff.1 hs
  rw [List.take_succ_eq_append_getElem h1, h2, key]
  simp [overB]
theorem over_of_take (l : List Sp) (j : Nat) (h : overB (l.take j) = true) : overB l = true := by
  have key : ∀ (a b : List Sp), overB (a ++ b) = (overB a || overB b) := fun a b => by
    induction a with
    | nil => simp [overB]
    | cons y a ih => rw [List.cons_append, overB, overB, ih, Bool.or_assoc]
  rw [← List.take_append_drop j l, key, h]; rfl
theorem over_none : ∀ (l : List Sp), overB l = false → ∀ s ∈ l, s.t ≤ 604800
  | [], _, s, hs => absurd hs (by simp)
  | x :: l, h, s, hs => by
    simp only [overB, Bool.or_eq_false_iff, decide_eq_false_iff_not] at h
    rcases List.mem_cons.1 hs with rfl | hs
    · omega
    · exact over_none l h.2 s hs
theorem weekE_week {l : List Sp} (h : weekE l = 0) : Week l ∧ rowE l = 0 := by
  unfold weekE at h
  split at h
  · rename_i h1; exact absurd h h1
  · rename_i h1
    have h1 : rowE l = 0 := by simpa using h1
    split at h
    · omega
    · rename_i h2
      exact ⟨⟨(rowE_row h1).1, (rowE_row h1).2, over_none l (by simpa using h2)⟩, h1⟩
theorem Cal.Week.row {l : List Sp} (h : Week l) : rowE l = 0 := by
  unfold rowE
  rw [if_neg (by have := h.2.1; omega), rows_of l 0 (by omega) h.1]
theorem fwrong_any (F : Nat → Prop) (A : Option Addr) (c : Nat) (l : List Sp) (w : World) (hr : SpR w F A l.length l) (hsm : l.length ≤ 1000000) :
    Calls Try.prog 83 #[.slice A l.length c] w fun e w' => e = .returned (.int .i64 (weekE l)) ∧ Touch (fun _ => False) w w' := by
  have HR := Lib.hid hr
  have HF := Lib.hid (frow_any F A c l w hr hsm)
  clear hr
  by_cases hrow : rowE l = 0
  · rw [hrow] at HF
    have HV := Lib.hid (show weekE l = (if overB l = true then 2 else 0) by unfold weekE; rw [if_neg (by simp [hrow])])
    clear hrow
    go_enter Try.func83, Try.ntmps83
    go_wp2_with (go_at_call 84; go_must (refine HF.out.mono ?_); rintro e w0 ⟨rfl, t0⟩; have HT0 := Lib.hid t0; clear t0)
    clear HF
    go_loopw [4] (fun i wr => ∃ j : Nat, j ≤ l.length ∧ i = .int .i64 j ∧ overB (l.take j) = false ∧ wr = w0) (fun i _ => l.length - (intOf i).toNat)
    case atStart => exact ⟨0, by omega, rfl, rfl, rfl⟩
    case round =>
      obtain ⟨j, hj, rfl, hno, rfl⟩ := hrel
      have HN := Lib.hid hno
      clear hno
      by_cases hjk : j < l.length
      · have ha : l[j]? = some (l[j]'hjk) := List.getElem?_eq_getElem _
        obtain ⟨g, off, rfl, hg, -, hc0, hc1⟩ := (HR.out.touch HT0.out (fun _ _ e => e)).at_ ha
        have HE := Lib.hid (over_take l j _ ha)
        generalize l[j]'hjk = s at *
        obtain ⟨f, t⟩ := s
        simp only at hc0 hc1
        clear ha
        by_cases h2 : 604800 < t
        · have HW := Lib.hid (show weekE l = 2 by rw [HV.out, over_of_take l (j + 1) (by rw [HE.out]; simp [h2])]; rfl)
          go_wp2
          go_ret
          exact ⟨ret_int HW.out.symm, HT0.out⟩
        · have HW := Lib.hid (show overB (l.take (j + 1)) = false by rw [HE.out, HN.out]; simp [h2])
          go_wp2
          go_roundw
          case rel => exact ⟨j + 1, by omega, by go_num, HW.out, trivial⟩
          case measure => simp [intOf]; omega
      · obtain rfl : j = l.length := by omega
        have HW := Lib.hid (show weekE l = 0 by rw [HV.out, ← List.take_length (l := l), HN.out]; rfl)
        go_wp2
        go_ret
        exact ⟨ret_int HW.out.symm, HT0.out⟩
  · have HV := Lib.hid (show weekE l = rowE l by unfold weekE; rw [if_pos hrow])
    have hb : (rowE l != 0) = true := by simpa using hrow
    generalize rowE l = v at *
    clear hrow
    go_enter Try.func83, Try.ntmps83
    go_wp2_with (go_at_call 84; go_must (refine HF.out.mono ?_); rintro e w0 ⟨rfl, t0⟩; have HT0 := Lib.hid t0; clear t0)
    go_ret
    exact ⟨ret_int HV.out.symm, HT0.out⟩

theorem U_zero {l : List Sp} (h : Week l) : U l 0 = 0 := by
  unfold U
  rw [show (0 : Int) / 604800 = 0 by omega, show (0 : Int) % 604800 = 0 by omega, within_self]; simp
theorem U_bd {l : List Sp} (h : Week l) {u : Int} (hu : 0 ≤ u) : 0 ≤ U l u ∧ U l u ≤ u := by
  have e1 := cnt_of (p := fun u => hasB l (u % 604800)) (U l) hu (fun u h1 h2 => U_step h (by omega))
  have e2 := cnt_pos (p := fun u => hasB l (u % 604800)) hu
  rw [U_zero h] at e1
  omega
theorem U_parts {l : List Sp} (h : Week l) {u : Int} (hu : 0 ≤ u) : 0 ≤ u / 604800 * len l ∧ u / 604800 * len l ≤ u ∧ 0 ≤ within l 0 (u % 604800) ∧ within l 0 (u % 604800) ≤ 604800 := by
  have h1 := within_bd h.1 (a := 0) (b := u % 604800) (by omega)
  have h2 := (U_bd h hu).2
  unfold U at h2
  have h3 := h.len_bd
  have h4 : 0 ≤ u / 604800 * len l := Int.mul_nonneg (by omega) h3.1
  omega
theorem funtil_any (F : Nat → Prop) (A : Option Addr) (c : Nat) (l : List Sp) (u : Int) (w : World) (hr : SpR w F A l.length l) (hw : Week l) (h0 : 0 ≤ u) (h1 : u ≤ 2251799813685248) :
    Calls Try.prog 159 #[.slice A l.length c, .int .i64 u] w fun e w' => e = .returned (.int .i64 (U l u)) ∧ Touch (fun _ => False) w w' := by
  have HR := Lib.hid hr
  have HL := Lib.hid (fun w1 hr => flen_any F A c l w1 hr hw.row)
  have HWi := Lib.hid (fun w1 hr => fwithin_any F A c l 0 (u % 604800) w1 hr hw.row)
  obtain ⟨p0, p1, p2, p3⟩ := U_parts hw h0
  have HV := Lib.hid (show U l u = u / 604800 * len l + within l 0 (u % 604800) from rfl)
  have hlb := hw.len_bd
  generalize U l u = v at *
  generalize within l 0 (u % 604800) = x at *
  generalize len l = y at *
  clear hr hw
  go_enter Try.func159, Try.ntmps159
  go_wp2_with (first
    | (go_at_call 134; go_must (refine (HL.out _ (by exact HR.out)).mono ?_); rintro e w0 ⟨rfl, t0⟩; have HT0 := Lib.hid t0; clear t0)
    | (go_at_call 146; go_must (refine (HWi.out _ (by exact HR.out.touch HT0.out (fun _ _ e => e))).mono ?_); rintro e w1 ⟨rfl, t1⟩; have HT1 := Lib.hid (HT0.out.trans t1 (fun _ _ e => e)); clear t1))
  go_ret
  exact ⟨ret_int HV.out.symm, HT1.out⟩
theorem fbetween_any (F : Nat → Prop) (A : Option Addr) (c : Nat) (l : List Sp) (x y : Int) (w : World) (hr : SpR w F A l.length l) (hw : Week l) (h0 : 0 ≤ x) (h1 : x ≤ 2251799813685248) (h2 : 0 ≤ y) (h3 : y ≤ 2251799813685248) :
    Calls Try.prog 148 #[.slice A l.length c, .int .i64 x, .int .i64 y] w fun e w' => e = .returned (.int .i64 (max (U l y - U l x) 0)) ∧ Touch (fun _ => False) w w' := by
  have HR := Lib.hid hr
  have HX := Lib.hid (fun w1 hr => funtil_any F A c l x w1 hr hw h0 h1)
  have HY := Lib.hid (fun w1 hr => funtil_any F A c l y w1 hr hw h2 h3)
  have hx := U_bd hw h0
  have hy := U_bd hw h2
  generalize U l x = p at *
  generalize U l y = q at *
  clear hr hw
  by_cases hpq : q - p < 0
  · have HV := Lib.hid (show max (q - p) 0 = 0 by omega)
    go_enter Try.func148, Try.ntmps148
    go_wp2_with (first
      | (go_at_call 159; have M9 := M1; go_must (refine (HX.out _ (by exact HR.out.touch HT0.out (fun _ _ e => e))).mono ?_); rintro e w1 ⟨rfl, t1⟩; have HT1 := Lib.hid (HT0.out.trans t1 (fun _ _ e => e)); clear t1)
      | (go_at_call 159; go_must (refine (HY.out _ (by exact HR.out)).mono ?_); rintro e w0 ⟨rfl, t0⟩; have HT0 := Lib.hid t0; have M1 := Lib.hid trivial; clear t0))
    go_ret
    exact ⟨ret_int HV.out.symm, HT1.out⟩
  · have HV := Lib.hid (show max (q - p) 0 = q - p by omega)
    go_enter Try.func148, Try.ntmps148
    go_wp2_with (first
      | (go_at_call 159; have M9 := M1; go_must (refine (HX.out _ (by exact HR.out.touch HT0.out (fun _ _ e => e))).mono ?_); rintro e w1 ⟨rfl, t1⟩; have HT1 := Lib.hid (HT0.out.trans t1 (fun _ _ e => e)); clear t1)
      | (go_at_call 159; go_must (refine (HY.out _ (by exact HR.out)).mono ?_); rintro e w0 ⟨rfl, t0⟩; have HT0 := Lib.hid t0; have M1 := Lib.hid trivial; clear t0))
    go_ret
    exact ⟨ret_int HV.out.symm, HT1.out⟩
/-- A calendar's rows lie in memory. -/
structure CaR (w : World) (F : Nat → Prop) (c : Ca) (A B : Option Addr) : Prop where
  wk : SpR w F A c.wk.length c.wk
  cl : SpR w F B c.cl.length c.cl
theorem CaR.touch {w w' : World} {F S : Nat → Prop} {c : Ca} {A B : Option Addr} (h : CaR w F c A B) (ht : Touch S w w') (hd : ∀ k, F k → ¬ S k) : CaR w' F c A B := ⟨h.wk.touch ht hd, h.cl.touch ht hd⟩
theorem fweekly_any (F : Nat → Prop) (A B : Option Addr) (k m : Nat) (c : Ca) (a b : Int) (w : World) (hr : CaR w F c A B) (hc : c.Ok) (ha : 0 ≤ a) (ha' : a ≤ 1125899906842624) (hb : 0 ≤ b) (hb' : b ≤ 1125899906842624) :
    Calls Try.prog 138 #[.agg #[.int .i64 c.off, .slice A c.wk.length k, .slice B c.cl.length m], .int .i64 a, .int .i64 b] w fun e w' => e = .returned (.int .i64 (c.weekly a b)) ∧ Touch (fun _ => False) w w' := by
  obtain ⟨o1, o2⟩ := hc.off
  have HT := Lib.hid ((Touch.refl (fun _ => False) w).alloc (.cells #[.int .i64 c.off, .slice A c.wk.length k, .slice B c.cl.length m] 25))
  have HB := Lib.hid (fun w1 hr => fbetween_any F A k c.wk (a - c.off + 604800) (b - c.off + 604800) w1 hr hc.wk (by omega) (by omega) (by omega) (by omega))
  have HV := Lib.hid (show c.weekly a b = max (U c.wk (b - c.off + 604800) - U c.wk (a - c.off + 604800)) 0 by
    unfold Ca.weekly Ca.V
    rw [show a + (604800 - c.off) = a - c.off + 604800 by omega, show b + (604800 - c.off) = b - c.off + 604800 by omega])
  have HR := Lib.hid hr.wk
  obtain ⟨off, wk, cl⟩ := c
  simp only at *
  generalize Ca.weekly _ a b = v at *
  clear hr hc
  go_enter Try.func138, Try.ntmps138
  go_wp2_with (go_at_call 148; go_must (refine (HB.out _ (by exact HR.out.touch HT.out (fun _ _ e => e))).mono ?_); rintro e w0 ⟨rfl, t0⟩; have HT0 := Lib.hid (HT.out.trans t0 (fun _ _ e => e)); clear t0)
  go_ret
  exact ⟨ret_int HV.out.symm, HT0.out⟩
end Go.Proofs.Ytcblbjhhlnmkjaa
