/- The references of chapters 8 and 10: Wrong, Until, Between, weekly, count, Elapsed. The reference of chapter 10: count, Elapsed, Rest, Check, Open, Same. The reference of chapter 10: Elapsed, Due, Rest. The reference of chapter 10: Check, Open, Same. -/
import Derived.Test.YtlcefchbfjfifaaVCalC
section
namespace Go.Proofs.Ytlcefchbfjfifaa
open Go.RowKit Cal
set_option maxHeartbeats 4000000
set_option maxRecDepth 100000
set_option linter.unusedVariables false
attribute [local irreducible] wpPlan

def overB : List Sp → Bool
  | [] => false
  | s :: l => decide (604800 < s.t) || overB l
def weekE (l : List Sp) : Int := if rowE l ≠ 0 then rowE l else if overB l = true then 2 else 0
theorem over_take (l : List Sp) (j : Nat) (s : Sp) (hs : l[j]? = some s) : overB (l.take (j + 1)) = (overB (l.take j) || decide (604800 < s.t)) := by
  have key : ∀ (a b : List Sp), overB (a ++ b) = (overB a || overB b) := fun a b => by
    induction a with
    | nil => simp [overB]
    | cons y a ih => rw [List.cons_append, overB, overB, ih, Bool.or_assoc]
  obtain ⟨h1, h2⟩ := List.getElem?_eq_some_iff.1 hs
  rw [List.take_succ_eq_append_getElem h1, h2, key]
  simp [overB]
theorem over_of_take (l : List Sp) (j : Nat) (h : overB (l.take j) = true) : overB l = true := by
  have key : ∀ (a b : List Sp), overB (a ++ b) = (overB a || overB b) := fun a b => by
    induction a with
    | nil => simp [overB]
    | cons y a ih => rw [List.cons_append, overB, overB, ih, Bool.or_assoc]
  rw [← List.take_append_drop j l, key, h]; rfl
theorem over_none : ∀ (l : List Sp), overB l = false → ∀ s ∈ l, s.t ≤ 604800
  | [], _, s, hs => absurd hs (by simp)
  | x :: l, h, s, hs => by
    simp only [overB, Bool.or_eq_false_iff, decide_eq_false_iff_not] at h
    rcases List.mem_cons.1 hs with rfl | hs
    · omega
    · exact over_none l h.2 s hs
theorem weekE_week {l : List Sp} (h : weekE l = 0) : Week l ∧ rowE l = 0 := by
  unfold weekE at h
  split at h
  · rename_i h1; exact absurd h h1
  · rename_i h1
    have h1 : rowE l = 0 := by simpa using h1
    split at h
    · omega
    · rename_i h2
      exact ⟨⟨(rowE_row h1).1, (rowE_row h1).2, over_none l (by simpa using h2)⟩, h1⟩
theorem Cal.Week.row {l : List Sp} (h : Week l) : rowE l = 0 := by
  unfold rowE
  rw [if_neg (by have := h.2.1; omega), rows_of l 0 (by omega) h.1]
theorem fwrong_any (F : Nat → Prop) (A : Option Addr) (c : Nat) (l : List Sp) (w : World) (hr : SpR w F A l.length l) (hsm : l.length ≤ 1000000) :
    Calls Try.prog 76 #[.slice A l.length c] w fun e w' => e = .returned (.int .i64 (weekE l)) ∧ Touch (fun _ => False) w w' := by
  have HR := Lib.hid hr
  have HF := Lib.hid (frow_any F A c l w hr hsm)
  clear hr
  by_cases hrow : rowE l = 0
  · rw [hrow] at HF
    have HV := Lib.hid (show weekE l = (if overB l = true then 2 else 0) by unfold weekE; rw [if_neg (by simp [hrow])])
    clear hrow
    go_enter Try.func76, Try.ntmps76
    go_wp2_with (go_at_call 77; go_must (refine HF.out.mono ?_); rintro e w0 ⟨rfl, t0⟩; have HT0 := Lib.hid t0; clear t0)
    clear HF
    go_loopw [4] (fun i wr => ∃ j : Nat, j ≤ l.length ∧ i = .int .i64 j ∧ overB (l.take j) = false ∧ wr = w0) (fun i _ => l.length - (intOf i).toNat)
    case atStart => exact ⟨0, by omega, rfl, rfl, rfl⟩
    case round =>
      obtain ⟨j, hj, rfl, hno, rfl⟩ := hrel
      have HN := Lib.hid hno
      clear hno
      by_cases hjk : j < l.length
      · have ha : l[j]? = some (l[j]'hjk) := List.getElem?_eq_getElem _
        obtain ⟨g, off, rfl, hg, -, hc0, hc1⟩ := (HR.out.touch HT0.out (fun _ _ e => e)).at_ ha
        have HE := Lib.hid (over_take l j _ ha)
        generalize l[j]'hjk = s at *
        obtain ⟨f, t⟩ := s
        simp only at hc0 hc1
        clear ha
        by_cases h2 : 604800 < t
        · have HW := Lib.hid (show weekE l = 2 by rw [HV.out, over_of_take l (j + 1) (by rw [HE.out]; simp [h2])]; rfl)
          go_wp2
          go_ret
          exact ⟨ret_int HW.out.symm, HT0.out⟩
        · have HW := Lib.hid (show overB (l.take (j + 1)) = false by rw [HE.out, HN.out]; simp [h2])
          go_wp2
          go_roundw
          case rel => exact ⟨j + 1, by omega, by go_num, HW.out, trivial⟩
          case measure => simp [intOf]; omega
      · obtain rfl : j = l.length := by omega
        have HW := Lib.hid (show weekE l = 0 by rw [HV.out, ← List.take_length (l := l), HN.out]; rfl)
        go_wp2
        go_ret
        exact ⟨ret_int HW.out.symm, HT0.out⟩
  · have HV := Lib.hid (show weekE l = rowE l by unfold weekE; rw [if_pos hrow])
    have hb : (rowE l != 0) = true := by simpa using hrow
    generalize rowE l = v at *
    clear hrow
    go_enter Try.func76, Try.ntmps76
    go_wp2_with (go_at_call 77; go_must (refine HF.out.mono ?_); rintro e w0 ⟨rfl, t0⟩; have HT0 := Lib.hid t0; clear t0)
    go_ret
    exact ⟨ret_int HV.out.symm, HT0.out⟩

theorem U_zero {l : List Sp} (h : Week l) : U l 0 = 0 := by
  unfold U
  rw [show (0 : Int) / 604800 = 0 by omega, show (0 : Int) % 604800 = 0 by omega, within_self]; simp
theorem U_bd {l : List Sp} (h : Week l) {u : Int} (hu : 0 ≤ u) : 0 ≤ U l u ∧ U l u ≤ u := by
  have e1 := cnt_of (p := fun u => hasB l (u % 604800)) (U l) hu (fun u h1 h2 => U_step h (by omega))
  have e2 := cnt_pos (p := fun u => hasB l (u % 604800)) hu
  rw [U_zero h] at e1
  omega
theorem U_parts {l : List Sp} (h : Week l) {u : Int} (hu : 0 ≤ u) : 0 ≤ u / 604800 * len l ∧ u / 604800 * len l ≤ u ∧ 0 ≤ within l 0 (u % 604800) ∧ within l 0 (u % 604800) ≤ 604800 := by
  have h1 := within_bd h.1 (a := 0) (b := u % 604800) (by omega)
  have h2 := (U_bd h hu).2
  unfold U at h2
  have h3 := h.len_bd
  have h4 : 0 ≤ u / 604800 * len l := Int.mul_nonneg (by omega) h3.1
  omega
/-- A calendar's rows lie in memory. -/
structure CaR (w : World) (F : Nat → Prop) (c : Ca) (A B : Option Addr) : Prop where
  wk : SpR w F A c.wk.length c.wk
  cl : SpR w F B c.cl.length c.cl
theorem CaR.touch {w w' : World} {F S : Nat → Prop} {c : Ca} {A B : Option Addr} (h : CaR w F c A B) (ht : Touch S w w') (hd : ∀ k, F k → ¬ S k) : CaR w' F c A B := ⟨h.wk.touch ht hd, h.cl.touch ht hd⟩
end Go.Proofs.Ytlcefchbfjfifaa
end

section
namespace Go.Proofs.Ytlcefchbfjfifaa
open Go.RowKit Cal
set_option maxHeartbeats 4000000
set_option maxRecDepth 100000
set_option linter.unusedVariables false
attribute [local irreducible] wpPlan

def instB (t : Int) : Bool := decide (0 ≤ t) && decide (t ≤ 1125899906842624)
theorem lost_pre {c : Ca} (h : c.Ok) (L : List Sp) (hL : ∀ s ∈ L, 0 ≤ s.f ∧ s.f < s.t ∧ s.t ≤ 1125899906842624) (j : Nat) (hj : L.length ≤ 40) : 0 ≤ c.lost (L.take j) ∧ c.lost (L.take j) ≤ 45035996273704960 := by
  have h1 := h.lost_bd (L.take j) (fun s hs => by have := hL s (List.mem_of_mem_take hs); omega)
  have h2 := longS_bd (L.take j) (fun s hs => hL s (List.mem_of_mem_take hs))
  have h3 : (L.take j).length ≤ 40 := by simp; omega
  omega
theorem lost_take (c : Ca) (L : List Sp) (j : Nat) (s : Sp) (hs : L[j]? = some s) : c.lost (L.take (j + 1)) = c.lost (L.take j) + c.weekly s.f s.t := by
  obtain ⟨h1, h2⟩ := List.getElem?_eq_some_iff.1 hs
  rw [List.take_succ_eq_append_getElem h1, h2, Ca.lost_snoc]
end Go.Proofs.Ytlcefchbfjfifaa
end

section
namespace Go.Proofs.Ytlcefchbfjfifaa
open Go.RowKit Cal
set_option maxHeartbeats 4000000
set_option maxRecDepth 100000
set_option linter.unusedVariables false
attribute [local irreducible] wpPlan

theorem instB_true {t : Int} (h : instB t = true) : 0 ≤ t ∧ t ≤ 1125899906842624 := by simpa [instB] using h
theorem instB_false {t : Int} (h : instB t = false) : t < 0 ∨ 1125899906842624 < t := by simp [instB] at h; omega
theorem instB_of {t : Int} (h : 0 ≤ t) (h' : t ≤ 1125899906842624) : instB t = true := by simp [instB]; omega
theorem el_bad1 (c : Ca) {a b : Int} (h : instB a = false) : c.el a b = (0, 2) := by
  have := instB_false h
  unfold Ca.el; rw [if_pos (by omega)]
theorem el_bad2 (c : Ca) {a b : Int} (h : instB b = false) : c.el a b = (0, 2) := by
  have := instB_false h
  unfold Ca.el; rw [if_pos (by omega)]
theorem el_bad3 (c : Ca) {a b : Int} (h : b < a) : c.el a b = (0, 2) := by unfold Ca.el; rw [if_pos (by omega)]
theorem el_ok (c : Ca) {a b : Int} (h : instB a = true) (h' : instB b = true) (hab : ¬ b < a) : c.el a b = (cnt c.op a b, 0) := by
  have := instB_true h
  have := instB_true h'
  unfold Ca.el; rw [if_neg (by omega)]
theorem el_err (c : Ca) (a b : Int) : (c.el a b).2 = 0 ∨ (c.el a b).2 = 2 := by unfold Ca.el; split <;> simp
theorem el_bd (c : Ca) (a b : Int) : 0 ≤ (c.el a b).1 ∧ (c.el a b).1 ≤ 1125899906842624 := by
  unfold Ca.el; split
  · simp
  · have := cnt_pos (p := c.op) (a := a) (b := b) (by omega)
    simp only; omega
def El2 (r : Int × Int) (w : World) (e : Ending) (w' : World) : Prop := e = .returned (.tuple #[.int .i64 r.1, .int .i64 r.2]) ∧ Touch (fun _ => False) w w'
theorem El2.of {R r : Int × Int} {x y : Int} {w w' : World} (h1 : Hid (R = r)) (h2 : x = r.1) (h3 : y = r.2) (h4 : Touch (fun _ => False) w w') : El2 R w (.returned (.tuple #[.int .i64 x, .int .i64 y])) w' := by
  rw [h1.out]; exact ⟨by rw [h2, h3], h4⟩
theorem rest_neg (c : Ca) {a b x : Int} (h : b < 0) : c.rest a b x = (0, 2) := by unfold Ca.rest; rw [if_pos h]
theorem rest_bad (c : Ca) {a b x : Int} (h : ¬ b < 0) (h' : (c.el a x).2 ≠ 0) : c.rest a b x = (0, (c.el a x).2) := by unfold Ca.rest; rw [if_neg h, if_pos h']
theorem rest_ok (c : Ca) {a b x : Int} (h : ¬ b < 0) (h' : (c.el a x).2 = 0) : c.rest a b x = (max (b - (c.el a x).1) 0, 0) := by unfold Ca.rest; rw [if_neg h, if_neg (by simp [h'])]
theorem due_bad (c : Ca) {a b : Int} (h : instB a = false) : c.due a b = (0, 2) := by
  have := instB_false h
  unfold Ca.due; rw [if_pos (by omega)]
theorem due_neg (c : Ca) {a b : Int} (h : b < 0) : c.due a b = (0, 2) := by unfold Ca.due; rw [if_pos (by omega)]
theorem due_zero (c : Ca) {a : Int} (h : instB a = true) : c.due a 0 = (a, 0) := by
  have := instB_true h
  unfold Ca.due; rw [if_neg (by omega), if_pos rfl]
theorem due_closed (c : Ca) {a b : Int} (h : instB a = true) (hb : 0 < b) (hl : len c.wk = 0) : c.due a b = (0, 40) := by
  have := instB_true h
  unfold Ca.due; rw [if_neg (by omega), if_neg (by omega), if_pos hl]
theorem due_big (c : Ca) {a b : Int} (h : instB a = true) (hb : 0 < b) (hl : len c.wk ≠ 0) (hn : cnt c.op a 1125899906842624 < b) : c.due a b = (0, 10) := by
  have := instB_true h
  unfold Ca.due; rw [if_neg (by omega), if_neg (by omega), if_neg hl, if_pos hn]
theorem due_of (c : Ca) {a b d : Int} (h : instB a = true) (hl : len c.wk ≠ 0) (hd : IsDue c.op a b d) (hd' : d ≤ 1125899906842624) : c.due a b = (d, 0) := by
  have := instB_true h
  have := hd.pos
  unfold Ca.due; rw [if_neg (by omega), if_neg (by omega), if_neg hl, if_neg (by have := hd.le hd'; omega), dueOf_eq hd]
end Go.Proofs.Ytlcefchbfjfifaa
end

section
namespace Go.Proofs.Ytlcefchbfjfifaa
open Go.RowKit Cal
set_option maxHeartbeats 4000000
set_option maxRecDepth 100000
set_option linter.unusedVariables false
attribute [local irreducible] wpPlan

def checkE (c : Ca) : Int := if c.off < 0 ∨ 604800 ≤ c.off then 2 else if weekE c.wk ≠ 0 then weekE c.wk else rowE c.cl
theorem check_ok {c : Ca} (h : checkE c = 0) : c.Ok := by
  unfold checkE at h
  split at h
  · omega
  · split at h
    · rename_i h1; exact absurd h h1
    · rename_i h0 h1
      have h1 : weekE c.wk = 0 := by simpa using h1
      exact ⟨by omega, (weekE_week h1).1, (rowE_row h).1, (rowE_row h).2⟩
theorem Cal.Ca.Ok.rowc {c : Ca} (h : c.Ok) : rowE c.cl = 0 := by unfold rowE; rw [if_neg (by have := h.cn; omega), rows_of c.cl 0 (by omega) h.cl]
theorem fcheck_any (F : Nat → Prop) (A B : Option Addr) (k m : Nat) (c : Ca) (w : World) (hr : CaR w F c A B) (h1 : c.wk.length ≤ 1000000) (h2 : c.cl.length ≤ 1000000) :
    Calls Try.prog 56 #[.agg #[.int .i64 c.off, .slice A c.wk.length k, .slice B c.cl.length m]] w fun e w' => e = .returned (.int .i64 (checkE c)) ∧ Touch (fun _ => False) w w' := by
  have HT := Lib.hid ((Touch.refl (fun _ => False) w).alloc (.cells #[.int .i64 c.off, .slice A c.wk.length k, .slice B c.cl.length m] 30))
  have HB0 := Lib.hid (Blk.new w 30 #[.int .i64 c.off, .slice A c.wk.length k, .slice B c.cl.length m])
  have HW := Lib.hid (fun w1 hr => fwrong_any F A k c.wk w1 hr h1)
  have HC := Lib.hid (fun w1 hr => frow_any F B m c.cl w1 hr h2)
  have HR := Lib.hid hr
  have HV := Lib.hid (show checkE c = if c.off < 0 ∨ 604800 ≤ c.off then 2 else if weekE c.wk ≠ 0 then weekE c.wk else rowE c.cl from rfl)
  generalize checkE c = v at *
  clear hr
  obtain ⟨off, wk, cl⟩ := c
  simp only at *
  generalize weekE wk = x at *
  generalize rowE cl = y at *
  by_cases ho : off < 0
  · rw [if_pos (.inl ho)] at HV
    go_enter Try.func56, Try.ntmps56
    go_wp2
    go_ret
    exact ⟨ret_int HV.out.symm, HT.out⟩
  by_cases ho2 : 604800 ≤ off
  · rw [if_pos (.inr ho2)] at HV
    go_enter Try.func56, Try.ntmps56
    go_wp2
    go_ret
    exact ⟨ret_int HV.out.symm, HT.out⟩
  rw [if_neg (by omega)] at HV
  by_cases hx : x = 0
  · subst hx
    rw [if_neg (by simp)] at HV
    go_enter Try.func56, Try.ntmps56
    go_wp2_with (first
      | (go_at_call 76; go_must (refine (HW.out _ (by exact HR.out.wk.touch HT.out (fun _ _ e => e))).mono ?_); rintro e w0 ⟨rfl, t0⟩; have HB1 := Lib.hid (t0.blk HB0.out (fun e => e)); have q0 := HB1.out.cell 0; have q1 := HB1.out.cell 1; have q2 := HB1.out.cell 2; simp at q0 q1 q2; have HT0 := Lib.hid (HT.out.trans t0 (fun _ _ e => e)); clear t0)
      | (go_at_call 77; go_must (refine (HC.out _ (by exact HR.out.cl.touch HT0.out (fun _ _ e => e))).mono ?_); rintro e w1 ⟨rfl, t1⟩; have HT1 := Lib.hid (HT0.out.trans t1 (fun _ _ e => e)); clear t1))
    go_ret
    exact ⟨ret_int HV.out.symm, HT1.out⟩
  · rw [if_pos hx] at HV
    have hx' : (x != 0) = true := by simpa using hx
    clear hx
    go_enter Try.func56, Try.ntmps56
    go_wp2_with (go_at_call 76; go_must (refine (HW.out _ (by exact HR.out.wk.touch HT.out (fun _ _ e => e))).mono ?_); rintro e w0 ⟨rfl, t0⟩; have HT0 := Lib.hid (HT.out.trans t0 (fun _ _ e => e)); clear t0)
    go_ret
    exact ⟨ret_int HV.out.symm, HT0.out⟩
/-- Is an instant open? -/
def openV (c : Ca) (t : Int) : Bool := decide (0 ≤ t) && decide (t < 1125899906842624) && c.op t
/-- Are two calendars the same? -/
def sameC (c d : Ca) : Bool := decide (c.off = d.off) && sameL c.wk d.wk && sameL c.cl d.cl
theorem sameC_self (c : Ca) : sameC c c = true := by simp [sameC, sameL_self]
theorem fcsame_any (F F' : Nat → Prop) (A B A' B' : Option Addr) (k m k' m' : Nat) (c d : Ca) (w : World) (hr : CaR w F c A B) (hr' : CaR w F' d A' B') (h1 : c.wk.length ≤ 1000000) (h2 : c.cl.length ≤ 1000000) :
    Calls Try.prog 29 #[.agg #[.int .i64 c.off, .slice A c.wk.length k, .slice B c.cl.length m], .agg #[.int .i64 d.off, .slice A' d.wk.length k', .slice B' d.cl.length m']] w fun e w' => e = .returned (.bool (sameC c d)) ∧ Touch (fun _ => False) w w' := by
  have HT := Lib.hid (((Touch.refl (fun _ => False) w).alloc (.cells #[.int .i64 c.off, .slice A c.wk.length k, .slice B c.cl.length m] 30)).alloc (.cells #[.int .i64 d.off, .slice A' d.wk.length k', .slice B' d.cl.length m'] 30))
  have HB0 := Lib.hid ((Blk.new w 30 #[.int .i64 c.off, .slice A c.wk.length k, .slice B c.cl.length m]).alloc (.cells #[.int .i64 d.off, .slice A' d.wk.length k', .slice B' d.cl.length m'] 30))
  have HB0' := Lib.hid (show Blk _ (w.heap.size + 1) _ _ by simpa using Blk.new (w.alloc (.cells #[.int .i64 c.off, .slice A c.wk.length k, .slice B c.cl.length m] 30)) 30 #[.int .i64 d.off, .slice A' d.wk.length k', .slice B' d.cl.length m'])
  have HR := Lib.hid hr
  have HR' := Lib.hid hr'
  have HW := Lib.hid (fun w1 hr hr' => fsame_any F F' A A' k k' c.wk d.wk w1 hr hr' h1)
  have HC := Lib.hid (fun w1 hr hr' => fsame_any F F' B B' m m' c.cl d.cl w1 hr hr' h2)
  have HV := Lib.hid (show sameC c d = (decide (c.off = d.off) && sameL c.wk d.wk && sameL c.cl d.cl) from rfl)
  generalize sameC c d = v at *
  clear hr hr'
  obtain ⟨off, wk, cl⟩ := c
  obtain ⟨off', wk', cl'⟩ := d
  simp only at *
  generalize sameL wk wk' = x at *
  generalize sameL cl cl' = y at *
  by_cases ho : off = off'
  · subst ho
    rw [decide_eq_true rfl, Bool.true_and] at HV
    cases x
    · go_enter Try.func29, Try.ntmps29
      go_wp2_with (go_at_call 51; go_must (refine (HW.out _ (by exact HR.out.wk.touch HT.out (fun _ _ e => e)) (by exact HR'.out.wk.touch HT.out (fun _ _ e => e))).mono ?_); rintro e w0 ⟨rfl, t0⟩; have HT0 := Lib.hid (HT.out.trans t0 (fun _ _ e => e)); clear t0)
      go_ret
      exact ⟨ret_bool (by rw [HV.out]; rfl), HT0.out⟩
    · go_enter Try.func29, Try.ntmps29
      go_wp2_with (first
        | (go_at_call 51; have M9 := M1; go_must (refine (HC.out _ (by exact HR.out.cl.touch HT0.out (fun _ _ e => e)) (by exact HR'.out.cl.touch HT0.out (fun _ _ e => e))).mono ?_); rintro e w1 ⟨rfl, t1⟩; have HT1 := Lib.hid (HT0.out.trans t1 (fun _ _ e => e)); clear t1)
        | (go_at_call 51; go_must (refine (HW.out _ (by exact HR.out.wk.touch HT.out (fun _ _ e => e)) (by exact HR'.out.wk.touch HT.out (fun _ _ e => e))).mono ?_); rintro e w0 ⟨rfl, t0⟩; have HT0 := Lib.hid (HT.out.trans t0 (fun _ _ e => e)); have q2 := (t0.blk HB0.out (fun e => e)).cell 2; have r2 := (t0.blk HB0'.out (fun e => e)).cell 2; simp at q2 r2; have M1 := Lib.hid trivial; clear t0))
      go_ret
      exact ⟨ret_bool (by rw [HV.out]; rfl), HT1.out⟩
  · have ho' : (off == off') = false := by simpa using ho
    rw [decide_eq_false ho, Bool.false_and, Bool.false_and] at HV
    go_enter Try.func29, Try.ntmps29
    go_wp2
    go_ret
    exact ⟨ret_bool HV.out.symm, HT.out⟩
end Go.Proofs.Ytlcefchbfjfifaa
end
