/- Commands: the plain law; command.of, command.Named. (written by gencda.py) span.Same (slices.EqualFunc), calendar.Same. -/
import Derived.Test.YtcblbjhhlnmkjaaVQuillR2
import Derived.Test.YtcblbjhhlnmkjaaVRowD
import Derived.Test.YtcblbjhhlnmkjaaCalG
section
namespace Go.Proofs.Ytcblbjhhlnmkjaa
open Go.RowKit Cal
set_option maxHeartbeats 4000000
set_option maxRecDepth 100000
set_option linter.unusedVariables false
attribute [local irreducible] wpPlan

/-- A command. -/
structure Cm where
  kind : Int
  client : Nat
  req : Nat
  id : Nat
  con : Int
  at_ : Int
  cal : Ca
  tm : Co
def caZ : Ca := ⟨0, [], []⟩
def coZ : Co := ⟨0, [], 0, 0⟩
def cmZ : Cm := ⟨0, 0, 0, 0, 0, 0, caZ, coZ⟩
/-- Its rows in memory. -/
structure CmR (w : World) (F : Nat → Prop) (c : Cm) (A B D : Option Addr) : Prop where
  cal : CaR w F c.cal A B
  tm : SpR w F D c.tm.lv.length c.tm.lv
theorem CmR.touch {w w' : World} {F S : Nat → Prop} {c : Cm} {A B D : Option Addr} (h : CmR w F c A B D) (t : Touch S w w') (hd : ∀ k, F k → ¬ S k) : CmR w' F c A B D := ⟨h.cal.touch t hd, h.tm.touch t hd⟩
theorem CmR.mono {w : World} {F F' : Nat → Prop} {c : Cm} {A B D : Option Addr} (h : CmR w F c A B D) (hF : ∀ k, F k → F' k) : CmR w F' c A B D := ⟨⟨h.cal.wk.mono hF, h.cal.cl.mono hF⟩, h.tm.mono hF⟩
theorem CaR.zero (w : World) (F : Nat → Prop) : CaR w F caZ none none := ⟨SpR.nil _ _ _, SpR.nil _ _ _⟩
def sameCm (a b : Cm) : Bool := decide (a.kind = b.kind) && decide (a.client = b.client) && decide (a.req = b.req) && decide (a.id = b.id) && decide (a.at_ = b.at_) && decide (a.con = b.con) && sameC a.cal b.cal && sameK a.tm b.tm
theorem sameCm_self (c : Cm) : sameCm c c = true := by simp [sameCm, sameC_self, sameK_self]
theorem sameC_eq {a b : Ca} (h : sameC a b = true) : a = b := by
  obtain ⟨o, wk, cl⟩ := a
  obtain ⟨o', wk', cl'⟩ := b
  simp only [sameC, Bool.and_eq_true, decide_eq_true_eq] at h
  obtain ⟨⟨rfl, h1⟩, h2⟩ := h
  rw [sameL_eq _ _ h1, sameL_eq _ _ h2]
theorem sameCm_eq {a b : Cm} (h : sameCm a b = true) : a = b := by
  obtain ⟨k, cl, rq, i, cn, at_, ca, tm⟩ := a
  obtain ⟨k', cl', rq', i', cn', at', ca', tm'⟩ := b
  simp only [sameCm, Bool.and_eq_true, decide_eq_true_eq] at h
  obtain ⟨⟨⟨⟨⟨⟨⟨rfl, rfl⟩, rfl⟩, rfl⟩, rfl⟩, rfl⟩, h1⟩, h2⟩ := h
  rw [sameC_eq h1, sameK_eq h2]
/-- Which kinds there are, and what they have. -/
def named (k : Int) : Bool := decide (1 ≤ k) && decide (k ≤ 12)
def fid (k : Int) : Bool := named k && !decide (k = 1) && !decide (k = 9)
def fcal (k : Int) : Bool := decide (k = 2)
def ftm (k : Int) : Bool := decide (k = 3)
def fcon (k : Int) : Bool := decide (k = 4)
def fat (k : Int) : Bool := decide (k = 9)
def idOnly (k : Int) : Prop := k = 5 ∨ k = 6 ∨ k = 7 ∨ k = 8 ∨ k = 10 ∨ k = 11 ∨ k = 12
theorem kinds (k : Int) : named k = false ∨ k = 1 ∨ k = 2 ∨ k = 3 ∨ k = 4 ∨ k = 9 ∨ idOnly k := by
  unfold idOnly
  by_cases h : 1 ≤ k ∧ k ≤ 12
  · omega
  · left
    cases h1 : named k
    · rfl
    · simp only [named, Bool.and_eq_true, decide_eq_true_eq] at h1; exact absurd h1 h
theorem named_no {k : Int} (h : named k = false) : k < 1 ∨ 12 < k := by
  by_cases h1 : 1 ≤ k
  · by_cases h2 : k ≤ 12
    · simp [named, h1, h2] at h
    · omega
  · omega
theorem flds_no {k : Int} (h : named k = false) : fid k = false ∧ fcal k = false ∧ ftm k = false ∧ fcon k = false ∧ fat k = false := by
  have := named_no h
  simp [fid, fcal, ftm, fcon, fat, h]; omega
theorem flds_id {k : Int} (h : idOnly k) : named k = true ∧ fid k = true ∧ fcal k = false ∧ ftm k = false ∧ fcon k = false ∧ fat k = false := by
  rcases h with rfl | rfl | rfl | rfl | rfl | rfl | rfl <;> decide
/-- A command with just the fields of its kind. -/
def kept (c : Cm) : Cm := ⟨c.kind, c.client, c.req, bif fid c.kind then c.id else 0, bif fcon c.kind then c.con else 0, bif fat c.kind then c.at_ else 0, bif fcal c.kind then c.cal else caZ, bif ftm c.kind then c.tm else coZ⟩
def cmSound (c : Cm) : Bool := named c.kind && decide (c.client ≤ 8) && sameCm (kept c) c && (bif fcal c.kind then decide (checkE c.cal = 0) else bif ftm c.kind then goodB c.tm else (decide (0 ≤ c.con) && decide (c.con < 16)))

theorem of_any (k : Int) (w : World) : Calls Try.prog 56 #[.int .i64 k] w fun e w' => e = .returned (.tuple #[.agg #[.bool (fid k), .bool (fcal k), .bool (ftm k), .bool (fcon k), .bool (fat k)], .bool (named k)]) ∧ Touch (fun _ => False) w w' := by
  rcases kinds k with hk | rfl | rfl | rfl | rfl | rfl | hk
  · obtain ⟨e1, e2, e3, e4, e5⟩ := flds_no hk
    have hn := named_no hk
    have b1 : (k == 1) = false := by simp; omega
    have b2 : (k == 2) = false := by simp; omega
    have b3 : (k == 3) = false := by simp; omega
    have b4 : (k == 4) = false := by simp; omega
    have b5 : (k == 5) = false := by simp; omega
    have b6 : (k == 6) = false := by simp; omega
    have b7 : (k == 7) = false := by simp; omega
    have b8 : (k == 8) = false := by simp; omega
    have b9 : (k == 9) = false := by simp; omega
    have b10 : (k == 10) = false := by simp; omega
    have b11 : (k == 11) = false := by simp; omega
    have b12 : (k == 12) = false := by simp; omega
    rw [e1, e2, e3, e4, e5, hk]
    clear e1 e2 e3 e4 e5 hk hn
    go_enter Try.func56, Try.ntmps56
    go_wp2
    exact bodyPost_ret (v := .tuple #[.agg #[.bool false, .bool false, .bool false, .bool false, .bool false], .bool false]) (by simp [results, Try.results56, go_sem]) rfl ⟨rfl, (Touch.refl _ _).alloc _⟩
  · show Calls Try.prog 56 #[.int .i64 1] w fun e w' => e = .returned (.tuple #[.agg #[.bool false, .bool false, .bool false, .bool false, .bool false], .bool true]) ∧ Touch (fun _ => False) w w'
    go_enter Try.func56, Try.ntmps56
    go_wp2
    exact bodyPost_ret (v := .tuple #[.agg #[.bool false, .bool false, .bool false, .bool false, .bool false], .bool true]) (by simp [results, Try.results56, go_sem]) rfl ⟨rfl, (Touch.refl _ _).alloc _⟩
  · show Calls Try.prog 56 #[.int .i64 2] w fun e w' => e = .returned (.tuple #[.agg #[.bool true, .bool true, .bool false, .bool false, .bool false], .bool true]) ∧ Touch (fun _ => False) w w'
    go_enter Try.func56, Try.ntmps56
    go_wp2
    exact bodyPost_ret (v := .tuple #[.agg #[.bool true, .bool true, .bool false, .bool false, .bool false], .bool true]) (by simp [results, Try.results56, go_sem]) rfl ⟨rfl, (Touch.refl _ _).alloc _⟩
  · show Calls Try.prog 56 #[.int .i64 3] w fun e w' => e = .returned (.tuple #[.agg #[.bool true, .bool false, .bool true, .bool false, .bool false], .bool true]) ∧ Touch (fun _ => False) w w'
    go_enter Try.func56, Try.ntmps56
    go_wp2
    exact bodyPost_ret (v := .tuple #[.agg #[.bool true, .bool false, .bool true, .bool false, .bool false], .bool true]) (by simp [results, Try.results56, go_sem]) rfl ⟨rfl, (Touch.refl _ _).alloc _⟩
  · show Calls Try.prog 56 #[.int .i64 4] w fun e w' => e = .returned (.tuple #[.agg #[.bool true, .bool false, .bool false, .bool true, .bool false], .bool true]) ∧ Touch (fun _ => False) w w'
    go_enter Try.func56, Try.ntmps56
    go_wp2
    exact bodyPost_ret (v := .tuple #[.agg #[.bool true, .bool false, .bool false, .bool true, .bool false], .bool true]) (by simp [results, Try.results56, go_sem]) rfl ⟨rfl, (Touch.refl _ _).alloc _⟩
  · show Calls Try.prog 56 #[.int .i64 9] w fun e w' => e = .returned (.tuple #[.agg #[.bool false, .bool false, .bool false, .bool false, .bool true], .bool true]) ∧ Touch (fun _ => False) w w'
    go_enter Try.func56, Try.ntmps56
    go_wp2
    exact bodyPost_ret (v := .tuple #[.agg #[.bool false, .bool false, .bool false, .bool false, .bool true], .bool true]) (by simp [results, Try.results56, go_sem]) rfl ⟨rfl, (Touch.refl _ _).alloc _⟩
  · rcases hk with rfl | rfl | rfl | rfl | rfl | rfl | rfl
    · show Calls Try.prog 56 #[.int .i64 5] w fun e w' => e = .returned (.tuple #[.agg #[.bool true, .bool false, .bool false, .bool false, .bool false], .bool true]) ∧ Touch (fun _ => False) w w'
      go_enter Try.func56, Try.ntmps56
      go_wp2
      exact bodyPost_ret (v := .tuple #[.agg #[.bool true, .bool false, .bool false, .bool false, .bool false], .bool true]) (by simp [results, Try.results56, go_sem]) rfl ⟨rfl, (Touch.refl _ _).alloc _⟩
    · show Calls Try.prog 56 #[.int .i64 6] w fun e w' => e = .returned (.tuple #[.agg #[.bool true, .bool false, .bool false, .bool false, .bool false], .bool true]) ∧ Touch (fun _ => False) w w'
      go_enter Try.func56, Try.ntmps56
      go_wp2
      exact bodyPost_ret (v := .tuple #[.agg #[.bool true, .bool false, .bool false, .bool false, .bool false], .bool true]) (by simp [results, Try.results56, go_sem]) rfl ⟨rfl, (Touch.refl _ _).alloc _⟩
    · show Calls Try.prog 56 #[.int .i64 7] w fun e w' => e = .returned (.tuple #[.agg #[.bool true, .bool false, .bool false, .bool false, .bool false], .bool true]) ∧ Touch (fun _ => False) w w'
      go_enter Try.func56, Try.ntmps56
      go_wp2
      exact bodyPost_ret (v := .tuple #[.agg #[.bool true, .bool false, .bool false, .bool false, .bool false], .bool true]) (by simp [results, Try.results56, go_sem]) rfl ⟨rfl, (Touch.refl _ _).alloc _⟩
    · show Calls Try.prog 56 #[.int .i64 8] w fun e w' => e = .returned (.tuple #[.agg #[.bool true, .bool false, .bool false, .bool false, .bool false], .bool true]) ∧ Touch (fun _ => False) w w'
      go_enter Try.func56, Try.ntmps56
      go_wp2
      exact bodyPost_ret (v := .tuple #[.agg #[.bool true, .bool false, .bool false, .bool false, .bool false], .bool true]) (by simp [results, Try.results56, go_sem]) rfl ⟨rfl, (Touch.refl _ _).alloc _⟩
    · show Calls Try.prog 56 #[.int .i64 10] w fun e w' => e = .returned (.tuple #[.agg #[.bool true, .bool false, .bool false, .bool false, .bool false], .bool true]) ∧ Touch (fun _ => False) w w'
      go_enter Try.func56, Try.ntmps56
      go_wp2
      exact bodyPost_ret (v := .tuple #[.agg #[.bool true, .bool false, .bool false, .bool false, .bool false], .bool true]) (by simp [results, Try.results56, go_sem]) rfl ⟨rfl, (Touch.refl _ _).alloc _⟩
    · show Calls Try.prog 56 #[.int .i64 11] w fun e w' => e = .returned (.tuple #[.agg #[.bool true, .bool false, .bool false, .bool false, .bool false], .bool true]) ∧ Touch (fun _ => False) w w'
      go_enter Try.func56, Try.ntmps56
      go_wp2
      exact bodyPost_ret (v := .tuple #[.agg #[.bool true, .bool false, .bool false, .bool false, .bool false], .bool true]) (by simp [results, Try.results56, go_sem]) rfl ⟨rfl, (Touch.refl _ _).alloc _⟩
    · show Calls Try.prog 56 #[.int .i64 12] w fun e w' => e = .returned (.tuple #[.agg #[.bool true, .bool false, .bool false, .bool false, .bool false], .bool true]) ∧ Touch (fun _ => False) w w'
      go_enter Try.func56, Try.ntmps56
      go_wp2
      exact bodyPost_ret (v := .tuple #[.agg #[.bool true, .bool false, .bool false, .bool false, .bool false], .bool true]) (by simp [results, Try.results56, go_sem]) rfl ⟨rfl, (Touch.refl _ _).alloc _⟩
theorem named_any (k : Int) (w : World) : Calls Try.prog 19 #[.int .i64 k] w fun e w' => e = .returned (.bool (named k)) ∧ Touch (fun _ => False) w w' := by
  have HO := Lib.hid (of_any k w)
  generalize fid k = f1 at *
  generalize fcal k = f2 at *
  generalize ftm k = f3 at *
  generalize fcon k = f4 at *
  generalize fat k = f5 at *
  generalize named k = nm at *
  go_enter Try.func19, Try.ntmps19
  go_wp2_with (go_at_call 56; go_must (refine HO.out.mono ?_); rintro e w1 ⟨rfl, t1⟩; have HT1 := Lib.hid t1; clear t1)
  go_ret
  exact ⟨rfl, HT1.out.alloc _⟩
end Go.Proofs.Ytcblbjhhlnmkjaa
end

section
namespace Go.Proofs.Ytcblbjhhlnmkjaa
open Go.RowKit Cal
set_option maxHeartbeats 4000000
set_option maxRecDepth 100000
set_option linter.unusedVariables false

theorem eqfn_any (f t f' t' : Int) (w : World) : Calls Try.prog 123 #[.agg #[.int .i64 f, .int .i64 t], .agg #[.int .i64 f', .int .i64 t']] w fun e w' => e = .returned (.bool (decide (f = f') && decide (t = t'))) ∧ Touch (fun _ => False) w w' := by
  have HT := Lib.hid (((Touch.refl (fun _ => False) w).alloc (.cells #[.int .i64 f, .int .i64 t] 165)).alloc (.cells #[.int .i64 f', .int .i64 t'] 165))
  have HV := Lib.hid (show decide (f = f') = (f == f') from by cases h : decide (f = f') <;> simp_all)
  by_cases h1 : f = f'
  · subst h1
    by_cases h2 : t = t'
    · subst h2
      go_enter Try.func123, Try.ntmps123
      go_wp2
      go_ret
      exact ⟨by simp, HT.out⟩
    · have hb : (t == t') = false := by simpa using h2
      go_enter Try.func123, Try.ntmps123
      go_wp2
      go_ret
      exact ⟨by simp, HT.out⟩
  · have hb : (f == f') = false := by simpa using h1
    go_enter Try.func123, Try.ntmps123
    go_wp2
    go_ret
    exact ⟨by simp [h1], HT.out⟩
theorem eqf_any (F F' : Nat → Prop) (A A' : Option Addr) (c c' : Nat) (a b : List Sp) (w : World) (hr : SpR w F A a.length a) (hr' : SpR w F' A' b.length b) (hsm : a.length ≤ 1000000) :
    Calls Try.prog 122 #[.slice A a.length c, .slice A' b.length c', .func (.func 123) #[] #[]] w fun e w' => e = .returned (.bool (sameL a b)) ∧ Touch (fun _ => False) w w' := by
  have Hr := Lib.hid hr
  have Hr' := Lib.hid hr'
  clear hr hr'
  by_cases hlen : a.length = b.length
  · rw [← hlen] at Hr' ⊢
    have HL := Lib.hid hlen
    clear hlen
    go_enter Try.func122, Try.ntmps122
    go_wp2_with fail
    go_loopw [17] (fun i wr => ∃ j : Nat, j ≤ a.length ∧ i = .int .i64 j ∧ sameL (a.drop j) (b.drop j) = sameL a b ∧ Touch (fun _ => False) w wr) (fun i _ => a.length - (intOf i).toNat)
    case atStart => exact ⟨0, by omega, rfl, rfl, Touch.refl _ _⟩
    case round =>
      obtain ⟨j, hj, rfl, hno, hT⟩ := hrel
      have HN := Lib.hid hno
      have HT := Lib.hid hT
      clear hno hT
      by_cases hjk : j < a.length
      · have ha : a[j]? = some (a[j]'hjk) := List.getElem?_eq_getElem _
        have hb : b[j]? = some (b[j]'(by have := HL.out; omega)) := List.getElem?_eq_getElem _
        obtain ⟨g, off, rfl, hg, -, hc0, hc1⟩ := (Hr.out.touch HT.out (fun _ _ e => e)).at_ ha
        obtain ⟨g', off', rfl, hg', -, hd0, hd1⟩ := (Hr'.out.touch HT.out (fun _ _ e => e)).at_ hb
        have HE := Lib.hid (sameL_drop a b j _ _ ha hb)
        generalize a[j]'hjk = s at *
        generalize b[j]'_ = u at *
        obtain ⟨f, t⟩ := s
        obtain ⟨f', t'⟩ := u
        simp only at hc0 hc1 hd0 hd1
        clear ha hb
        have HTb := Lib.hid (((Touch.refl (fun _ => False) wr).alloc (.cells #[.int .i64 f, .int .i64 t] 165)).alloc (.cells #[.int .i64 f', .int .i64 t'] 165))
        have HF := Lib.hid (fun w1 => eqfn_any f t f' t' w1)
        by_cases h1 : f = f' ∧ t = t'
        · have HV := Lib.hid (show sameL (a.drop (j + 1)) (b.drop (j + 1)) = sameL a b by rw [← HN.out, HE.out]; simp [h1.1, h1.2])
          have hd : (decide (f = f') && decide (t = t')) = true := by simp [h1.1, h1.2]
          rw [hd] at HF
          clear h1 hd
          go_wp2_with (go_at_call 123; go_must (refine (HF.out _).mono ?_); rintro e w1 ⟨rfl, t1⟩; have HT1 := Lib.hid ((HT.out.trans HTb.out (fun _ _ e => e)).trans t1 (fun _ _ e => e)); clear t1)
          go_roundw
          case rel => exact ⟨j + 1, by omega, by go_num, HV.out, HT1.out⟩
          case measure => simp [intOf]; omega
        · have hd : (decide (f = f') && decide (t = t')) = false := by
            cases hq : (decide (f = f') && decide (t = t'))
            · rfl
            · exact absurd (by simpa using hq) h1
          have HV := Lib.hid (show sameL a b = false by rw [← HN.out, HE.out, hd]; rfl)
          rw [hd] at HF
          clear h1 hd
          go_wp2_with (go_at_call 123; go_must (refine (HF.out _).mono ?_); rintro e w1 ⟨rfl, t1⟩; have HT1 := Lib.hid ((HT.out.trans HTb.out (fun _ _ e => e)).trans t1 (fun _ _ e => e)); clear t1)
          go_ret
          exact ⟨ret_bool HV.out.symm, HT1.out⟩
      · obtain rfl : j = a.length := by omega
        have HV := Lib.hid (show sameL a b = true by rw [← HN.out, List.drop_length, HL.out, List.drop_length]; rfl)
        go_wp2
        go_ret
        exact ⟨ret_bool HV.out.symm, HT.out⟩
  · have HV := Lib.hid (show sameL a b = false by cases h : sameL a b; rfl; exact absurd (sameL_len a b h) hlen)
    go_enter Try.func122, Try.ntmps122
    have hd : ((a.length : Int) != (b.length : Int)) = true := by simp; omega
    go_wp2
    go_ret
    exact ⟨ret_bool HV.out.symm, Touch.refl _ _⟩
theorem ssame_any (F F' : Nat → Prop) (A A' : Option Addr) (c c' : Nat) (a b : List Sp) (w : World) (hr : SpR w F A a.length a) (hr' : SpR w F' A' b.length b) (hsm : a.length ≤ 1000000) :
    Calls Try.prog 110 #[.slice A a.length c, .slice A' b.length c'] w fun e w' => e = .returned (.bool (sameL a b)) ∧ Touch (fun _ => False) w w' := by
  have HE := Lib.hid (eqf_any F F' A A' c c' a b w hr hr' hsm)
  generalize sameL a b = v at *
  clear hr hr' hsm
  go_enter Try.func110, Try.ntmps110
  go_wp2_with (go_at_call 122; go_must (refine HE.out.mono ?_); rintro e w1 ⟨rfl, t1⟩; have HT1 := Lib.hid t1; clear t1)
  go_ret
  exact ⟨rfl, HT1.out⟩
theorem csame_any (F F' : Nat → Prop) (A B A' B' : Option Addr) (k m k' m' : Nat) (c d : Ca) (w : World) (hr : CaR w F c A B) (hr' : CaR w F' d A' B') (h1 : c.wk.length ≤ 1000000) (h2 : c.cl.length ≤ 1000000) :
    Calls Try.prog 81 #[.agg #[.int .i64 c.off, .slice A c.wk.length k, .slice B c.cl.length m], .agg #[.int .i64 d.off, .slice A' d.wk.length k', .slice B' d.cl.length m']] w fun e w' => e = .returned (.bool (sameC c d)) ∧ Touch (fun _ => False) w w' := by
  have HT := Lib.hid (((Touch.refl (fun _ => False) w).alloc (.cells #[.int .i64 c.off, .slice A c.wk.length k, .slice B c.cl.length m] 25)).alloc (.cells #[.int .i64 d.off, .slice A' d.wk.length k', .slice B' d.cl.length m'] 25))
  have HB0 := Lib.hid ((Blk.new w 25 #[.int .i64 c.off, .slice A c.wk.length k, .slice B c.cl.length m]).alloc (.cells #[.int .i64 d.off, .slice A' d.wk.length k', .slice B' d.cl.length m'] 25))
  have HB0' := Lib.hid (show Blk _ (w.heap.size + 1) _ _ by simpa using Blk.new (w.alloc (.cells #[.int .i64 c.off, .slice A c.wk.length k, .slice B c.cl.length m] 25)) 25 #[.int .i64 d.off, .slice A' d.wk.length k', .slice B' d.cl.length m'])
  have HR := Lib.hid hr
  have HR' := Lib.hid hr'
  have HW := Lib.hid (fun w1 hr hr' => ssame_any F F' A A' k k' c.wk d.wk w1 hr hr' h1)
  have HC := Lib.hid (fun w1 hr hr' => ssame_any F F' B B' m m' c.cl d.cl w1 hr hr' h2)
  have HV := Lib.hid (show sameC c d = (decide (c.off = d.off) && sameL c.wk d.wk && sameL c.cl d.cl) from rfl)
  generalize sameC c d = v at *
  clear hr hr'
  obtain ⟨off, wk, cl⟩ := c
  obtain ⟨off', wk', cl'⟩ := d
  simp only at *
  generalize sameL wk wk' = x at *
  generalize sameL cl cl' = y at *
  by_cases ho : off = off'
  · subst ho
    rw [decide_eq_true rfl, Bool.true_and] at HV
    cases x
    · go_enter Try.func81, Try.ntmps81
      go_wp2_with (go_at_call 110; go_must (refine (HW.out _ (by exact HR.out.wk.touch HT.out (fun _ _ e => e)) (by exact HR'.out.wk.touch HT.out (fun _ _ e => e))).mono ?_); rintro e w0 ⟨rfl, t0⟩; have HT0 := Lib.hid (HT.out.trans t0 (fun _ _ e => e)); clear t0)
      go_ret
      exact ⟨ret_bool (by rw [HV.out]; rfl), HT0.out⟩
    · go_enter Try.func81, Try.ntmps81
      go_wp2_with (first
        | (go_at_call 110; have M9 := M1; go_must (refine (HC.out _ (by exact HR.out.cl.touch HT0.out (fun _ _ e => e)) (by exact HR'.out.cl.touch HT0.out (fun _ _ e => e))).mono ?_); rintro e w1 ⟨rfl, t1⟩; have HT1 := Lib.hid (HT0.out.trans t1 (fun _ _ e => e)); clear t1)
        | (go_at_call 110; go_must (refine (HW.out _ (by exact HR.out.wk.touch HT.out (fun _ _ e => e)) (by exact HR'.out.wk.touch HT.out (fun _ _ e => e))).mono ?_); rintro e w0 ⟨rfl, t0⟩; have HT0 := Lib.hid (HT.out.trans t0 (fun _ _ e => e)); have q2 := (t0.blk HB0.out (fun e => e)).cell 2; have r2 := (t0.blk HB0'.out (fun e => e)).cell 2; simp at q2 r2; have M1 := Lib.hid trivial; clear t0))
      go_ret
      exact ⟨ret_bool (by rw [HV.out]; rfl), HT1.out⟩
  · have ho' : (off == off') = false := by simpa using ho
    rw [decide_eq_false ho, Bool.false_and, Bool.false_and] at HV
    go_enter Try.func81, Try.ntmps81
    go_wp2
    go_ret
    exact ⟨ret_bool HV.out.symm, HT.out⟩
end Go.Proofs.Ytcblbjhhlnmkjaa
end
