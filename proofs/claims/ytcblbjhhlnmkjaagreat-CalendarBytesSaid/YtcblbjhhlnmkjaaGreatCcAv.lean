/- span.Same (slices.EqualFunc), calendar.Same. -/
import Derived.Test.YtcblbjhhlnmkjaaGreatCalGv
namespace Go.Proofs.YtcblbjhhlnmkjaaGreat
open Go.RowKit Cal
set_option maxHeartbeats 4000000
set_option maxRecDepth 100000
set_option linter.unusedVariables false

theorem eqfn_any (f t f' t' : Int) (w : World) : Calls Tryz.prog 93 #[.agg #[.int .i64 f, .int .i64 t], .agg #[.int .i64 f', .int .i64 t']] w fun e w' => e = .returned (.bool (decide (f = f') && decide (t = t'))) ∧ Touch (fun _ => False) w w' := by
  have HT := Lib.hid (((Touch.refl (fun _ => False) w).alloc (.cells #[.int .i64 f, .int .i64 t] 102)).alloc (.cells #[.int .i64 f', .int .i64 t'] 102))
  have HV := Lib.hid (show decide (f = f') = (f == f') from by cases h : decide (f = f') <;> simp_all)
  by_cases h1 : f = f'
  · subst h1
    by_cases h2 : t = t'
    · subst h2
      go_enter Tryz.func93, Tryz.ntmps93
      go_wp2
      go_ret
      exact ⟨by simp, HT.out⟩
    · have hb : (t == t') = false := by simpa using h2
      go_enter Tryz.func93, Tryz.ntmps93
      go_wp2
      go_ret
      exact ⟨by simp, HT.out⟩
  · have hb : (f == f') = false := by simpa using h1
    go_enter Tryz.func93, Tryz.ntmps93
    go_wp2
    go_ret
    exact ⟨by simp [h1], HT.out⟩
theorem eqf_any (F F' : Nat → Prop) (A A' : Option Addr) (c c' : Nat) (a b : List Sp) (w : World) (hr : SpR w F A a.length a) (hr' : SpR w F' A' b.length b) (hsm : a.length ≤ 1000000) :
    Calls Tryz.prog 92 #[.slice A a.length c, .slice A' b.length c', .func (.func 93) #[] #[]] w fun e w' => e = .returned (.bool (sameL a b)) ∧ Touch (fun _ => False) w w' := by
  have Hr := Lib.hid hr
  have Hr' := Lib.hid hr'
  clear hr hr'
  by_cases hlen : a.length = b.length
  · rw [← hlen] at Hr' ⊢
    have HL := Lib.hid hlen
    clear hlen
    go_enter Tryz.func92, Tryz.ntmps92
    go_wp2_with fail
    go_loopw [17] (fun i wr => ∃ j : Nat, j ≤ a.length ∧ i = .int .i64 j ∧ sameL (a.drop j) (b.drop j) = sameL a b ∧ Touch (fun _ => False) w wr) (fun i _ => a.length - (intOf i).toNat)
    case atStart => exact ⟨0, by omega, rfl, rfl, Touch.refl _ _⟩
    case round =>
      obtain ⟨j, hj, rfl, hno, hT⟩ := hrel
      have HN := Lib.hid hno
      have HT := Lib.hid hT
      clear hno hT
      by_cases hjk : j < a.length
      · have ha : a[j]? = some (a[j]'hjk) := List.getElem?_eq_getElem _
        have hb : b[j]? = some (b[j]'(by have := HL.out; omega)) := List.getElem?_eq_getElem _
        obtain ⟨g, off, rfl, hg, -, hc0, hc1⟩ := (Hr.out.touch HT.out (fun _ _ e => e)).at_ ha
        obtain ⟨g', off', rfl, hg', -, hd0, hd1⟩ := (Hr'.out.touch HT.out (fun _ _ e => e)).at_ hb
        have HE := Lib.hid (sameL_drop a b j _ _ ha hb)
        generalize a[j]'hjk = s at *
        generalize b[j]'_ = u at *
        obtain ⟨f, t⟩ := s
        obtain ⟨f', t'⟩ := u
        simp only at hc0 hc1 hd0 hd1
        clear ha hb
        have HTb := Lib.hid (((Touch.refl (fun _ => False) wr).alloc (.cells #[.int .i64 f, .int .i64 t] 102)).alloc (.cells #[.int .i64 f', .int .i64 t'] 102))
        have HF := Lib.hid (fun w1 => eqfn_any f t f' t' w1)
        by_cases h1 : f = f' ∧ t = t'
        · have HV := Lib.hid (show sameL (a.drop (j + 1)) (b.drop (j + 1)) = sameL a b by rw [← HN.out, HE.out]; simp [h1.1, h1.2])
          have hd : (decide (f = f') && decide (t = t')) = true := by simp [h1.1, h1.2]
          rw [hd] at HF
          clear h1 hd
          go_wp2_with (go_at_call 93; go_must (refine (HF.out _).mono ?_); rintro e w1 ⟨rfl, t1⟩; have HT1 := Lib.hid ((HT.out.trans HTb.out (fun _ _ e => e)).trans t1 (fun _ _ e => e)); clear t1)
          go_roundw
          case rel => exact ⟨j + 1, by omega, by go_num, HV.out, HT1.out⟩
          case measure => simp [intOf]; omega
        · have hd : (decide (f = f') && decide (t = t')) = false := by
            cases hq : (decide (f = f') && decide (t = t'))
            · rfl
            · exact absurd (by simpa using hq) h1
          have HV := Lib.hid (show sameL a b = false by rw [← HN.out, HE.out, hd]; rfl)
          rw [hd] at HF
          clear h1 hd
          go_wp2_with (go_at_call 93; go_must (refine (HF.out _).mono ?_); rintro e w1 ⟨rfl, t1⟩; have HT1 := Lib.hid ((HT.out.trans HTb.out (fun _ _ e => e)).trans t1 (fun _ _ e => e)); clear t1)
          go_ret
          exact ⟨ret_bool HV.out.symm, HT1.out⟩
      · obtain rfl : j = a.length := by omega
        have HV := Lib.hid (show sameL a b = true by rw [← HN.out, List.drop_length, HL.out, List.drop_length]; rfl)
        go_wp2
        go_ret
        exact ⟨ret_bool HV.out.symm, HT.out⟩
  · have HV := Lib.hid (show sameL a b = false by cases h : sameL a b; rfl; exact absurd (sameL_len a b h) hlen)
    go_enter Tryz.func92, Tryz.ntmps92
    have hd : ((a.length : Int) != (b.length : Int)) = true := by simp; omega
    go_wp2
    go_ret
    exact ⟨ret_bool HV.out.symm, Touch.refl _ _⟩
theorem ssame_any (F F' : Nat → Prop) (A A' : Option Addr) (c c' : Nat) (a b : List Sp) (w : World) (hr : SpR w F A a.length a) (hr' : SpR w F' A' b.length b) (hsm : a.length ≤ 1000000) :
    Calls Tryz.prog 52 #[.slice A a.length c, .slice A' b.length c'] w fun e w' => e = .returned (.bool (sameL a b)) ∧ Touch (fun _ => False) w w' := by
  have HE := Lib.hid (eqf_any F F' A A' c c' a b w hr hr' hsm)
  generalize sameL a b = v at *
  clear hr hr' hsm
  go_enter Tryz.func52, Tryz.ntmps52
  go_wp2_with (go_at_call 92; go_must (refine HE.out.mono ?_); rintro e w1 ⟨rfl, t1⟩; have HT1 := Lib.hid t1; clear t1)
  go_ret
  exact ⟨rfl, HT1.out⟩
theorem csame_any (F F' : Nat → Prop) (A B A' B' : Option Addr) (k m k' m' : Nat) (c d : Ca) (w : World) (hr : CaR w F c A B) (hr' : CaR w F' d A' B') (h1 : c.wk.length ≤ 1000000) (h2 : c.cl.length ≤ 1000000) :
    Calls Tryz.prog 15 #[.agg #[.int .i64 c.off, .slice A c.wk.length k, .slice B c.cl.length m], .agg #[.int .i64 d.off, .slice A' d.wk.length k', .slice B' d.cl.length m']] w fun e w' => e = .returned (.bool (sameC c d)) ∧ Touch (fun _ => False) w w' := by
  have HT := Lib.hid (((Touch.refl (fun _ => False) w).alloc (.cells #[.int .i64 c.off, .slice A c.wk.length k, .slice B c.cl.length m] 24)).alloc (.cells #[.int .i64 d.off, .slice A' d.wk.length k', .slice B' d.cl.length m'] 24))
  have HB0 := Lib.hid ((Blk.new w 24 #[.int .i64 c.off, .slice A c.wk.length k, .slice B c.cl.length m]).alloc (.cells #[.int .i64 d.off, .slice A' d.wk.length k', .slice B' d.cl.length m'] 24))
  have HB0' := Lib.hid (show Blk _ (w.heap.size + 1) _ _ by simpa using Blk.new (w.alloc (.cells #[.int .i64 c.off, .slice A c.wk.length k, .slice B c.cl.length m] 24)) 24 #[.int .i64 d.off, .slice A' d.wk.length k', .slice B' d.cl.length m'])
  have HR := Lib.hid hr
  have HR' := Lib.hid hr'
  have HW := Lib.hid (fun w1 hr hr' => ssame_any F F' A A' k k' c.wk d.wk w1 hr hr' h1)
  have HC := Lib.hid (fun w1 hr hr' => ssame_any F F' B B' m m' c.cl d.cl w1 hr hr' h2)
  have HV := Lib.hid (show sameC c d = (decide (c.off = d.off) && sameL c.wk d.wk && sameL c.cl d.cl) from rfl)
  generalize sameC c d = v at *
  clear hr hr'
  obtain ⟨off, wk, cl⟩ := c
  obtain ⟨off', wk', cl'⟩ := d
  simp only at *
  generalize sameL wk wk' = x at *
  generalize sameL cl cl' = y at *
  by_cases ho : off = off'
  · subst ho
    rw [decide_eq_true rfl, Bool.true_and] at HV
    cases x
    · go_enter Tryz.func15, Tryz.ntmps15
      go_wp2_with (go_at_call 52; go_must (refine (HW.out _ (by exact HR.out.wk.touch HT.out (fun _ _ e => e)) (by exact HR'.out.wk.touch HT.out (fun _ _ e => e))).mono ?_); rintro e w0 ⟨rfl, t0⟩; have HT0 := Lib.hid (HT.out.trans t0 (fun _ _ e => e)); clear t0)
      go_ret
      exact ⟨ret_bool (by rw [HV.out]; rfl), HT0.out⟩
    · go_enter Tryz.func15, Tryz.ntmps15
      go_wp2_with (first
        | (go_at_call 52; have M9 := M1; go_must (refine (HC.out _ (by exact HR.out.cl.touch HT0.out (fun _ _ e => e)) (by exact HR'.out.cl.touch HT0.out (fun _ _ e => e))).mono ?_); rintro e w1 ⟨rfl, t1⟩; have HT1 := Lib.hid (HT0.out.trans t1 (fun _ _ e => e)); clear t1)
        | (go_at_call 52; go_must (refine (HW.out _ (by exact HR.out.wk.touch HT.out (fun _ _ e => e)) (by exact HR'.out.wk.touch HT.out (fun _ _ e => e))).mono ?_); rintro e w0 ⟨rfl, t0⟩; have HT0 := Lib.hid (HT.out.trans t0 (fun _ _ e => e)); have q2 := (t0.blk HB0.out (fun e => e)).cell 2; have r2 := (t0.blk HB0'.out (fun e => e)).cell 2; simp at q2 r2; have M1 := Lib.hid trivial; clear t0))
      go_ret
      exact ⟨ret_bool (by rw [HV.out]; rfl), HT1.out⟩
  · have ho' : (off == off') = false := by simpa using ho
    rw [decide_eq_false ho, Bool.false_and, Bool.false_and] at HV
    go_enter Tryz.func15, Tryz.ntmps15
    go_wp2
    go_ret
    exact ⟨ret_bool HV.out.symm, HT.out⟩
end Go.Proofs.YtcblbjhhlnmkjaaGreat
