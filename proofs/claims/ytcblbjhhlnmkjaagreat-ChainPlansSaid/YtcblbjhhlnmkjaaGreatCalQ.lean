/- Package week: none, at, Open, Row. -/
import Derived.Test.YtcblbjhhlnmkjaaGreatCalP
import Derived.Test.YtcblbjhhlnmkjaaGreatCalI
import Derived.Lib.Walk
namespace Go.Proofs.YtcblbjhhlnmkjaaGreat
open Go.RowKit Cal
set_option maxHeartbeats 4000000
set_option maxRecDepth 100000
set_option linter.unusedVariables false
attribute [local irreducible] wpPlan

theorem wnone_any (g : Nat) (wk : List Sp) (A : Option Addr) (k b : Nat) (F : Nat → Prop) (w : World) (h : PlAt w g wk A k b F) :
    Calls Tryz.prog 107 #[.pointer (some ⟨g, 0, none⟩)] w fun e w' => e = .returned (.bool false) ∧ w = w' := by
  have q := h.blk.cell 1
  simp at q
  clear h
  go_enter Tryz.func107, Tryz.ntmps107
  go_wp2
  go_ret
  exact ⟨rfl, rfl⟩
def sgn (b : Bool) : Int := if b then -1 else 1
theorem at_fn (f t x : Int) (w : World) : Calls Tryz.prog 125 #[.agg #[.int .i64 f, .int .i64 t], .int .i64 x] w fun e w' => e = .returned (.int .i64 (sgn (decide (t ≤ x)))) ∧ Touch (fun _ => False) w w' := by
  have HT := Lib.hid ((Touch.refl (fun _ => False) w).alloc (.cells #[.int .i64 f, .int .i64 t] 102))
  by_cases h : t ≤ x
  · go_enter Tryz.func125, Tryz.ntmps125
    go_wp2
    go_ret
    exact ⟨ret_int (by rw [decide_eq_true h]; rfl), HT.out⟩
  · go_enter Tryz.func125, Tryz.ntmps125
    go_wp2
    go_ret
    exact ⟨ret_int (by rw [decide_eq_false (by omega)]; rfl), HT.out⟩
def BsP (l : List Sp) (x : Int) (w : World) (e : Ending) (w' : World) : Prop := ∃ i : Nat, AtP l x i ∧ e = .returned (.tuple #[.int .i64 i, .bool false]) ∧ Touch (fun _ => False) w w'
theorem bsf_any (F : Nat → Prop) (A : Option Addr) (c : Nat) (l : List Sp) (x : Int) (w : World) (hr : SpR w F A l.length l) (hrow : Row 0 l) (hn : l.length ≤ 1000000) :
    Calls Tryz.prog 124 #[.slice A l.length c, .int .i64 x, .func (.func 125) #[] #[]] w (BsP l x w) := by
  have HR := Lib.hid hr
  have HS := Lib.hid (fun (i j : Nat) (s s' : Sp) (h1 : l[i]? = some s) (h2 : l[j]? = some s') (h3 : i < j) => Row.sorted hrow h1 h2 h3)
  have HE := Lib.hid (fun (i : Nat) (s : Sp) (h1 : l[i]? = some s) => Row.getE hrow h1)
  clear hr hrow
  go_enter Tryz.func124, Tryz.ntmps124
  go_wp2_with fail
  go_loopw [9, 10] (fun lo hi wr => ∃ i j : Nat, lo = .int .i64 i ∧ hi = .int .i64 j ∧ i ≤ j ∧ j ≤ l.length ∧ (∀ q s, l[q]? = some s → q < i → s.t ≤ x) ∧ (∀ q s, l[q]? = some s → j ≤ q → ¬ s.t ≤ x) ∧ Touch (fun _ => False) w wr) (fun lo hi _ => (intOf hi - intOf lo).toNat)
  case atStart => exact ⟨0, l.length, rfl, rfl, by omega, by omega, (fun q s h1 h2 => by omega), (fun q s h1 h2 => by have := (List.getElem?_eq_some_iff.1 h1).1; omega), Touch.refl _ _⟩
  case round =>
    obtain ⟨i, j, rfl, rfl, hij, hj, h1, h2, hT⟩ := hrel
    have H1 := Lib.hid h1
    have H2 := Lib.hid h2
    have HT := Lib.hid hT
    clear h1 h2 hT
    by_cases hlt : i < j
    · have hml : (i + j) / 2 < l.length := by omega
      have ha : l[(i + j) / 2]? = some (l[(i + j) / 2]'hml) := List.getElem?_eq_getElem _
      obtain ⟨g, off, rfl, hg, -, hc0, hc1⟩ := (HR.out.touch HT.out (fun _ _ e => e)).at_ ha
      have HA := Lib.hid ha
      generalize l[(i + j) / 2]'hml = s at *
      obtain ⟨f, t⟩ := s
      simp only at hc0 hc1
      clear ha
      by_cases htx : t ≤ x
      · go_wp2_with (go_at_call 125; go_must (refine (at_fn f t x _).mono ?_); rintro e w1 ⟨rfl, t1⟩; rw [show sgn (decide (t ≤ x)) = -1 by rw [decide_eq_true htx]; rfl]; have HT1 := Lib.hid (HT.out.trans t1 (fun _ _ e => e)); clear t1)
        go_roundw
        case rel =>
          refine ⟨(i + j) / 2 + 1, j, by rw [show ((i : Int) + (j : Int)) / 2 + 1 = (((i + j) / 2 + 1 : Nat) : Int) by omega], rfl, by omega, hj, fun q s hq hqi => ?_, ?_, HT1.out⟩
          · rcases Nat.lt_or_ge q ((i + j) / 2) with hlt' | hge
            · have := HS.out q _ s _ hq HA.out hlt'
              have := HE.out _ _ HA.out
              simp only at *
              omega
            · have : q = (i + j) / 2 := by omega
              subst this
              have := HA.out
              rw [hq] at this
              injection this with this
              subst this
              exact htx
          · intro q s hq hqj
            have := H2.out q s hq hqj
            omega
        case measure => simp [intOf]; omega
      · go_wp2_with (go_at_call 125; go_must (refine (at_fn f t x _).mono ?_); rintro e w1 ⟨rfl, t1⟩; rw [show sgn (decide (t ≤ x)) = 1 by rw [decide_eq_false (by omega)]; rfl]; have HT1 := Lib.hid (HT.out.trans t1 (fun _ _ e => e)); clear t1)
        go_roundw
        case rel =>
          refine ⟨i, (i + j) / 2, rfl, by rw [show ((i : Int) + (j : Int)) / 2 = (((i + j) / 2 : Nat) : Int) by omega], by omega, by omega, H1.out, fun q s hq hqj => ?_, HT1.out⟩
          rcases Nat.lt_or_ge ((i + j) / 2) q with hlt' | hge
          · have := HS.out _ q _ s HA.out hq hlt'
            have := HE.out _ _ hq
            simp only at *
            omega
          · have : q = (i + j) / 2 := by omega
            subst this
            have := HA.out
            rw [hq] at this
            injection this with this
            subst this
            simp only
            omega
        case measure => simp [intOf]; omega
    · obtain rfl : j = i := by omega
      have HP := Lib.hid (show AtP l x j from ⟨hj, fun q s hq => ⟨H1.out q s hq, fun h => by
        rcases Nat.lt_or_ge q j with h' | h'
        · exact h'
        · have := H2.out q s hq h'; omega⟩⟩)
      by_cases hjl : j < l.length
      · have ha : l[j]? = some (l[j]'hjl) := List.getElem?_eq_getElem _
        obtain ⟨g, off, rfl, hg, -, hc0, hc1⟩ := (HR.out.touch HT.out (fun _ _ e => e)).at_ ha
        have hv := HP.out.2 j _ ha
        generalize l[j]'hjl = s at *
        obtain ⟨f, t⟩ := s
        simp only at hc0 hc1 hv
        have htx : ¬ t ≤ x := fun h => by have := hv.2 h; omega
        clear ha hv
        go_wp2_with (go_at_call 125; go_must (refine (at_fn f t x _).mono ?_); rintro e w1 ⟨rfl, t1⟩; rw [show sgn (decide (t ≤ x)) = 1 by rw [decide_eq_false (by omega)]; rfl]; have HT1 := Lib.hid (HT.out.trans t1 (fun _ _ e => e)); clear t1)
        go_ret2
        exact ⟨j, HP.out, rfl, HT1.out⟩
      · obtain rfl : j = l.length := by omega
        go_wp2
        go_ret2
        exact ⟨l.length, HP.out, rfl, HT.out⟩
theorem at_any (g : Nat) (wk : List Sp) (A : Option Addr) (k b : Nat) (F : Nat → Prop) (x : Int) (w : World) (h : PlAt w g wk A k b F) (hw : Week wk) :
    Calls Tryz.prog 112 #[.pointer (some ⟨g, 0, none⟩), .int .i64 x] w fun e w' => ∃ i : Nat, AtP wk x i ∧ e = .returned (.int .i64 i) ∧ Touch (fun _ => False) w w' := by
  have q := h.blk.cell 0
  simp at q
  have HB := Lib.hid (bsf_any F A k wk x w h.row hw.1 (by have := hw.2.1; omega))
  clear h hw
  go_enter Tryz.func112, Tryz.ntmps112
  go_wp2_with (go_at_call 124; go_must (refine HB.out.mono ?_); rintro e w1 ⟨i, hi, rfl, t1⟩; have HI := Lib.hid hi; have HT1 := Lib.hid t1; clear hi t1)
  go_ret
  exact ⟨i, HI.out, rfl, HT1.out⟩
end Go.Proofs.YtcblbjhhlnmkjaaGreat
