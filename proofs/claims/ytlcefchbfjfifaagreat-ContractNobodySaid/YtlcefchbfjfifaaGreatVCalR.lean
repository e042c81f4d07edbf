/- Package week: none, at, Open, Row. Package week: Open, Row, Total. -/
import Derived.Test.YtlcefchbfjfifaaGreatVCalP
import Derived.Test.YtlcefchbfjfifaaGreatVCalI
import Derived.Lib.Walk
section
namespace Go.Proofs.YtlcefchbfjfifaaGreat
open Go.RowKit Cal
set_option maxHeartbeats 4000000
set_option maxRecDepth 100000
set_option linter.unusedVariables false
attribute [local irreducible] wpPlan

theorem wnone_any (g : Nat) (wk : List Sp) (A : Option Addr) (k b : Nat) (F : Nat → Prop) (w : World) (h : PlAt w g wk A k b F) :
    Calls Tryz.prog 102 #[.pointer (some ⟨g, 0, none⟩)] w fun e w' => e = .returned (.bool false) ∧ w = w' := by
  have q := h.blk.cell 1
  simp at q
  clear h
  go_enter Tryz.func102, Tryz.ntmps102
  go_wp2
  go_ret
  exact ⟨rfl, rfl⟩
def sgn (b : Bool) : Int := if b then -1 else 1
theorem at_fn (f t x : Int) (w : World) : Calls Tryz.prog 130 #[.agg #[.int .i64 f, .int .i64 t], .int .i64 x] w fun e w' => e = .returned (.int .i64 (sgn (decide (t ≤ x)))) ∧ Touch (fun _ => False) w w' := by
  have HT := Lib.hid ((Touch.refl (fun _ => False) w).alloc (.cells #[.int .i64 f, .int .i64 t] 92))
  by_cases h : t ≤ x
  · go_enter Tryz.func130, Tryz.ntmps130
    go_wp2
    go_ret
    exact ⟨ret_int (by rw [decide_eq_true h]; rfl), HT.out⟩
  · go_enter Tryz.func130, Tryz.ntmps130
    go_wp2
    go_ret
    exact ⟨ret_int (by rw [decide_eq_false (by omega)]; rfl), HT.out⟩
def BsP (l : List Sp) (x : Int) (w : World) (e : Ending) (w' : World) : Prop := ∃ i : Nat, AtP l x i ∧ e = .returned (.tuple #[.int .i64 i, .bool false]) ∧ Touch (fun _ => False) w w'
theorem bsf_any (F : Nat → Prop) (A : Option Addr) (c : Nat) (l : List Sp) (x : Int) (w : World) (hr : SpR w F A l.length l) (hrow : Row 0 l) (hn : l.length ≤ 1000000) :
    Calls Tryz.prog 129 #[.slice A l.length c, .int .i64 x, .func (.func 130) #[] #[]] w (BsP l x w) := by
  have HR := Lib.hid hr
  have HS := Lib.hid (fun (i j : Nat) (s s' : Sp) (h1 : l[i]? = some s) (h2 : l[j]? = some s') (h3 : i < j) => Row.sorted hrow h1 h2 h3)
  have HE := Lib.hid (fun (i : Nat) (s : Sp) (h1 : l[i]? = some s) => Row.getE hrow h1)
  clear hr hrow
  go_enter Tryz.func129, Tryz.ntmps129
  go_wp2_with fail
  go_loopw [9, 10] (fun lo hi wr => ∃ i j : Nat, lo = .int .i64 i ∧ hi = .int .i64 j ∧ i ≤ j ∧ j ≤ l.length ∧ (∀ q s, l[q]? = some s → q < i → s.t ≤ x) ∧ (∀ q s, l[q]? = some s → j ≤ q → ¬ s.t ≤ x) ∧ Touch (fun _ => False) w wr) (fun lo hi _ => (intOf hi - intOf lo).toNat)
  case atStart => exact ⟨0, l.length, rfl, rfl, by omega, by omega, (fun q s h1 h2 => by omega), (fun q s h1 h2 => by have := (List.getElem?_eq_some_iff.1 h1).1; omega), Touch.refl _ _⟩
  case round =>
    obtain ⟨i, j, rfl, rfl, hij, hj, h1, h2, hT⟩ := hrel
    have H1 := Lib.hid h1
    have H2 := Lib.hid h2
    have HT := Lib.hid hT
    clear h1 h2 hT
    by_cases hlt : i < j
    · have hml : (i + j) / 2 < l.length := by omega
      have ha : l[(i + j) / 2]? = some (l[(i + j) / 2]'hml) := List.getElem?_eq_getElem _
      obtain ⟨g, off, rfl, hg, -, hc0, hc1⟩ := (HR.out.touch HT.out (fun _ _ e => e)).at_ ha
      have HA := Lib.hid ha
      generalize l[(i + j) / 2]'hml = s at *
      obtain ⟨f, t⟩ := s
      simp only at hc0 hc1
      clear ha
      by_cases htx : t ≤ x
      · go_wp2_with (go_at_call 130; go_must (refine (at_fn f t x _).mono ?_); rintro e w1 ⟨rfl, t1⟩; rw [show sgn (decide (t ≤ x)) = -1 by rw [decide_eq_true htx]; rfl]; have HT1 := Lib.hid (HT.out.trans t1 (fun _ _ e => e)); clear t1)
        go_roundw
        case rel =>
          refine ⟨(i + j) / 2 + 1, j, by rw [show ((i : Int) + (j : Int)) / 2 + 1 = (((i + j) / 2 + 1 : Nat) : Int) by omega], rfl, by omega, hj, fun q s hq hqi => ?_, ?_, HT1.out⟩
          · rcases Nat.lt_or_ge q ((i + j) / 2) with hlt' | hge
            · have := HS.out q _ s _ hq HA.out hlt'
              have := HE.out _ _ HA.out
              simp only at *
              omega
            · have : q = (i + j) / 2 := by omega
              subst this
              have := HA.out
              rw [hq] at this
              injection this with this
              subst this
              exact htx
          · intro q s hq hqj
            have := H2.out q s hq hqj
            omega
        case measure => simp [intOf]; omega
      · go_wp2_with (go_at_call 130; go_must (refine (at_fn f t x _).mono ?_); rintro e w1 ⟨rfl, t1⟩; rw [show sgn (decide (t ≤ x)) = 1 by rw [decide_eq_false (by omega)]; rfl]; have HT1 := Lib.hid (HT.out.trans t1 (fun _ _ e => e)); clear t1)
        go_roundw
        case rel =>
          refine ⟨i, (i + j) / 2, rfl, by rw [show ((i : Int) + (j : Int)) / 2 = (((i + j) / 2 : Nat) : Int) by omega], by omega, by omega, H1.out, fun q s hq hqj => ?_, HT1.out⟩
          rcases Nat.lt_or_ge ((i + j) / 2) q with hlt' | hge
          · have := HS.out _ q _ s HA.out hq hlt'
            have := HE.out _ _ hq
            simp only at *
            omega
          · have : q = (i + j) / 2 := by omega
            subst this
            have := HA.out
            rw [hq] at this
            injection this with this
            subst this
            simp only
            omega
        case measure => simp [intOf]; omega
    · obtain rfl : j = i := by omega
      have HP := Lib.hid (show AtP l x j from ⟨hj, fun q s hq => ⟨H1.out q s hq, fun h => by
        rcases Nat.lt_or_ge q j with h' | h'
        · exact h'
        · have := H2.out q s hq h'; omega⟩⟩)
      by_cases hjl : j < l.length
      · have ha : l[j]? = some (l[j]'hjl) := List.getElem?_eq_getElem _
        obtain ⟨g, off, rfl, hg, -, hc0, hc1⟩ := (HR.out.touch HT.out (fun _ _ e => e)).at_ ha
        have hv := HP.out.2 j _ ha
        generalize l[j]'hjl = s at *
        obtain ⟨f, t⟩ := s
        simp only at hc0 hc1 hv
        have htx : ¬ t ≤ x := fun h => by have := hv.2 h; omega
        clear ha hv
        go_wp2_with (go_at_call 130; go_must (refine (at_fn f t x _).mono ?_); rintro e w1 ⟨rfl, t1⟩; rw [show sgn (decide (t ≤ x)) = 1 by rw [decide_eq_false (by omega)]; rfl]; have HT1 := Lib.hid (HT.out.trans t1 (fun _ _ e => e)); clear t1)
        go_ret2
        exact ⟨j, HP.out, rfl, HT1.out⟩
      · obtain rfl : j = l.length := by omega
        go_wp2
        go_ret2
        exact ⟨l.length, HP.out, rfl, HT.out⟩
theorem at_any (g : Nat) (wk : List Sp) (A : Option Addr) (k b : Nat) (F : Nat → Prop) (x : Int) (w : World) (h : PlAt w g wk A k b F) (hw : Week wk) :
    Calls Tryz.prog 108 #[.pointer (some ⟨g, 0, none⟩), .int .i64 x] w fun e w' => ∃ i : Nat, AtP wk x i ∧ e = .returned (.int .i64 i) ∧ Touch (fun _ => False) w w' := by
  have q := h.blk.cell 0
  simp at q
  have HB := Lib.hid (bsf_any F A k wk x w h.row hw.1 (by have := hw.2.1; omega))
  clear h hw
  go_enter Tryz.func108, Tryz.ntmps108
  go_wp2_with (go_at_call 129; go_must (refine HB.out.mono ?_); rintro e w1 ⟨i, hi, rfl, t1⟩; have HI := Lib.hid hi; have HT1 := Lib.hid t1; clear hi t1)
  go_ret
  exact ⟨i, HI.out, rfl, HT1.out⟩
end Go.Proofs.YtlcefchbfjfifaaGreat
end

section
namespace Go.Proofs.YtlcefchbfjfifaaGreat
open Go.RowKit Cal
set_option maxHeartbeats 4000000
set_option maxRecDepth 100000
set_option linter.unusedVariables false
attribute [local irreducible] wpPlan

theorem SpR.at_or {w : World} {F : Nat → Prop} {A : Option Addr} {n : Nat} {l : List Sp} (h : SpR w F A n l) (i : Nat) :
    (∃ g off f t, A = some ⟨g, off, none⟩ ∧ l[i]? = some ⟨f, t⟩ ∧ i < n ∧ w.cell? ⟨g, off + i * 2, none⟩ = some (.int .i64 f) ∧ w.cell? ⟨g, off + i * 2 + 1, none⟩ = some (.int .i64 t)) ∨ (¬ i < n ∧ l[i]? = none) := by
  by_cases hl : i < l.length
  · obtain ⟨g, off, e, -, -, h0, h1⟩ := h.at_ (List.getElem?_eq_getElem hl)
    exact .inl ⟨g, off, l[i].f, l[i].t, e, List.getElem?_eq_getElem hl, by rw [← h.1]; exact hl, h0, h1⟩
  · exact .inr ⟨by rw [← h.1]; exact hl, List.getElem?_eq_none (by omega)⟩
theorem wrow_any (g : Nat) (wk : List Sp) (A : Option Addr) (k b : Nat) (F : Nat → Prop) (w : World) (h : PlAt w g wk A k b F) (hw : Week wk) :
    Calls Tryz.prog 98 #[.pointer (some ⟨g, 0, none⟩)] w (NewSpan w wk) := by
  have HN := Lib.hid (wnone_any g wk A k b F w h)
  have HC := Lib.hid (sclone_any F A k wk w h.row (by have := hw.2.1; omega))
  have q := h.blk.cell 0
  simp at q
  clear h hw
  go_enter Tryz.func98, Tryz.ntmps98
  go_wp2_with (first
    | (go_at_call 102; go_must (refine HN.out.mono ?_); rintro e w0 ⟨rfl, rfl⟩)
    | (go_at_call 83; go_must (refine HC.out.mono ?_); rintro e w1 ⟨A1, c1, rfl, h1, h2, h3, h4, h5⟩; have HQ := Lib.hid (And.intro h1 (And.intro h2 (And.intro h3 (And.intro h4 h5)))); clear h1 h2 h3 h4 h5))
  go_ret
  obtain ⟨h1, h2, h3, h4, h5⟩ := HQ.out
  exact ⟨A1, c1, rfl, h1, h2, h3, h4, h5⟩
theorem Rd.sum {w : World} {F : Nat → Prop} {A : Option Addr} {n : Nat} {wk : List Sp} (h : Rd w F A n ((sumsN wk wk.length).map V64)) {i : Nat} (hi : i ≤ wk.length) :
    ∃ g off, A = some ⟨g, off, none⟩ ∧ g < w.heap.size ∧ w.cell? ⟨g, off + i, none⟩ = some (.int .i64 (longS (wk.take i))) := by
  have hn : n = wk.length + 1 := by have := h.1; rw [List.length_map, sumsN_len] at this; omega
  obtain ⟨g, off, e, hg, -, hc⟩ := h.2 (by omega)
  refine ⟨g, off, e, hg, hc i _ ?_⟩
  rw [List.getElem?_map, sumsN_get wk wk.length i hi]; rfl
/-- What a call that may fill the lazy cell leaves. -/
def PnInt (g : Nat) (wk : List Sp) (b : Nat) (G : Nat → Prop) (v : Int) (w : World) (e : Ending) (w' : World) : Prop :=
  e = .returned (.int .i64 v) ∧ PnAt w' g wk b (More G w w') ∧ Touch (fun q => q = b) w w'
theorem total_any (g : Nat) (wk : List Sp) (b : Nat) (G : Nat → Prop) (w : World) (h : PnAt w g wk b G) :
    Calls Tryz.prog 73 #[.pointer (some ⟨g, 0, none⟩)] w (PnInt g wk b G (len wk) w) := by
  obtain ⟨A, k, hp⟩ := h.pl
  have HN := Lib.hid (wnone_any g wk A k b G w hp)
  have q0 := hp.blk.cell 0; have q1 := hp.blk.cell 1
  simp at q0 q1
  have hgl := hp.blk.lt
  have hgb : g ≠ b := fun e => h.nb (e ▸ h.gG)
  have HG := Lib.hid (fun w1 (hh : PnAt w1 g wk b G) => get_any g wk b G w1 hh)
  have HH := Lib.hid h
  have HL := Lib.hid (len_sums h.wk)
  clear h hp
  go_enter Tryz.func73, Tryz.ntmps73
  go_wp2_with (go_at_call 102; go_must (refine HN.out.mono ?_); rintro e w0 ⟨rfl, rfl⟩)
  refine wp_region_plan [(0, 0), (0, 1), (0, 2), (0, 3), (1, 5), (1, 6), (1, 7), (1, 8), (1, 9), (2, 4), (0, 10), (0, 11), (0, 12)] (fun q => q = b) (by kernel_rfl) (by kernel_rfl) (fun c a d v w h => by cases d <;> exact h) ?_
  iterate 4
    refine plan_s1 rfl (by rfl) (fun Kc hKc => ?_)
    go_simp
    first
      | (refine hKc _ ?_)
    clear hKc Kc
  iterate 5
    first
      | (apply plan_h
         · rfl
         · rfl
         · intro wh hT
           have hf0 := (hT.cell (p := ⟨g, 0, none⟩) hgl hgb).trans q0
           go_simp
           try rfl
         go_frame)
      | (refine plan_hn rfl (by rfl) ?_; go_frame)
  refine plan_a1 rfl (by rfl) (fun Kc hKc => ?_)
  go_simp
  refine (HG.out _ (by exact HH.out.touch ((Touch.refl (fun _ => False) _).drew) (fun e => e) (fun _ _ e => e))).mono ?_
  rintro e w1 ⟨A1, c1, rfl, r1, p1, t1⟩
  refine hKc _ _ ⟨t1, ?_⟩
  clear hKc Kc
  obtain ⟨g1, o1, rfl, -, hx⟩ := r1.sum (i := wk.length) (by omega)
  rw [HL.out] at hx
  have HP1 := Lib.hid p1
  have HT1 := Lib.hid t1
  clear r1 p1 t1
  have hlt : (wk.length : Int) < (wk.length : Int) + 1 := by omega
  have hl0 : (0 : Int) ≤ (wk.length : Int) := by omega
  iterate 3
    refine plan_s1 rfl (by rfl) (fun Kc hKc => ?_)
    go_simp
    first
      | (refine hKc _ ?_)
    clear hKc Kc
  refine plan_done ?_
  clear hlt
  go_wp2
  go_ret
  exact ⟨rfl, HP1.out, (Touch.refl _ w).drew.trans HT1.out (fun _ _ e => e)⟩
end Go.Proofs.YtlcefchbfjfifaaGreat
end
