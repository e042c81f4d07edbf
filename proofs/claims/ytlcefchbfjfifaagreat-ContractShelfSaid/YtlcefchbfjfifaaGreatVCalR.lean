/- Package span: Right, Row, common, Cut. slices.Clone at spans; package almanac: New, all, Row, Next, Closed. Package week: none, at, Open, Row. Package week: Open, Row, Total. -/
import Derived.Test.YtlcefchbfjfifaaGreatVCalK
import Derived.Carry
import Derived.Test.YtlcefchbfjfifaaGreatVCalP
import Derived.Lib.Walk
section
namespace Go.Proofs.YtlcefchbfjfifaaGreat
open Go.RowKit Cal
set_option maxHeartbeats 4000000
set_option maxRecDepth 100000
set_option linter.unusedVariables false
attribute [local irreducible] wpPlan

theorem right_any (a b : Int) (w : World) : Calls Tryz.prog 132 #[.agg #[.int .i64 a, .int .i64 b]] w fun e w' => e = .returned (.bool (rightB ⟨a, b⟩)) ∧ Touch (fun _ => False) w w' := by
  have HT := Lib.hid ((Touch.refl (fun _ => False) w).alloc (.cells #[.int .i64 a, .int .i64 b] 92))
  go_enter Tryz.func132, Tryz.ntmps132
  go_wp2
  all_goals go_ret
  all_goals exact ⟨ret_bool (by simp only [rightB]; simp <;> omega), HT.out⟩
theorem row_any (F : Nat → Prop) (A : Option Addr) (c : Nat) (l : List Sp) (w : World) (hr : SpR w F A l.length l) (hsm : l.length ≤ 1000000) :
    Calls Tryz.prog 111 #[.slice A l.length c] w fun e w' => e = .returned (.int .i64 (rowE l)) ∧ Touch (fun _ => False) w w' := by
  have HR := Lib.hid hr
  clear hr
  by_cases hlong : 32 < l.length
  · have HV := Lib.hid (show rowE l = 21 by unfold rowE; rw [if_pos hlong])
    have hd : decide ((32 : Int) < (l.length : Int)) = true := by simp; omega
    go_enter Tryz.func111, Tryz.ntmps111
    go_wp2
    go_ret
    exact ⟨ret_int HV.out.symm, Touch.refl _ _⟩
  · have HV := Lib.hid (show rowE l = rowsE 0 l by unfold rowE; rw [if_neg hlong])
    have hd : ¬ (32 : Int) < (l.length : Int) := by omega
    go_enter Tryz.func111, Tryz.ntmps111
    go_wp2_with fail
    go_loopw [3, 11] (fun x i wr => ∃ j : Nat, j ≤ l.length ∧ i = .int .i64 j ∧ x = .int .i64 (endAt l j) ∧ rowsE (endAt l j) (l.drop j) = rowE l ∧ Touch (fun _ => False) w wr) (fun _ i _ => l.length - (intOf i).toNat)
    case atStart => exact ⟨0, by omega, rfl, rfl, by rw [HV.out]; rfl, Touch.refl _ _⟩
    case round =>
      clear HV
      obtain ⟨j, hj, rfl, rfl, hv, hT⟩ := hrel
      have HV := Lib.hid hv
      have HT := Lib.hid hT
      clear hv hT
      by_cases hjk : j < l.length
      · have ha : l[j]? = some (l[j]'hjk) := List.getElem?_eq_getElem _
        obtain ⟨g, off, rfl, hg, -, hc0, hc1⟩ := (HR.out.touch HT.out (fun _ _ e => e)).at_ ha
        have HD := Lib.hid (rows_drop l (endAt l j) j _ ha)
        have HE := Lib.hid (endAt_succ l j _ ha)
        generalize endAt l j = x at *
        generalize l[j]'hjk = s at *
        obtain ⟨f, t⟩ := s
        simp only at hc0 hc1 HE
        have HTb := Lib.hid ((Touch.refl (fun _ => False) wr).alloc (.cells #[.int .i64 f, .int .i64 t] 92))
        have HBb := Lib.hid (Blk.new wr 92 #[.int .i64 f, .int .i64 t])
        clear ha
        cases hb : rightB ⟨f, t⟩
        · have HB := Lib.hid hb
          have HV2 := Lib.hid (show rowE l = 2 by rw [← HV.out, HD.out, hb]; simp)
          clear hb
          go_wp2_with (go_at_call 132; go_must (refine (right_any _ _ _).mono ?_); rintro e w1 ⟨rfl, t1⟩; rw [HB.out]; have HT2 := Lib.hid ((HT.out.trans HTb.out (fun _ _ e => e)).trans t1 (fun _ _ e => e)); clear t1)
          go_ret
          exact ⟨ret_int HV2.out.symm, HT2.out⟩
        · have HB := Lib.hid hb
          by_cases hx : f < x
          · have HV2 := Lib.hid (show rowE l = 2 by rw [← HV.out, HD.out, hb]; simp [hx])
            clear hb
            go_wp2_with (go_at_call 132; go_must (refine (right_any _ _ _).mono ?_); rintro e w1 ⟨rfl, t1⟩; rw [HB.out]; have HT2 := Lib.hid ((HT.out.trans HTb.out (fun _ _ e => e)).trans t1 (fun _ _ e => e)); have q0 := (t1.blk HBb.out (fun e => e)).cell 0; have q1 := (t1.blk HBb.out (fun e => e)).cell 1; simp at q0 q1; clear t1)
            go_ret
            exact ⟨ret_int HV2.out.symm, HT2.out⟩
          · have HV2 := Lib.hid (show rowsE t (l.drop (j + 1)) = rowE l by rw [← HV.out, HD.out, hb]; simp [hx])
            clear hb
            go_wp2_with (go_at_call 132; go_must (refine (right_any _ _ _).mono ?_); rintro e w1 ⟨rfl, t1⟩; rw [HB.out]; have HT2 := Lib.hid ((HT.out.trans HTb.out (fun _ _ e => e)).trans t1 (fun _ _ e => e)); have q0 := (t1.blk HBb.out (fun e => e)).cell 0; have q1 := (t1.blk HBb.out (fun e => e)).cell 1; simp at q0 q1; clear t1)
            go_roundw
            case rel => exact ⟨j + 1, by omega, by go_num, by rw [HE.out], by rw [HE.out]; exact HV2.out, HT2.out⟩
            case measure => simp [intOf]; omega
      · obtain rfl : j = l.length := by omega
        have HV2 := Lib.hid (show rowE l = 0 by rw [← HV.out, List.drop_length]; rfl)
        go_wp2
        go_ret
        exact ⟨ret_int HV2.out.symm, HT.out⟩
end Go.Proofs.YtlcefchbfjfifaaGreat
end

section
namespace Go.Proofs.YtlcefchbfjfifaaGreat
open Go.RowKit Cal
set_option maxHeartbeats 4000000
set_option maxRecDepth 100000
set_option linter.unusedVariables false
attribute [local irreducible] wpPlan

theorem spC_one (l : List Sp) : ∀ u ∈ l.flatMap spC, u.oneCell' = true := by
  intro u hu
  obtain ⟨s, -, hs⟩ := List.mem_flatMap.1 hu
  simp [spC] at hs
  rcases hs with rfl | rfl <;> rfl
theorem SpR.near {w : World} {F : Nat → Prop} {A : Option Addr} {n : Nat} {l : List Sp} (h : SpR w F A n l) : SpR w (fun k => F k ∧ k < w.heap.size) A n l :=
  ⟨h.1, h.2.1, fun hn => by obtain ⟨g, off, e, hl, hf, hc⟩ := h.2.2 hn; exact ⟨g, off, e, hl, ⟨hf, hl⟩, hc⟩⟩
theorem SpR.isN {w : World} {F : Nat → Prop} {n : Nat} {l : List Sp} (h : SpR w F none n l) : n = 0 ∧ l = [] := by
  have h0 : n = 0 := by
    rcases Nat.eq_zero_or_pos n with h0 | h0
    · exact h0
    · obtain ⟨_, _, e, _⟩ := h.2.2 h0; cases e
  exact ⟨h0, List.eq_nil_of_length_eq_zero (by rw [h.1, h0])⟩
theorem SpR.isS {w : World} {F : Nat → Prop} {ad : Addr} {n : Nat} {l : List Sp} (h : SpR w F (some ad) n l) : ∀ j u, (l.flatMap spC)[j]? = some u → w.cell? (ad.add j) = some u := by
  intro j u hj
  have hjl := (List.getElem?_eq_some_iff.1 hj).1
  have hlen : (l.flatMap spC).length = n * 2 := h.2.1
  obtain ⟨g, off, e, _, _, hc⟩ := h.2.2 (by omega)
  injection e with e
  subst e
  rw [addr_add]
  exact hc j u hj
theorem sclone_any (F : Nat → Prop) (A : Option Addr) (c : Nat) (l : List Sp) (w : World) (h : SpR w F A l.length l) (hn : l.length ≤ 1000000) :
    Calls Tryz.prog 83 #[.slice A l.length c] w (NewSpan w l) := by
  rcases A with _ | ad
  · obtain ⟨h0, rfl⟩ := h.isN
    clear h hn h0
    have hbin : ∀ w, (binOp .eql 49 (.slice none 0 c) (.slice none 0 0)).run Tryz.prog w = .ok (.bool true) w := fun w => by first | rfl | simp [go_sem]
    simp only [List.length_nil]
    go_enter Tryz.func83, Tryz.ntmps83
    go_wp2
    go_ret
    exact ⟨none, 0, rfl, Nat.le_refl _, by simp, fun _ => rfl, SpR.nil _ _ _, Touch.refl _ _⟩
  · have Hn := Lib.hid (show ∀ j u, (l.flatMap spC)[j]? = some u → (w.alloc (.cells #[] 92)).cell? (ad.add j) = some u from fun j u hj => (World.cell?_alloc_lt _ _ _ (World.block_lt_of_cell? w _ (h.isS j u hj))).trans (h.isS j u hj))
    have h1 := Lib.hid (spC_one l)
    have hfl := Lib.hid (show (l.flatMap spC).length = l.length * 2 from h.2.1)
    obtain ⟨i0, hi, hz0, hz1, hz2⟩ := info_parts infoS
    have HO := Lib.hid (show Own (w.alloc (.cells #[] 92)) 92 2 (.slice (some ⟨w.heap.size, 0, none⟩) 0 0) (some w.heap.size) 0 [] from by simpa using Own.lit w 92 2 #[] 0 (by simp) (by simp))
    clear h
    generalize hm : l.length = m at *
    have hbin : ∀ w, (binOp .eql 49 (.slice (some ad) m c) (.slice none 0 0)).run Tryz.prog w = .ok (.bool false) w := fun w => by first | rfl | simp [go_sem]
    have HM := Lib.hid hm
    clear hm
    go_enter Tryz.func83, Tryz.ntmps83
    go_wp2_with (at_builtin; go_must (refine wpList_own_append rfl _ _ 49 49 rfl 92 i0 (.agg #[.int .i64 0, .int .i64 0]) 2 16 Tryz.underlying49 hi hz0 hz1 hz2 rfl _ (some w.heap.size) 0 [] rfl (by exact HO.out) _ m (l.flatMap spC) rfl (by exact Src.ofSlice _ Tryz.underlying49 ad m c _ hfl.out Hn.out h1.out) (by simp only [maxLen]; omega) (by omega) ?_); intro v1 r1 w1 ho1 ht1 hr1; have HR1 := Lib.hid (And.intro ho1 (And.intro ht1 hr1)); clear ho1 ht1 hr1)
    go_ret
    obtain ⟨ho1, ht1, hr1⟩ := HR1.out
    obtain ⟨A', c', hv, k1, k2, k3, k4⟩ := ho1.spR (l := l) (by simp) (by simp [HM.out])
    rw [Nat.zero_add, ← HM.out] at k4 hv k1
    refine ⟨A', c', by rw [← hv]; rfl, k1, k2, k3, k4.mono (fun q hq => ?_), ((Touch.refl _ w).alloc _).trans ht1 (fun q hq e => ?_)⟩
    · rcases hr1 with e | ⟨q', e, hq'⟩
      · rw [e] at hq; injection hq with hq; omega
      · rw [e] at hq; injection hq with hq; simp at hq'; omega
    · injection e with e; omega
/-- An almanac. -/
structure AlAt (w : World) (g : Nat) (cl : List Sp) (B : Option Addr) (m : Nat) (F : Nat → Prop) : Prop where
  blk : Blk w g 207 #[.slice B cl.length m]
  row : SpR w F B cl.length cl
theorem AlAt.touch {w w' : World} {g : Nat} {cl : List Sp} {B : Option Addr} {m : Nat} {F S : Nat → Prop} (h : AlAt w g cl B m F) (ht : Touch S w w') (hg : ¬ S g) (hd : ∀ k, F k → ¬ S k) : AlAt w' g cl B m F := ⟨ht.blk h.blk hg, h.row.touch ht hd⟩
theorem all_any (g : Nat) (cl : List Sp) (B : Option Addr) (m : Nat) (F : Nat → Prop) (w : World) (h : AlAt w g cl B m F) :
    Calls Tryz.prog 123 #[.pointer (some ⟨g, 0, none⟩)] w fun e w' => e = .returned (.slice B cl.length m) ∧ w = w' := by
  have q := h.blk.cell 0
  simp at q
  clear h
  go_enter Tryz.func123, Tryz.ntmps123
  go_wp2
  go_ret
  exact ⟨rfl, rfl⟩
theorem alrow_any (g : Nat) (cl : List Sp) (B : Option Addr) (m : Nat) (F : Nat → Prop) (w : World) (h : AlAt w g cl B m F) (hn : cl.length ≤ 1000000) :
    Calls Tryz.prog 99 #[.pointer (some ⟨g, 0, none⟩)] w (NewSpan w cl) := by
  have HA := Lib.hid (all_any g cl B m F w h)
  have HC := Lib.hid (sclone_any F B m cl w h.row hn)
  clear h
  go_enter Tryz.func99, Tryz.ntmps99
  go_wp2_with (first
    | (go_at_call 123; go_must (refine HA.out.mono ?_); rintro e w0 ⟨rfl, rfl⟩)
    | (go_at_call 83; go_must (refine HC.out.mono ?_); rintro e w1 ⟨A1, c1, rfl, h1, h2, h3, h4, h5⟩; have HQ := Lib.hid (And.intro h1 (And.intro h2 (And.intro h3 (And.intro h4 h5)))); clear h1 h2 h3 h4 h5))
  go_ret
  obtain ⟨h1, h2, h3, h4, h5⟩ := HQ.out
  exact ⟨A1, c1, rfl, h1, h2, h3, h4, h5⟩
def NewAl (w : World) (l : List Sp) (e : Ending) (w' : World) : Prop :=
  ∃ g B m, e = .returned (.tuple #[.pointer (some ⟨g, 0, none⟩), .int .i64 0]) ∧ AlAt w' g l B m (fun k => w.heap.size ≤ k ∧ k ≠ g) ∧ w.heap.size ≤ g ∧ Touch (fun _ => False) w w'
theorem alnew_yes (F : Nat → Prop) (A : Option Addr) (c : Nat) (l : List Sp) (w : World) (h : SpR w F A l.length l) (hr : rowE l = 0) :
    Calls Tryz.prog 85 #[.slice A l.length c] w (NewAl w l) := by
  have hlen := (rowE_row hr).2
  have HF := Lib.hid (row_any F A c l w h (by omega))
  rw [hr] at HF
  have HC := Lib.hid (fun w1 h => sclone_any F A c l w1 h (by omega))
  have HR := Lib.hid h
  clear h hr
  go_enter Tryz.func85, Tryz.ntmps85
  go_wp2_with (first
    | (go_at_call 111; go_must (refine HF.out.mono ?_); rintro e w0 ⟨rfl, t0⟩; have HT0 := Lib.hid t0; clear t0)
    | (go_at_call 83; go_must (refine (HC.out _ (by exact HR.out.touch HT0.out (fun _ _ e => e))).mono ?_); rintro e w1 ⟨A1, c1, rfl, -, -, -, h4, h5⟩; have HQ := Lib.hid (And.intro h4 h5); clear h4 h5))
  go_ret2
  obtain ⟨h4, h5⟩ := HQ.out
  have s0 := HT0.out.size
  have s1 := h5.size
  have hal := (Touch.refl (fun _ => False) w1).alloc (.cells #[.slice A1 l.length c1] 207)
  exact ⟨w1.heap.size, A1, c1, rfl, ⟨Blk.new _ _ _, (h4.near.touch hal (fun _ _ e => e)).mono (fun k hk => ⟨by have := hk.1; omega, by have := hk.2; omega⟩)⟩, by omega, (HT0.out.trans h5 (fun _ _ e => e)).trans hal (fun _ _ e => e)⟩
theorem alnew_no (F : Nat → Prop) (A : Option Addr) (c : Nat) (l : List Sp) (w : World) (h : SpR w F A l.length l) (hr : rowE l ≠ 0) (hn : l.length ≤ 1000000) :
    Calls Tryz.prog 85 #[.slice A l.length c] w fun e w' => e = .returned (.tuple #[.pointer none, .int .i64 (rowE l)]) ∧ Touch (fun _ => False) w w' := by
  have HF := Lib.hid (row_any F A c l w h hn)
  have hb : (rowE l != 0) = true := by simpa using hr
  generalize rowE l = v at *
  clear h hr
  go_enter Tryz.func85, Tryz.ntmps85
  go_wp2_with (go_at_call 111; go_must (refine HF.out.mono ?_); rintro e w0 ⟨rfl, t0⟩; have HT0 := Lib.hid t0; clear t0)
  go_ret2
  exact ⟨rfl, HT0.out⟩
end Go.Proofs.YtlcefchbfjfifaaGreat
end

section
namespace Go.Proofs.YtlcefchbfjfifaaGreat
open Go.RowKit Cal
set_option maxHeartbeats 4000000
set_option maxRecDepth 100000
set_option linter.unusedVariables false
attribute [local irreducible] wpPlan

theorem wnone_any (g : Nat) (wk : List Sp) (A : Option Addr) (k b : Nat) (F : Nat → Prop) (w : World) (h : PlAt w g wk A k b F) :
    Calls Tryz.prog 102 #[.pointer (some ⟨g, 0, none⟩)] w fun e w' => e = .returned (.bool false) ∧ w = w' := by
  have q := h.blk.cell 1
  simp at q
  clear h
  go_enter Tryz.func102, Tryz.ntmps102
  go_wp2
  go_ret
  exact ⟨rfl, rfl⟩
def sgn (b : Bool) : Int := if b then -1 else 1
theorem at_fn (f t x : Int) (w : World) : Calls Tryz.prog 130 #[.agg #[.int .i64 f, .int .i64 t], .int .i64 x] w fun e w' => e = .returned (.int .i64 (sgn (decide (t ≤ x)))) ∧ Touch (fun _ => False) w w' := by
  have HT := Lib.hid ((Touch.refl (fun _ => False) w).alloc (.cells #[.int .i64 f, .int .i64 t] 92))
  by_cases h : t ≤ x
  · go_enter Tryz.func130, Tryz.ntmps130
    go_wp2
    go_ret
    exact ⟨ret_int (by rw [decide_eq_true h]; rfl), HT.out⟩
  · go_enter Tryz.func130, Tryz.ntmps130
    go_wp2
    go_ret
    exact ⟨ret_int (by rw [decide_eq_false (by omega)]; rfl), HT.out⟩
def BsP (l : List Sp) (x : Int) (w : World) (e : Ending) (w' : World) : Prop := ∃ i : Nat, AtP l x i ∧ e = .returned (.tuple #[.int .i64 i, .bool false]) ∧ Touch (fun _ => False) w w'
theorem bsf_any (F : Nat → Prop) (A : Option Addr) (c : Nat) (l : List Sp) (x : Int) (w : World) (hr : SpR w F A l.length l) (hrow : Row 0 l) (hn : l.length ≤ 1000000) :
    Calls Tryz.prog 129 #[.slice A l.length c, .int .i64 x, .func (.func 130) #[] #[]] w (BsP l x w) := by
  have HR := Lib.hid hr
  have HS := Lib.hid (fun (i j : Nat) (s s' : Sp) (h1 : l[i]? = some s) (h2 : l[j]? = some s') (h3 : i < j) => Row.sorted hrow h1 h2 h3)
  have HE := Lib.hid (fun (i : Nat) (s : Sp) (h1 : l[i]? = some s) => Row.getE hrow h1)
  clear hr hrow
  go_enter Tryz.func129, Tryz.ntmps129
  go_wp2_with fail
  go_loopw [9, 10] (fun lo hi wr => ∃ i j : Nat, lo = .int .i64 i ∧ hi = .int .i64 j ∧ i ≤ j ∧ j ≤ l.length ∧ (∀ q s, l[q]? = some s → q < i → s.t ≤ x) ∧ (∀ q s, l[q]? = some s → j ≤ q → ¬ s.t ≤ x) ∧ Touch (fun _ => False) w wr) (fun lo hi _ => (intOf hi - intOf lo).toNat)
  case atStart => exact ⟨0, l.length, rfl, rfl, by omega, by omega, (fun q s h1 h2 => by omega), (fun q s h1 h2 => by have := (List.getElem?_eq_some_iff.1 h1).1; omega), Touch.refl _ _⟩
  case round =>
    obtain ⟨i, j, rfl, rfl, hij, hj, h1, h2, hT⟩ := hrel
    have H1 := Lib.hid h1
    have H2 := Lib.hid h2
    have HT := Lib.hid hT
    clear h1 h2 hT
    by_cases hlt : i < j
    · have hml : (i + j) / 2 < l.length := by omega
      have ha : l[(i + j) / 2]? = some (l[(i + j) / 2]'hml) := List.getElem?_eq_getElem _
      obtain ⟨g, off, rfl, hg, -, hc0, hc1⟩ := (HR.out.touch HT.out (fun _ _ e => e)).at_ ha
      have HA := Lib.hid ha
      generalize l[(i + j) / 2]'hml = s at *
      obtain ⟨f, t⟩ := s
      simp only at hc0 hc1
      clear ha
      by_cases htx : t ≤ x
      · go_wp2_with (go_at_call 130; go_must (refine (at_fn f t x _).mono ?_); rintro e w1 ⟨rfl, t1⟩; rw [show sgn (decide (t ≤ x)) = -1 by rw [decide_eq_true htx]; rfl]; have HT1 := Lib.hid (HT.out.trans t1 (fun _ _ e => e)); clear t1)
        go_roundw
        case rel =>
          refine ⟨(i + j) / 2 + 1, j, by rw [show ((i : Int) + (j : Int)) / 2 + 1 = (((i + j) / 2 + 1 : Nat) : Int) by omega], rfl, by omega, hj, fun q s hq hqi => ?_, ?_, HT1.out⟩
          · rcases Nat.lt_or_ge q ((i + j) / 2) with hlt' | hge
            · have := HS.out q _ s _ hq HA.out hlt'
              have := HE.out _ _ HA.out
              simp only at *
              omega
            · have : q = (i + j) / 2 := by omega
              subst this
              have := HA.out
              rw [hq] at this
              injection this with this
              subst this
              exact htx
          · intro q s hq hqj
            have := H2.out q s hq hqj
            omega
        case measure => simp [intOf]; omega
      · go_wp2_with (go_at_call 130; go_must (refine (at_fn f t x _).mono ?_); rintro e w1 ⟨rfl, t1⟩; rw [show sgn (decide (t ≤ x)) = 1 by rw [decide_eq_false (by omega)]; rfl]; have HT1 := Lib.hid (HT.out.trans t1 (fun _ _ e => e)); clear t1)
        go_roundw
        case rel =>
          refine ⟨i, (i + j) / 2, rfl, by rw [show ((i : Int) + (j : Int)) / 2 = (((i + j) / 2 : Nat) : Int) by omega], by omega, by omega, H1.out, fun q s hq hqj => ?_, HT1.out⟩
          rcases Nat.lt_or_ge ((i + j) / 2) q with hlt' | hge
          · have := HS.out _ q _ s HA.out hq hlt'
            have := HE.out _ _ hq
            simp only at *
            omega
          · have : q = (i + j) / 2 := by omega
            subst this
            have := HA.out
            rw [hq] at this
            injection this with this
            subst this
            simp only
            omega
        case measure => simp [intOf]; omega
    · obtain rfl : j = i := by omega
      have HP := Lib.hid (show AtP l x j from ⟨hj, fun q s hq => ⟨H1.out q s hq, fun h => by
        rcases Nat.lt_or_ge q j with h' | h'
        · exact h'
        · have := H2.out q s hq h'; omega⟩⟩)
      by_cases hjl : j < l.length
      · have ha : l[j]? = some (l[j]'hjl) := List.getElem?_eq_getElem _
        obtain ⟨g, off, rfl, hg, -, hc0, hc1⟩ := (HR.out.touch HT.out (fun _ _ e => e)).at_ ha
        have hv := HP.out.2 j _ ha
        generalize l[j]'hjl = s at *
        obtain ⟨f, t⟩ := s
        simp only at hc0 hc1 hv
        have htx : ¬ t ≤ x := fun h => by have := hv.2 h; omega
        clear ha hv
        go_wp2_with (go_at_call 130; go_must (refine (at_fn f t x _).mono ?_); rintro e w1 ⟨rfl, t1⟩; rw [show sgn (decide (t ≤ x)) = 1 by rw [decide_eq_false (by omega)]; rfl]; have HT1 := Lib.hid (HT.out.trans t1 (fun _ _ e => e)); clear t1)
        go_ret2
        exact ⟨j, HP.out, rfl, HT1.out⟩
      · obtain rfl : j = l.length := by omega
        go_wp2
        go_ret2
        exact ⟨l.length, HP.out, rfl, HT.out⟩
theorem at_any (g : Nat) (wk : List Sp) (A : Option Addr) (k b : Nat) (F : Nat → Prop) (x : Int) (w : World) (h : PlAt w g wk A k b F) (hw : Week wk) :
    Calls Tryz.prog 108 #[.pointer (some ⟨g, 0, none⟩), .int .i64 x] w fun e w' => ∃ i : Nat, AtP wk x i ∧ e = .returned (.int .i64 i) ∧ Touch (fun _ => False) w w' := by
  have q := h.blk.cell 0
  simp at q
  have HB := Lib.hid (bsf_any F A k wk x w h.row hw.1 (by have := hw.2.1; omega))
  clear h hw
  go_enter Tryz.func108, Tryz.ntmps108
  go_wp2_with (go_at_call 129; go_must (refine HB.out.mono ?_); rintro e w1 ⟨i, hi, rfl, t1⟩; have HI := Lib.hid hi; have HT1 := Lib.hid t1; clear hi t1)
  go_ret
  exact ⟨i, HI.out, rfl, HT1.out⟩
end Go.Proofs.YtlcefchbfjfifaaGreat
end

section
namespace Go.Proofs.YtlcefchbfjfifaaGreat
open Go.RowKit Cal
set_option maxHeartbeats 4000000
set_option maxRecDepth 100000
set_option linter.unusedVariables false
attribute [local irreducible] wpPlan

theorem SpR.at_or {w : World} {F : Nat → Prop} {A : Option Addr} {n : Nat} {l : List Sp} (h : SpR w F A n l) (i : Nat) :
    (∃ g off f t, A = some ⟨g, off, none⟩ ∧ l[i]? = some ⟨f, t⟩ ∧ i < n ∧ w.cell? ⟨g, off + i * 2, none⟩ = some (.int .i64 f) ∧ w.cell? ⟨g, off + i * 2 + 1, none⟩ = some (.int .i64 t)) ∨ (¬ i < n ∧ l[i]? = none) := by
  by_cases hl : i < l.length
  · obtain ⟨g, off, e, -, -, h0, h1⟩ := h.at_ (List.getElem?_eq_getElem hl)
    exact .inl ⟨g, off, l[i].f, l[i].t, e, List.getElem?_eq_getElem hl, by rw [← h.1]; exact hl, h0, h1⟩
  · exact .inr ⟨by rw [← h.1]; exact hl, List.getElem?_eq_none (by omega)⟩
theorem wrow_any (g : Nat) (wk : List Sp) (A : Option Addr) (k b : Nat) (F : Nat → Prop) (w : World) (h : PlAt w g wk A k b F) (hw : Week wk) :
    Calls Tryz.prog 98 #[.pointer (some ⟨g, 0, none⟩)] w (NewSpan w wk) := by
  have HN := Lib.hid (wnone_any g wk A k b F w h)
  have HC := Lib.hid (sclone_any F A k wk w h.row (by have := hw.2.1; omega))
  have q := h.blk.cell 0
  simp at q
  clear h hw
  go_enter Tryz.func98, Tryz.ntmps98
  go_wp2_with (first
    | (go_at_call 102; go_must (refine HN.out.mono ?_); rintro e w0 ⟨rfl, rfl⟩)
    | (go_at_call 83; go_must (refine HC.out.mono ?_); rintro e w1 ⟨A1, c1, rfl, h1, h2, h3, h4, h5⟩; have HQ := Lib.hid (And.intro h1 (And.intro h2 (And.intro h3 (And.intro h4 h5)))); clear h1 h2 h3 h4 h5))
  go_ret
  obtain ⟨h1, h2, h3, h4, h5⟩ := HQ.out
  exact ⟨A1, c1, rfl, h1, h2, h3, h4, h5⟩
theorem Rd.sum {w : World} {F : Nat → Prop} {A : Option Addr} {n : Nat} {wk : List Sp} (h : Rd w F A n ((sumsN wk wk.length).map V64)) {i : Nat} (hi : i ≤ wk.length) :
    ∃ g off, A = some ⟨g, off, none⟩ ∧ g < w.heap.size ∧ w.cell? ⟨g, off + i, none⟩ = some (.int .i64 (longS (wk.take i))) := by
  have hn : n = wk.length + 1 := by have := h.1; rw [List.length_map, sumsN_len] at this; omega
  obtain ⟨g, off, e, hg, -, hc⟩ := h.2 (by omega)
  refine ⟨g, off, e, hg, hc i _ ?_⟩
  rw [List.getElem?_map, sumsN_get wk wk.length i hi]; rfl
/-- What a call that may fill the lazy cell leaves. -/
def PnInt (g : Nat) (wk : List Sp) (b : Nat) (G : Nat → Prop) (v : Int) (w : World) (e : Ending) (w' : World) : Prop :=
  e = .returned (.int .i64 v) ∧ PnAt w' g wk b (More G w w') ∧ Touch (fun q => q = b) w w'
theorem total_any (g : Nat) (wk : List Sp) (b : Nat) (G : Nat → Prop) (w : World) (h : PnAt w g wk b G) :
    Calls Tryz.prog 73 #[.pointer (some ⟨g, 0, none⟩)] w (PnInt g wk b G (len wk) w) := by
  obtain ⟨A, k, hp⟩ := h.pl
  have HN := Lib.hid (wnone_any g wk A k b G w hp)
  have q0 := hp.blk.cell 0; have q1 := hp.blk.cell 1
  simp at q0 q1
  have hgl := hp.blk.lt
  have hgb : g ≠ b := fun e => h.nb (e ▸ h.gG)
  have HG := Lib.hid (fun w1 (hh : PnAt w1 g wk b G) => get_any g wk b G w1 hh)
  have HH := Lib.hid h
  have HL := Lib.hid (len_sums h.wk)
  clear h hp
  go_enter Tryz.func73, Tryz.ntmps73
  go_wp2_with (go_at_call 102; go_must (refine HN.out.mono ?_); rintro e w0 ⟨rfl, rfl⟩)
  refine wp_region_plan [(0, 0), (0, 1), (0, 2), (0, 3), (1, 5), (1, 6), (1, 7), (1, 8), (1, 9), (2, 4), (0, 10), (0, 11), (0, 12)] (fun q => q = b) (by kernel_rfl) (by kernel_rfl) (fun c a d v w h => by cases d <;> exact h) ?_
  iterate 4
    refine plan_s1 rfl (by rfl) (fun Kc hKc => ?_)
    go_simp
    first
      | (refine hKc _ ?_)
    clear hKc Kc
  iterate 5
    first
      | (apply plan_h
         · rfl
         · rfl
         · intro wh hT
           have hf0 := (hT.cell (p := ⟨g, 0, none⟩) hgl hgb).trans q0
           go_simp
           try rfl
         go_frame)
      | (refine plan_hn rfl (by rfl) ?_; go_frame)
  refine plan_a1 rfl (by rfl) (fun Kc hKc => ?_)
  go_simp
  refine (HG.out _ (by exact HH.out.touch ((Touch.refl (fun _ => False) _).drew) (fun e => e) (fun _ _ e => e))).mono ?_
  rintro e w1 ⟨A1, c1, rfl, r1, p1, t1⟩
  refine hKc _ _ ⟨t1, ?_⟩
  clear hKc Kc
  obtain ⟨g1, o1, rfl, -, hx⟩ := r1.sum (i := wk.length) (by omega)
  rw [HL.out] at hx
  have HP1 := Lib.hid p1
  have HT1 := Lib.hid t1
  clear r1 p1 t1
  have hlt : (wk.length : Int) < (wk.length : Int) + 1 := by omega
  have hl0 : (0 : Int) ≤ (wk.length : Int) := by omega
  iterate 3
    refine plan_s1 rfl (by rfl) (fun Kc hKc => ?_)
    go_simp
    first
      | (refine hKc _ ?_)
    clear hKc Kc
  refine plan_done ?_
  clear hlt
  go_wp2
  go_ret
  exact ⟨rfl, HP1.out, (Touch.refl _ w).drew.trans HT1.out (fun _ _ e => e)⟩
end Go.Proofs.YtlcefchbfjfifaaGreat
end
