/- The references of chapter 7: Within, Len, Has, Same. -/
import Derived.Test.YtcblbjhhlnmkjaaCalB
namespace Go.Proofs.Ytcblbjhhlnmkjaa
open Go.RowKit Cal
set_option maxHeartbeats 4000000
set_option maxRecDepth 100000
set_option linter.unusedVariables false
attribute [local irreducible] wpPlan

theorem longS_bd : ∀ (l : List Sp), (∀ s ∈ l, 0 ≤ s.f ∧ s.f < s.t ∧ s.t ≤ 1125899906842624) → 0 ≤ longS l ∧ longS l ≤ l.length * 1125899906842624
  | [], _ => by simp [longS]
  | s :: l, h => by
    have h1 := longS_bd l (fun x hx => h x (by simp [hx]))
    have h2 := h s (by simp)
    rw [longS, List.length_cons]; omega
theorem cutL_bd : ∀ (l : List Sp) (a b : Int), (∀ s ∈ l, 0 ≤ s.f ∧ s.f < s.t ∧ s.t ≤ 1125899906842624) → ∀ s ∈ cutL l a b, 0 ≤ s.f ∧ s.f < s.t ∧ s.t ≤ 1125899906842624
  | [], _, _, _, s, hs => absurd hs (by simp [cutL])
  | x :: l, a, b, h, s, hs => by
    have h2 := h x (by simp)
    rw [cutL] at hs
    split at hs
    · rename_i hc
      rcases List.mem_cons.1 hs with rfl | hs
      · simp only [piece] at hc ⊢; omega
      · exact cutL_bd l a b (fun y hy => h y (by simp [hy])) s hs
    · exact cutL_bd l a b (fun y hy => h y (by simp [hy])) s hs
theorem row_bd {l : List Sp} (h : rowE l = 0) : ∀ s ∈ l, 0 ≤ s.f ∧ s.f < s.t ∧ s.t ≤ 1125899906842624 := fun s hs => Row.mem (rowE_row h).1 s hs
theorem fwithin_any (F : Nat → Prop) (A : Option Addr) (c : Nat) (l : List Sp) (a b : Int) (w : World) (hr : SpR w F A l.length l) (hrow : rowE l = 0) :
    Calls Try.prog 146 #[.slice A l.length c, .int .i64 a, .int .i64 b] w fun e w' => e = .returned (.int .i64 (within l a b)) ∧ Touch (fun _ => False) w w' := by
  have hlen := (rowE_row hrow).2
  have HF := Lib.hid (fcut_any F A c l a b w hr hrow)
  have HBd := Lib.hid (cutL_bd l a b (row_bd hrow))
  have hLl : (cutL l a b).length ≤ 32 := Nat.le_trans (cutL_len _ _ _) hlen
  have HV := Lib.hid (show within l a b = longS (cutL l a b) from rfl)
  generalize within l a b = v at *
  generalize cutL l a b = L at *
  clear hr hrow hlen
  go_enter Try.func146, Try.ntmps146
  go_wp2_with (go_at_call 139; go_must (refine HF.out.mono ?_); rintro e w0 ⟨A0, c0, rfl, -, -, -, hs, t0⟩; have HS := Lib.hid hs; have HT0 := Lib.hid t0; clear t0 hs)
  clear HF
  go_loopw [8, 9] (fun n i wr => ∃ j : Nat, j ≤ L.length ∧ i = .int .i64 j ∧ n = .int .i64 (longS (L.take j)) ∧ Touch (fun _ => False) w0 wr) (fun _ i _ => L.length - (intOf i).toNat)
  case atStart => exact ⟨0, by omega, rfl, rfl, Touch.refl _ _⟩
  case round =>
    obtain ⟨j, hj, rfl, rfl, hT⟩ := hrel
    have HT := Lib.hid hT
    clear hT
    have hb := longS_bd (L.take j) (fun s hs => HBd.out s (List.mem_of_mem_take hs))
    have hbl : (L.take j).length ≤ 32 := by simp; omega
    by_cases hjk : j < L.length
    · have ha : L[j]? = some (L[j]'hjk) := List.getElem?_eq_getElem _
      have hbs := HBd.out _ (List.getElem_mem hjk)
      obtain ⟨g, off, rfl, hg, -, hc0, hc1⟩ := (HS.out.touch HT.out (fun _ _ e => e)).at_ ha
      have HN := Lib.hid (longS_take L j _ ha)
      generalize longS (L.take j) = n at *
      generalize L[j]'hjk = s at *
      obtain ⟨f, t⟩ := s
      simp only at hc0 hc1 hbs
      have hn2 : n ≤ 36028797018963968 := by omega
      have hn1 : 0 ≤ n := hb.1
      clear ha hb
      have hjn : (0 : Int) ≤ j := by omega
      have hw1 : IntKind.i64.wrap (n + t) = n + t := IntWalk.i64_in _ (by omega)
      have hw2 : IntKind.i64.wrap (n + t - f) = n + t - f := IntWalk.i64_in _ (by omega)
      go_wp2_with fail
      refine wp_region_plan [(0, 0), (0, 1), (0, 2), (0, 3), (0, 4), (0, 5), (0, 6), (0, 7), (0, 8), (0, 9), (0, 10), (0, 11), (0, 12), (0, 13)] (fun _ => False) (by kernel_rfl) (by kernel_rfl) (fun c a d v w h => by cases d <;> exact h) ?_
      iterate 14
        refine plan_s1 rfl (by rfl) (fun Kc hKc => ?_)
        go_simp
        first
          | (refine hKc _ ?_)
        clear hKc Kc
      refine plan_done ?_
      clear hw1 hw2
      go_wp2
      go_roundw
      case rel => exact ⟨j + 1, by omega, by go_num, by rw [HN.out], HT.out.drew⟩
      case measure => simp [intOf]; omega
    · obtain rfl : j = L.length := by omega
      rw [List.take_length] at *
      go_wp2
      go_ret
      exact ⟨ret_int HV.out.symm, HT0.out.trans HT.out (fun _ _ e => e)⟩
theorem flen_any (F : Nat → Prop) (A : Option Addr) (c : Nat) (l : List Sp) (w : World) (hr : SpR w F A l.length l) (hrow : rowE l = 0) :
    Calls Try.prog 134 #[.slice A l.length c] w fun e w' => e = .returned (.int .i64 (len l)) ∧ Touch (fun _ => False) w w' := by
  have HF := Lib.hid (fwithin_any F A c l 0 1125899906842624 w hr hrow)
  have HV := Lib.hid (show len l = within l 0 1125899906842624 from rfl)
  generalize len l = v at *
  generalize within l 0 1125899906842624 = u at *
  clear hr hrow
  go_enter Try.func134, Try.ntmps134
  go_wp2_with (go_at_call 146; go_must (refine HF.out.mono ?_); rintro e w0 ⟨rfl, t0⟩; have HT0 := Lib.hid t0; clear t0)
  go_ret
  exact ⟨ret_int HV.out.symm, HT0.out⟩
theorem has_take (l : List Sp) (j : Nat) (s : Sp) (hs : l[j]? = some s) (x : Int) : hasB (l.take (j + 1)) x = (hasB (l.take j) x || (decide (s.f ≤ x) && decide (x < s.t))) := by
  have key : ∀ (a b : List Sp), hasB (a ++ b) x = (hasB a x || hasB b x) := fun a b => by
    induction a with
    | nil => simp [hasB]
    | cons y a ih => rw [List.cons_append, hasB, hasB, ih, Bool.or_assoc]
  obtain ⟨h1, h2⟩ := List.getElem?_eq_some_iff.1 hs
  rw [List.take_succ_eq_append_getElem h1, h2, key]
  simp [hasB]
theorem has_of_take (l : List Sp) (j : Nat) (x : Int) (h : hasB (l.take j) x = true) : hasB l x = true := by
  have key : ∀ (a b : List Sp), hasB (a ++ b) x = (hasB a x || hasB b x) := fun a b => by
    induction a with
    | nil => simp [hasB]
    | cons y a ih => rw [List.cons_append, hasB, hasB, ih, Bool.or_assoc]
  rw [← List.take_append_drop j l, key, h]; rfl
/-- Are two rows the same? -/
def sameL : List Sp → List Sp → Bool
  | [], [] => true
  | s :: l, u :: l' => decide (s.f = u.f) && decide (s.t = u.t) && sameL l l'
  | _, _ => false
theorem sameL_len : ∀ (a b : List Sp), sameL a b = true → a.length = b.length
  | [], [], _ => rfl
  | s :: l, u :: l', h => by
    simp only [sameL, Bool.and_eq_true] at h
    simp [sameL_len l l' h.2]
  | [], _ :: _, h => by simp [sameL] at h
  | _ :: _, [], h => by simp [sameL] at h
theorem sameL_self : ∀ (a : List Sp), sameL a a = true
  | [] => rfl
  | s :: l => by simp [sameL, sameL_self l]
theorem sameL_eq : ∀ (a b : List Sp), sameL a b = true → a = b
  | [], [], _ => rfl
  | ⟨f, t⟩ :: l, ⟨f', t'⟩ :: l', h => by
    simp only [sameL, Bool.and_eq_true, decide_eq_true_eq] at h
    obtain ⟨⟨rfl, rfl⟩, h⟩ := h
    rw [sameL_eq l l' h]
  | [], _ :: _, h => by simp [sameL] at h
  | _ :: _, [], h => by simp [sameL] at h
theorem sameL_drop (a b : List Sp) (j : Nat) (s u : Sp) (hs : a[j]? = some s) (hu : b[j]? = some u) : sameL (a.drop j) (b.drop j) = (decide (s.f = u.f) && decide (s.t = u.t) && sameL (a.drop (j + 1)) (b.drop (j + 1))) := by
  obtain ⟨h1, h2⟩ := List.getElem?_eq_some_iff.1 hs
  obtain ⟨h3, h4⟩ := List.getElem?_eq_some_iff.1 hu
  rw [List.drop_eq_getElem_cons h1, h2, List.drop_eq_getElem_cons h3, h4, sameL]
theorem fsame_any (F F' : Nat → Prop) (A A' : Option Addr) (c c' : Nat) (a b : List Sp) (w : World) (hr : SpR w F A a.length a) (hr' : SpR w F' A' b.length b) (hsm : a.length ≤ 1000000) :
    Calls Try.prog 105 #[.slice A a.length c, .slice A' b.length c'] w fun e w' => e = .returned (.bool (sameL a b)) ∧ Touch (fun _ => False) w w' := by
  have Hr := Lib.hid hr
  have Hr' := Lib.hid hr'
  clear hr hr'
  by_cases hlen : a.length = b.length
  · rw [← hlen] at Hr' ⊢
    have HL := Lib.hid hlen
    clear hlen
    go_enter Try.func105, Try.ntmps105
    go_wp2_with fail
    go_loopw [5] (fun i wr => ∃ j : Nat, j ≤ a.length ∧ i = .int .i64 j ∧ sameL (a.drop j) (b.drop j) = sameL a b ∧ Touch (fun _ => False) w wr) (fun i _ => a.length - (intOf i).toNat)
    case atStart => exact ⟨0, by omega, rfl, rfl, Touch.refl _ _⟩
    case round =>
      obtain ⟨j, hj, rfl, hno, hT⟩ := hrel
      have HN := Lib.hid hno
      have HT := Lib.hid hT
      clear hno hT
      by_cases hjk : j < a.length
      · have ha : a[j]? = some (a[j]'hjk) := List.getElem?_eq_getElem _
        have hb : b[j]? = some (b[j]'(by have := HL.out; omega)) := List.getElem?_eq_getElem _
        obtain ⟨g, off, rfl, hg, -, hc0, hc1⟩ := (Hr.out.touch HT.out (fun _ _ e => e)).at_ ha
        obtain ⟨g', off', rfl, hg', -, hd0, hd1⟩ := (Hr'.out.touch HT.out (fun _ _ e => e)).at_ hb
        have HE := Lib.hid (sameL_drop a b j _ _ ha hb)
        generalize a[j]'hjk = s at *
        generalize b[j]'_ = u at *
        obtain ⟨f, t⟩ := s
        obtain ⟨f', t'⟩ := u
        simp only at hc0 hc1 hd0 hd1
        clear ha hb
        by_cases h1 : f = f' ∧ t = t'
        · obtain ⟨rfl, rfl⟩ := h1
          have HV := Lib.hid (show sameL (a.drop (j + 1)) (b.drop (j + 1)) = sameL a b by rw [← HN.out, HE.out]; simp)
          go_wp2_with fail
          refine wp_region_plan [(0, 0), (0, 1), (0, 2), (0, 3), (0, 4), (0, 5), (0, 6), (0, 7), (0, 8)] (fun _ => False) (by kernel_rfl) (by kernel_rfl) (fun c a d v w h => by cases d <;> exact h) ?_
          iterate 9
            refine plan_s1 rfl (by rfl) (fun Kc hKc => ?_)
            go_simp
            first
              | (refine hKc _ ?_)
            clear hKc Kc
          refine plan_done ?_
          go_wp2
          go_roundw
          case rel => exact ⟨j + 1, by omega, by go_num, HV.out, HT.out.drew⟩
          case measure => simp [intOf]; omega
        · have HV := Lib.hid (show sameL a b = false by rw [← HN.out, HE.out]; simp; intro h2 h3; exact absurd ⟨h2, h3⟩ h1)
          by_cases hf : f = f'
          · subst hf
            have ht : ¬ t = t' := fun e => h1 ⟨rfl, e⟩
            clear h1
            go_wp2_with fail
            refine wp_region_plan [(0, 0), (0, 1), (0, 2), (0, 3), (0, 4), (0, 5), (0, 6), (0, 7), (0, 8)] (fun _ => False) (by kernel_rfl) (by kernel_rfl) (fun c a d v w h => by cases d <;> exact h) ?_
            iterate 9
              refine plan_s1 rfl (by rfl) (fun Kc hKc => ?_)
              go_simp
              first
                | (refine hKc _ ?_)
              clear hKc Kc
            refine plan_done ?_
            go_wp2
            go_ret
            exact ⟨ret_bool HV.out.symm, HT.out.drew⟩
          · clear h1
            go_wp2_with fail
            refine wp_region_plan [(0, 0), (0, 1), (0, 2), (0, 3), (0, 4), (0, 5), (0, 6), (0, 7), (0, 8)] (fun _ => False) (by kernel_rfl) (by kernel_rfl) (fun c a d v w h => by cases d <;> exact h) ?_
            iterate 9
              refine plan_s1 rfl (by rfl) (fun Kc hKc => ?_)
              go_simp
              first
                | (refine hKc _ ?_)
              clear hKc Kc
            refine plan_done ?_
            go_wp2
            go_ret
            exact ⟨ret_bool HV.out.symm, HT.out.drew⟩
      · obtain rfl : j = a.length := by omega
        have HV := Lib.hid (show sameL a b = true by rw [← HN.out, List.drop_length, HL.out, List.drop_length]; rfl)
        go_wp2
        go_ret
        exact ⟨ret_bool HV.out.symm, HT.out⟩
  · have HV := Lib.hid (show sameL a b = false by cases h : sameL a b; rfl; exact absurd (sameL_len a b h) hlen)
    go_enter Try.func105, Try.ntmps105
    have hd : ((a.length : Int) != (b.length : Int)) = true := by simp; omega
    go_wp2
    go_ret
    exact ⟨ret_bool HV.out.symm, Touch.refl _ _⟩
end Go.Proofs.Ytcblbjhhlnmkjaa
