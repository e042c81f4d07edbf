/- The reference of chapter 10: count, Elapsed, Rest, Check, Open, Same. -/
import Derived.Test.YtcblbjhhlnmkjaaCalD
namespace Go.Proofs.Ytcblbjhhlnmkjaa
open Go.RowKit Cal
set_option maxHeartbeats 4000000
set_option maxRecDepth 100000
set_option linter.unusedVariables false
attribute [local irreducible] wpPlan

def instB (t : Int) : Bool := decide (0 ≤ t) && decide (t ≤ 1125899906842624)
theorem finstant_any (t : Int) (w : World) : Calls Try.prog 128 #[.int .i64 t] w fun e w' => e = .returned (.bool (instB t)) ∧ w = w' := by
  go_enter Try.func128, Try.ntmps128
  go_wp2
  all_goals go_ret
  all_goals exact ⟨ret_bool (by unfold instB; simp <;> omega), rfl⟩
theorem lost_pre {c : Ca} (h : c.Ok) (L : List Sp) (hL : ∀ s ∈ L, 0 ≤ s.f ∧ s.f < s.t ∧ s.t ≤ 1125899906842624) (j : Nat) (hj : L.length ≤ 40) : 0 ≤ c.lost (L.take j) ∧ c.lost (L.take j) ≤ 45035996273704960 := by
  have h1 := h.lost_bd (L.take j) (fun s hs => by have := hL s (List.mem_of_mem_take hs); omega)
  have h2 := longS_bd (L.take j) (fun s hs => hL s (List.mem_of_mem_take hs))
  have h3 : (L.take j).length ≤ 40 := by simp; omega
  omega
theorem lost_take (c : Ca) (L : List Sp) (j : Nat) (s : Sp) (hs : L[j]? = some s) : c.lost (L.take (j + 1)) = c.lost (L.take j) + c.weekly s.f s.t := by
  obtain ⟨h1, h2⟩ := List.getElem?_eq_some_iff.1 hs
  rw [List.take_succ_eq_append_getElem h1, h2, Ca.lost_snoc]
theorem fcount_any (F : Nat → Prop) (A B : Option Addr) (k m : Nat) (c : Ca) (a b : Int) (w : World) (hr : CaR w F c A B) (hc : c.Ok) (ha : 0 ≤ a) (hab : a ≤ b) (hb : b ≤ 1125899906842624) :
    Calls Try.prog 129 #[.agg #[.int .i64 c.off, .slice A c.wk.length k, .slice B c.cl.length m], .int .i64 a, .int .i64 b] w fun e w' => e = .returned (.int .i64 (cnt c.op a b)) ∧ Touch (fun _ => False) w w' := by
  have HT := Lib.hid ((Touch.refl (fun _ => False) w).alloc (.cells #[.int .i64 c.off, .slice A c.wk.length k, .slice B c.cl.length m] 25))
  have HB0 := Lib.hid (Blk.new w 25 #[.int .i64 c.off, .slice A c.wk.length k, .slice B c.cl.length m])
  have hrow : rowE c.cl = 0 := by unfold rowE; rw [if_neg (by have := hc.cn; omega), rows_of c.cl 0 (by omega) hc.cl]
  have HCut := Lib.hid (fun w1 hr => fcut_any F B m c.cl a b w1 hr hrow)
  have HW0 := Lib.hid (fun w1 hr => fweekly_any F A B k m c a b w1 hr hc ha (by omega) (by omega) hb)
  have HWs := Lib.hid (fun (s : Sp) (hs : 0 ≤ s.f ∧ s.f < s.t ∧ s.t ≤ 1125899906842624) w1 hr => fweekly_any F A B k m c s.f s.t w1 hr hc hs.1 (by omega) (by omega) hs.2.2)
  have hwb := hc.weekly_bd ha hab
  have hLl : (cutL c.cl a b).length ≤ 32 := Nat.le_trans (cutL_len _ _ _) hc.cn
  have HBd := Lib.hid (cutL_bd c.cl a b (row_bd hrow))
  have HPre := Lib.hid (fun j => lost_pre hc (cutL c.cl a b) (cutL_bd c.cl a b (row_bd hrow)) j (by omega))
  have HTk := Lib.hid (lost_take c (cutL c.cl a b))
  have HWb := Lib.hid (fun (s : Sp) (hs : 0 ≤ s.f ∧ s.f < s.t ∧ s.t ≤ 1125899906842624) => hc.weekly_bd (a := s.f) (b := s.t) hs.1 (by omega))
  have HV := Lib.hid (hc.count ha hab)
  generalize cutL c.cl a b = L at *
  have HR := Lib.hid hr
  have hag : a ≤ 1125899906842624 := by omega
  clear hr hc hrow
  obtain ⟨off, wk, cl⟩ := c
  simp only at *
  generalize cnt _ a b = v at *
  generalize hw0 : Ca.weekly _ a b = x at *
  clear hw0
  go_enter Try.func129, Try.ntmps129
  go_wp2_with (first
    | (go_at_call 138; go_must (refine (HW0.out _ (by exact HR.out.touch HT.out (fun _ _ e => e))).mono ?_); rintro e w0 ⟨rfl, t0⟩; have HT0 := Lib.hid (HT.out.trans t0 (fun _ _ e => e)); have HB1 := Lib.hid (t0.blk HB0.out (fun e => e)); have q2 := HB1.out.cell 2; simp at q2; clear t0)
    | (go_at_call 139; go_must (refine (HCut.out _ (by exact HR.out.cl.touch HT0.out (fun _ _ e => e))).mono ?_); rintro e w1 ⟨A0, c0, rfl, -, -, -, hs, t1⟩; have HS := Lib.hid hs; have HT1 := Lib.hid (HT0.out.trans t1 (fun _ _ e => e)); have HB2 := Lib.hid (t1.blk HB1.out (fun e => e)); clear t1 hs))
  clear HB0 HB1 HT HT0 HW0 HCut
  go_loopw [7, 9] (fun n i wr => ∃ j : Nat, j ≤ L.length ∧ i = .int .i64 j ∧ n = .int .i64 (x - Ca.lost ⟨off, wk, cl⟩ (L.take j)) ∧ Touch (fun _ => False) w1 wr) (fun _ i _ => L.length - (intOf i).toNat)
  case atStart => exact ⟨0, by omega, rfl, by simp [Ca.lost], Touch.refl _ _⟩
  case round =>
    obtain ⟨j, hj, rfl, rfl, hT⟩ := hrel
    have HT := Lib.hid hT
    clear hT
    have hp := HPre.out j
    by_cases hjk : j < L.length
    · have hs : L[j]? = some (L[j]'hjk) := List.getElem?_eq_getElem _
      have hbs := HBd.out _ (List.getElem_mem hjk)
      obtain ⟨g, o, rfl, hg, -, hc0, hc1⟩ := (HS.out.touch HT.out (fun _ _ e => e)).at_ hs
      have HN := Lib.hid (HTk.out j _ hs)
      have hwk := HWb.out _ hbs
      have HW := Lib.hid (HWs.out _ hbs)
      generalize Ca.lost _ (L.take j) = n at *
      generalize L[j]'hjk = s at *
      obtain ⟨f, t⟩ := s
      simp only at hc0 hc1 hbs HW hwk
      generalize Ca.weekly _ f t = y at *
      clear hs
      have hbb := (HT.out.blk HB2.out (fun e => e))
      have q0 := hbb.cell 0; have q1 := hbb.cell 1; have q2' := hbb.cell 2
      simp at q0 q1 q2'
      clear hbb
      have hw1 : IntKind.i64.wrap (x - n - y) = x - n - y := IntWalk.i64_in _ (by omega)
      go_wp2_with fail
      refine wp_region_plan [(0, 1), (0, 2), (0, 3), (0, 4), (0, 5), (0, 6), (0, 7), (0, 8), (0, 9), (0, 10), (0, 11), (1, 0), (2, 12), (0, 13), (0, 14)] (fun _ => False) (by kernel_rfl) (by kernel_rfl) (fun c a d v w h => by cases d <;> exact h) ?_
      iterate 11
        refine plan_s1 rfl (by rfl) (fun Kc hKc => ?_)
        go_simp
        first
          | (refine hKc _ ?_)
        clear hKc Kc
      iterate 1
        first
          | (apply plan_h
             · rfl
             · rfl
             · intro wh hT
               go_simp
               try rfl
             go_frame)
          | (refine plan_hn rfl (by rfl) ?_; go_frame)
      refine plan_a1 rfl (by rfl) (fun Kc hKc => ?_)
      go_simp
      refine (HW.out _ (by exact HR.out.touch (HT1.out.trans HT.out.drew (fun _ _ e => e)) (fun _ _ e => e))).mono ?_
      rintro e w2 ⟨rfl, t2⟩
      refine hKc _ _ ⟨t2, ?_⟩
      clear hKc Kc
      have HT2 := Lib.hid (HT.out.drew.trans t2 (fun _ _ e => e))
      clear t2
      iterate 2
        refine plan_s1 rfl (by rfl) (fun Kc hKc => ?_)
        go_simp
        first
          | (refine hKc _ ?_)
        clear hKc Kc
      refine plan_done ?_
      clear hw1
      go_wp2
      go_roundw
      case rel => exact ⟨j + 1, by omega, by go_num, by rw [HN.out]; congr 1; omega, HT2.out⟩
      case measure => simp [intOf]; omega
    · obtain rfl : j = L.length := by omega
      rw [List.take_length] at *
      go_wp2
      go_ret
      exact ⟨ret_int HV.out, HT1.out.trans HT.out (fun _ _ e => e)⟩
end Go.Proofs.Ytcblbjhhlnmkjaa
