/- A poll: Yes, No, State, New. -/
import Derived.Test.YtbleeejhejkkcaaPolB
namespace Go.Proofs.Ytbleeejhejkkcaa
open Go.RowKit
set_option maxHeartbeats 4000000
set_option maxRecDepth 100000
set_option linter.unusedVariables false

theorem yes_any (g : Nat) (L : List Int) (b n : Nat) (f : Int → Option Int) (F : Nat → Prop) (w : World) (h : PlAt w g L b n f F) (hf : FNode f) :
    Calls Try.prog 18 #[.pointer (some ⟨g, 0, none⟩)] w (NewSl w ((whoV f 1).map I64)) := by
  have HW := Lib.hid (who_any g L b n f F 1 w h hf)
  generalize (whoV f 1).map I64 = X at *
  clear h hf
  go_enter Try.func18, Try.ntmps18
  go_wp2_with (go_at_call 47; go_must (refine HW.out.mono ?_); rintro e w1 ⟨A1, c1, rfl, h⟩; have H := Lib.hid h; clear h)
  go_ret
  exact ⟨A1, c1, rfl, H.out⟩
theorem no_any (g : Nat) (L : List Int) (b n : Nat) (f : Int → Option Int) (F : Nat → Prop) (w : World) (h : PlAt w g L b n f F) (hf : FNode f) :
    Calls Try.prog 19 #[.pointer (some ⟨g, 0, none⟩)] w (NewSl w ((whoV f 2).map I64)) := by
  have HW := Lib.hid (who_any g L b n f F 2 w h hf)
  generalize (whoV f 2).map I64 = X at *
  clear h hf
  go_enter Try.func19, Try.ntmps19
  go_wp2_with (go_at_call 47; go_must (refine HW.out.mono ?_); rintro e w1 ⟨A1, c1, rfl, h⟩; have H := Lib.hid h; clear h)
  go_ret
  exact ⟨A1, c1, rfl, H.out⟩
theorem who_len7 (f : Int → Option Int) (x : Int) : (whoV f x).length ≤ 7 := by
  rw [whoV, Row.rowOf, List.length_map]
  exact Nat.le_trans (List.length_filter_le _ _) (by simp)
/-- What a poll is. -/
def stateV (L : List Int) (f : Int → Option Int) : Int := if L.length / 2 + 1 ≤ (whoV f 1).length then 2 else if (L.length : Int) - (whoV f 2).length < (L.length / 2 + 1 : Nat) then 3 else 1
theorem state_any (g : Nat) (L : List Int) (b n : Nat) (f : Int → Option Int) (F : Nat → Prop) (w : World) (h : PlAt w g L b n f F) (hf : FNode f) (hs : Row.soundB L = true) :
    Calls Try.prog 15 #[.pointer (some ⟨g, 0, none⟩)] w fun e w' => e = .returned (.int .i64 (stateV L f)) ∧ Touch (fun _ => False) w w' := by
  have HN := Lib.hid (pnone_any g L b n f F w h)
  have hll := Row.sound_len hs
  have H := Lib.hid h
  have HY := Lib.hid (fun w1 h1 => yes_any g L b n f F w1 h1 hf)
  have HNo := Lib.hid (fun w1 h1 => no_any g L b n f F w1 h1 hf)
  have h1 := who_len7 f 1
  have h2 := who_len7 f 2
  have HV := Lib.hid (show stateV L f = if L.length / 2 + 1 ≤ (whoV f 1).length then 2 else if (L.length : Int) - (whoV f 2).length < (L.length / 2 + 1 : Nat) then 3 else 1 from rfl)
  generalize stateV L f = sv at *
  generalize whoV f 1 = Y at *
  generalize whoV f 2 = Z at *
  obtain ⟨⟨A, c, hb, hr⟩, -, hne, -⟩ := h
  have HQ := Lib.hid (mquorum_any F A c L w hr (by omega))
  rw [hs, if_pos rfl] at HQ
  have HB := Lib.hid hb
  have q0 := hb.cell 0
  simp at q0
  clear hb hr hf hs
  by_cases hy : L.length / 2 + 1 ≤ Y.length
  · rw [if_pos hy] at HV
    have hy' : ((L.length / 2 + 1 : Nat) : Int) ≤ Y.length := by omega
    generalize L.length / 2 + 1 = Q at *
    go_enter Try.func15, Try.ntmps15
    go_wp2_with (first
      | (go_at_call 43; go_must (refine HN.out.mono ?_); rintro e w1 ⟨rfl, rfl⟩)
      | (go_at_call 45; go_must (refine HQ.out.mono ?_); rintro e w1 ⟨rfl, t1⟩; have HT := Lib.hid t1; clear t1)
      | (go_at_call 18; go_must (refine (HY.out _ (by exact H.out.touch HT.out (fun e => e) (fun e => e) (fun _ _ e => e))).mono ?_); rintro e w2 ⟨A2, c2, rfl, -, -, -, t2⟩; have HT := Lib.hid (HT.out.trans t2 (fun _ _ e => e)); clear t2; rw [List.length_map]))
    go_ret
    exact ⟨by rw [HV.out]; rfl, HT.out⟩
  · rw [if_neg hy] at HV
    have hy' : ¬ ((L.length / 2 + 1 : Nat) : Int) ≤ Y.length := by omega
    by_cases hz : (L.length : Int) - Z.length < (L.length / 2 + 1 : Nat)
    all_goals (
      first | rw [if_pos hz] at HV | rw [if_neg hz] at HV
      have HL := Lib.hid (show ((L.length / 2 + 1 : Nat) : Int) ≤ 4 by omega)
      generalize L.length / 2 + 1 = Q at *
      have HB2 := HB
      go_enter Try.func15, Try.ntmps15
      go_wp2_with (first
        | (go_at_call 43; go_must (refine HN.out.mono ?_); rintro e w1 ⟨rfl, rfl⟩)
        | (go_at_call 45; go_must (refine HQ.out.mono ?_); rintro e w1 ⟨rfl, t1⟩; have HT := Lib.hid t1; clear t1)
        | (go_at_call 18; go_must (refine (HY.out _ (by exact H.out.touch HT.out (fun e => e) (fun e => e) (fun _ _ e => e))).mono ?_); rintro e w2 ⟨A2, c2, rfl, -, -, -, t2⟩; have HT := Lib.hid (HT.out.trans t2 (fun _ _ e => e)); clear t2; rw [List.length_map]))
      have HTd := Lib.hid HT.out.drew
      have HBd := Lib.hid (HTd.out.blk HB.out (fun e => e))
      have hwr : IntKind.i64.wrap ((L.length : Int) - Z.length) = (L.length : Int) - Z.length := IntWalk.i64_in _ (by omega)
      refine wp_region_plan [(0, 5), (1, 0), (1, 1), (1, 2), (1, 3), (1, 4), (1, 9), (2, 6), (0, 7), (0, 8), (0, 10), (0, 11)] (fun _ => False) (by kernel_rfl) (by kernel_rfl) (fun c a d v w h => by cases d <;> exact h) ?_
      iterate 1
        first
          | (refine plan_s1 rfl (by rfl) (fun Kc hKc => ?_)
             go_simp
             first
               | (refine hKc _ ?_)
             clear hKc Kc)
          | (refine plan_s0 rfl (by rfl) ?_; go_frame)
      iterate 6
        first
          | (apply plan_h
             · rfl
             · rfl
             · intro wh hT
               have hf0 := (hT.blk HBd.out (fun e => e)).cell 0
               go_simp
               try rfl
             go_frame)
          | (refine plan_hn rfl (by rfl) ?_; go_frame)
      refine plan_a1 rfl (by rfl) (fun Kc hKc => ?_)
      go_simp
      refine (HNo.out _ (by exact H.out.touch HTd.out (fun e => e) (fun e => e) (fun _ _ e => e))).mono ?_
      rintro e w3 ⟨A3, c3, rfl, -, -, -, t3⟩
      rw [List.length_map]
      refine hKc _ _ ⟨t3, ?_⟩
      clear hKc Kc
      have HT := Lib.hid (HTd.out.trans t3 (fun _ _ e => e))
      clear t3
      iterate 4
        first
          | (refine plan_s1 rfl (by rfl) (fun Kc hKc => ?_)
             go_simp
             first
               | (refine hKc _ ?_)
             clear hKc Kc)
          | (refine plan_s0 rfl (by rfl) ?_; go_frame)
      refine plan_done ?_
      go_wp2
      go_ret
      exact ⟨by rw [HV.out]; rfl, HT.out⟩)
end Go.Proofs.Ytbleeejhejkkcaa
