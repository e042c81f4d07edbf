/- law10: Light, lives. -/
import Derived.Test.YtcblbjhhlnmkjaaGreatCbC
import Derived.Test.YtcblbjhhlnmkjaaGreatCalG
namespace Go.Proofs.YtcblbjhhlnmkjaaGreat
open Go.RowKit Cal
set_option maxHeartbeats 4000000
set_option maxRecDepth 100000
set_option linter.unusedVariables false

theorem light10_any (A B : Option Addr) (k m n n2 : Nat) (o : Int) (w : World) :
    Calls Tryz.prog 13 #[.agg #[.int .i64 o, .slice A n k, .slice B n2 m]] w fun e w' => e = .returned (.bool (decide (n ≤ 60) && decide (n2 ≤ 60))) ∧ Touch (fun _ => False) w w' := by
  have HT := Lib.hid ((Touch.refl (fun _ => False) w).alloc (.cells #[.int .i64 o, .slice A n k, .slice B n2 m] 24))
  have HV := Lib.hid (show decide (n ≤ 60) = decide ((n : Int) ≤ 60) by simp; omega)
  have HV2 := Lib.hid (show decide (n2 ≤ 60) = decide ((n2 : Int) ≤ 60) by simp; omega)
  by_cases h1 : (n : Int) ≤ 60
  · by_cases h2 : (n2 : Int) ≤ 60
    · go_enter Tryz.func13, Tryz.ntmps13
      go_wp2
      go_ret
      exact ⟨by rw [HV.out, HV2.out]; simp [h1, h2], HT.out⟩
    · go_enter Tryz.func13, Tryz.ntmps13
      go_wp2
      go_ret
      exact ⟨by rw [HV.out, HV2.out]; simp [h1, h2], HT.out⟩
  · go_enter Tryz.func13, Tryz.ntmps13
    go_wp2
    go_ret
    exact ⟨by rw [HV.out, HV2.out]; simp; omega, HT.out⟩
def cL : Ca := ⟨0, [⟨10, 20⟩], []⟩
theorem cL_ok : cL.Ok := ⟨by simp [cL], ⟨by simp [cL, Row], by simp [cL], by simp [cL]⟩, by simp [cL, Row], by simp [cL]⟩
theorem cL_due1 : cL.due 0 5 = (15, 0) := by
  refine due_of cL (by decide) (by decide) ⟨by omega, by decide, by decide⟩ (by omega)
theorem cL_due2 : cL.due 15 6 = (604811, 0) := by
  refine due_of cL (by decide) (by decide) (.of_least (by omega) ?_ ?_) (by omega)
  · rw [← cL_ok.count (by omega) (by omega)]; decide
  · rw [← cL_ok.count (by omega) (by omega)]; decide
theorem lives10_any (w : World) : Calls Tryz.prog 14 #[] w fun e w' => e = .returned (.bool true) ∧ Touch (fun _ => False) w w' := by
  have HA := Lib.hid (fun T => (Touch.refl (fun _ => False) w).alloc (.cells #[.int .i64 10, .int .i64 20] T))
  have HN := Lib.hid (fun w1 A (hh : CaR w1 (fun _ => True) cL A none) => (cnew_yes (fun _ => True) A none 1 0 cL w1 hh cL_ok : Calls Tryz.prog 9 #[.agg #[.int .i64 0, .slice A 1 1, .slice none 0 0]] w1 (NewCk w1 cL)))
  have HR := Lib.hid (fun T => (show CaR (w.alloc (.cells #[.int .i64 10, .int .i64 20] T)) (fun _ => True) cL (some ⟨w.heap.size, 0, none⟩) none from by
    have hb := Blk.new w T #[.int .i64 10, .int .i64 20]
    refine ⟨⟨rfl, rfl, fun _ => ⟨w.heap.size, 0, rfl, hb.lt, trivial, fun j u hj => ?_⟩⟩, SpR.nil _ _ _⟩
    rcases j with _ | _ | j
    · have := hb.cell 0; simp at this; cases hj; simp
    · have := hb.cell 1; simp at this; cases hj; simp
    · cases hj))
  have H1 := Lib.hid (fun k a p b G w1 (hh : CkAt w1 k a p b cL G) => (cL_due1 ▸ cdue_any k a p b cL G 0 5 w1 hh (by omega) : Calls Tryz.prog 51 #[.pointer (some ⟨k, 0, none⟩), .int .i64 0, .int .i64 5] w1 (Ck2 k a p b cL G (15, 0) w1)))
  have H2 := Lib.hid (fun k a p b G w1 (hh : CkAt w1 k a p b cL G) => (cL_due2 ▸ cdue_any k a p b cL G 15 6 w1 hh (by omega) : Calls Tryz.prog 51 #[.pointer (some ⟨k, 0, none⟩), .int .i64 15, .int .i64 6] w1 (Ck2 k a p b cL G (604811, 0) w1)))
  go_enter Tryz.func14, Tryz.ntmps14
  go_wp2_with (first
    | (go_at_call 9; go_must (refine (HN.out _ _ (by exact HR.out _)).mono ?_); rintro e w1 ⟨k, a, p, b, rfl, ck, b1, b2, t1⟩; have HC := Lib.hid ck; have HT1 := Lib.hid ((HA.out _).trans t1 (fun _ _ e => e)); clear ck t1)
    | (go_at_call 51; have HM9 := HC2; go_must (refine (H2.out _ _ _ _ _ _ (by exact HC2.out)).mono ?_); rintro e w3 ⟨rfl, ck3, t3⟩; have HT3 := Lib.hid t3; clear ck3 t3)
    | (go_at_call 51; go_must (refine (H1.out _ _ _ _ _ _ (by exact HC.out)).mono ?_); rintro e w2 ⟨rfl, ck2, t2⟩; have HC2 := Lib.hid ck2; have HT2 := Lib.hid t2; clear ck2 t2))
  go_ret
  exact ⟨rfl, (HT1.out.trans (HT2.out.trans HT3.out (fun _ _ e => e)) (fun q hq e => by subst e; simp at b1; omega))⟩
end Go.Proofs.YtcblbjhhlnmkjaaGreat
