/- law32.lives; the walk of PollNobody. -/
import Derived.Test.YtbleeejhejkkcaaPolD
namespace Go.Proofs.Ytbleeejhejkkcaa
open Go.RowKit
set_option maxHeartbeats 4000000
set_option maxRecDepth 100000
set_option linter.unusedVariables false

def f0 : Int → Option Int := fun _ => none
def f1 : Int → Option Int := noteF [0, 1, 2] f0 0 false
def f2 : Int → Option Int := noteF [0, 1, 2] f1 2 false
theorem lv_vals : noteB [0, 1, 2] f0 0 = true ∧ noteB [0, 1, 2] f1 2 = true ∧ stateV [0, 1, 2] f0 = 1 ∧ stateV [0, 1, 2] f2 = 3 ∧ Row.soundB [0, 1, 2] = true := by decide +kernel
theorem noteF_node {L : List Int} {f : Int → Option Int} {k : Int} {ok : Bool} (hf : FNode f) (hL : ∀ x ∈ L, 0 ≤ x ∧ x < 7) : FNode (noteF L f k ok) := by
  intro i v h
  unfold noteF at h
  split at h
  · rename_i hb
    simp only [setI] at h
    split at h
    · rename_i e
      subst e
      rw [noteB, Bool.and_eq_true] at hb
      exact hL _ (by simpa using hb.1)
    · exact hf i v h
  · exact hf i v h
theorem f0_node : FNode f0 := fun k v h => by cases h
theorem f1_node : FNode f1 := noteF_node f0_node (by decide)
theorem f2_node : FNode f2 := noteF_node f1_node (by decide)
theorem lives32_any (w : World) : Calls Try.prog 10 #[] w fun e w' => e = .returned (.bool true) ∧ Touch (fun _ => False) w w' := by
  have HRa := Lib.hid (Rd.lit w 3 [I64 0, I64 1, I64 2] 3 rfl)
  have HT0 := Lib.hid ((Touch.refl (fun _ => False) w).alloc (.cells #[I64 0, I64 1, I64 2] 3))
  have HV := Lib.hid lv_vals
  have M0 := Lib.hid trivial
  go_enter Try.func10, Try.ntmps10
  go_wp2_with (first
    | (go_at_call 11
       go_must (refine (pnew_yes (fun k => k = w.heap.size) _ 3 [0, 1, 2] _ (by exact HRa.out) (by simp) HV.out.2.2.2.2).mono ?_)
       rintro e w1 ⟨g, b, F, rfl, hp, hg, hb, hF, t1⟩
       have HP := Lib.hid (show PlAt w1 g [0, 1, 2] b 0 f0 F from hp)
       have HT := Lib.hid (HT0.out.trans t1 (fun _ _ e => e))
       have hgw : w.heap.size + 1 ≤ g := by simpa using hg
       have hbw : w.heap.size + 1 ≤ b := by simpa using hb
       have HF := Lib.hid hF
       clear hp hg hb hF t1)
    | (go_at_call 15
       have M9 := M2
       go_must (refine (state_any g [0, 1, 2] b 4 f2 F _ (by exact HP2.out) f2_node HV.out.2.2.2.2).mono ?_)
       rintro e w5 ⟨rfl, t5⟩
       rw [HV.out.2.2.2.1]
       have HT := Lib.hid (HT.out.trans t5 (fun _ _ e => e))
       clear t5)
    | (go_at_call 14
       have M9 := M1
       go_must (refine (pnote_any g [0, 1, 2] b 2 f1 F 2 false _ (by exact HP1.out) (by constructor <;> decide) (by omega) (by simp)).mono ?_)
       rintro e w4 ⟨rfl, h4, t4, -⟩
       rw [HV.out.2.1]
       have HP2 := Lib.hid (show PlAt w4 g [0, 1, 2] b 4 f2 F from h4)
       have HT := Lib.hid (HT.out.trans (S := fun _ => False) t4 (fun k hk e => by omega))
       have M2 := Lib.hid trivial
       clear h4 t4)
    | (go_at_call 14
       have M9 := MS
       go_must (refine (pnote_any g [0, 1, 2] b 0 f0 F 0 false _ (by exact HP.out) (by constructor <;> decide) (by omega) (by simp)).mono ?_)
       rintro e w3 ⟨rfl, h3, t3, -⟩
       rw [HV.out.1]
       have HP1 := Lib.hid (show PlAt w3 g [0, 1, 2] b 2 f1 F from h3)
       have HT := Lib.hid (HT.out.trans (S := fun _ => False) t3 (fun k hk e => by omega))
       have M1 := Lib.hid trivial
       clear h3 t3)
    | (go_at_call 15
       go_must (refine (state_any g [0, 1, 2] b 0 f0 F _ (by exact HP.out) f0_node HV.out.2.2.2.2).mono ?_)
       rintro e w2 ⟨rfl, t2⟩
       rw [HV.out.2.2.1]
       have HP := Lib.hid (HP.out.touch t2 (fun e => e) (fun e => e) (fun _ _ e => e))
       have HT := Lib.hid (HT.out.trans t2 (fun _ _ e => e))
       have MS := Lib.hid trivial
       clear t2))
  go_ret
  exact ⟨rfl, HT.out⟩
end Go.Proofs.Ytbleeejhejkkcaa
