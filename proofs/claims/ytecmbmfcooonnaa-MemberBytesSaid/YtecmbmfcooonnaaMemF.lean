/- A row's bytes; law29.lives. -/
import Derived.Test.YtecmbmfcooonnaaMemE
import Derived.Test.YtecmbmfcooonnaaQuillLaw
import Derived.Test.YtecmbmfcooonnaaQuillZ
import Derived.Test.YtecmbmfcooonnaaQuillG
namespace Go.Proofs.Ytecmbmfcooonnaa
open Go.RowKit
set_option maxHeartbeats 4000000
set_option maxRecDepth 100000
set_option linter.unusedVariables false

theorem Rd.litA (w : World) (g : Nat) (hg : w.heap.size = g) (t : TypeId) (cs : List Value) (n : Nat) (hn : cs.length = n) : Rd (w.alloc (.cells cs.toArray t)) (fun k => k = g) (some ⟨g, 0, none⟩) n cs := by
  subst hg; exact Rd.lit w t cs n hn

def bytesL (l : List Int) : List UInt8 := if Row.soundB l = true then encN 0 (Row.setN l) else []
def bytesE (l : List Int) : Int := if Row.soundB l = true then 0 else 2

theorem mbytes_any (F : Nat → Prop) (A : Option Addr) (c : Nat) (l : List Int) (w : World) (hr : Rd w F A l.length (l.map I64)) (hsm : l.length ≤ 1000000) :
    Calls Try.prog 35 #[.slice A l.length c] w (NewTwo w ((bytesL l).map B8) (.int .i64 (bytesE l))) := by
  have Hr := Lib.hid hr
  have HS := Lib.hid (msound_any F A c l w hr hsm)
  clear hr
  by_cases hb : Row.soundB l = true
  · have HW := Lib.hid (show bytesL l = encN 0 (Row.setN l) ∧ bytesE l = 0 from by simp [bytesL, bytesE, hb])
    rw [hb] at HS
    have hs := Row.setN_lt l
    have HSet := Lib.hid (fun w1 (h : Rd w1 F A l.length (l.map I64)) => mset_any F A c l w1 h hsm)
    generalize Row.setN l = s at *
    have hel := encN_len 0 s
    go_enter Try.func35, Try.ntmps35
    go_wp2_with (first
      | (go_at_call 20; go_must (refine HS.out.mono ?_); rintro e w1 ⟨rfl, t1⟩
         have HT1 := Lib.hid t1; have HR1 := Lib.hid (Hr.out.touch t1 (fun _ _ e => e))
         have HT2 := Lib.hid (t1.alloc (.cells #[.slice none 0 0] 55))
         have HW0 : WAt ((w1.alloc (.cells #[.slice none 0 0] 55)).alloc (.cells #[U64 s] 31)) w1.heap.size none [] :=
           ⟨by simp, _, (Blk.new w1 55 #[.slice none 0 0]).alloc _, Own.nil _ _ _⟩
         have HW0 := Lib.hid HW0
         clear t1)
      | (go_at_call 71; go_must (refine (HSet.out _ (by exact HR1.out.touch ((Touch.refl (fun _ => False) w1).alloc _) (fun _ _ e => e))).mono ?_); rintro e w2 ⟨rfl, rfl⟩)
      | (go_at_call 76
         go_must (refine (wnum_any w1.heap.size none [] (fun k => k = w1.heap.size + 1) _ 1 [s] _ (by exact HW0.out) (by exact Rd.litA _ _ (by simp) 31 [U64 s] 1 rfl) (fun k hk => ⟨by omega, by simp⟩) (by intro n hn; simp at hn; omega) (by simp)).mono ?_)
         rintro e w3 ⟨rfl, r3, hw3, t3, hf3⟩
         have HW3 := Lib.hid (show WAt w3 w1.heap.size r3 (encN 0 s) from by simpa [encs] using hw3)
         have HT3 := Lib.hid ((HT2.out.alloc (.cells #[U64 s] 31)).trans t3 (fun q hq e => by have := HT1.out.size; rcases e with e | e; exact absurd e (by omega); cases e))
         clear hw3 t3 hf3)
      | (go_at_call 47
         go_must (refine (wbytes_any w1.heap.size r3 (encN 0 s) _ (by exact HW3.out) (by omega)).mono ?_)
         rintro e w4 ⟨A4, c4, rfl, q1, q2, hr4, t4⟩
         have HQ := Lib.hid (And.intro q1 (And.intro q2 (And.intro hr4 t4)))
         clear q1 q2 hr4 t4))
    go_ret2
    rw [HW.out.1, HW.out.2]
    obtain ⟨q1, q2, hr4, t4⟩ := HQ.out
    exact NewTwo.of HT3.out (by rw [List.length_map]; rfl) (by simpa using q1) q2 (by simpa using hr4) t4
  · have hb : Row.soundB l = false := by simpa using hb
    have HW := Lib.hid (show bytesL l = [] ∧ bytesE l = 2 from by simp [bytesL, bytesE, hb])
    rw [hb] at HS
    go_enter Try.func35, Try.ntmps35
    go_wp2_with (go_at_call 20; go_must (refine HS.out.mono ?_); rintro e w1 ⟨rfl, t1⟩; have HT1 := Lib.hid t1; clear t1)
    go_ret2
    rw [HW.out.1, HW.out.2]
    exact NewTwo.none HT1.out

theorem lives29_with : withL [0, 2] 1 = [0, 1, 2] ∧ withE [0, 2] 1 = 0 := by decide +kernel
theorem lives29_bytes : bytesL [0, 1, 2] = [1, 7] ∧ bytesE [0, 1, 2] = 0 := by decide +kernel
theorem lives29_quorum : (if Row.soundB [0, 1, 2, 3] = true then ((4 / 2 + 1 : Nat) : Int) else 0) = 3 := by decide +kernel

theorem lives29_any (w : World) : Calls Try.prog 14 #[] w fun e w' => e = .returned (.bool true) ∧ Touch (fun _ => False) w w' := by
  have HRa := Lib.hid (Rd.litA w w.heap.size rfl 3 [I64 0, I64 2] 2 rfl)
  have HTa := Lib.hid ((Touch.refl (fun _ => False) w).alloc (.cells #[I64 0, I64 2] 3))
  go_enter Try.func14, Try.ntmps14
  go_wp2_with (first
    | (go_at_call 15; go_must (refine (mwith_any (fun k => k = w.heap.size) _ 2 [0, 2] 1 _ (by exact HRa.out) (by simp)).mono ?_)
       rintro e w1 ⟨A1, c1, rfl, q1, q2, hr1, t1⟩
       rw [lives29_with.1] at q1 hr1 ⊢
       rw [lives29_with.2]
       simp only [List.length_map, List.length_cons, List.length_nil] at q1 hr1 ⊢
       have HR1 := Lib.hid hr1
       have HT1 := Lib.hid (HTa.out.trans t1 (fun _ _ e => e))
       clear q1 q2 hr1 t1)
    | (go_at_call 35; go_must (refine (mbytes_any _ A1 c1 [0, 1, 2] _ (by exact HR1.out) (by simp)).mono ?_)
       rintro e w2 ⟨A2, c2, rfl, q1, q2, hr2, t2⟩
       rw [lives29_bytes.1] at q1 hr2 ⊢
       rw [lives29_bytes.2]
       simp only [List.length_map, List.length_cons, List.length_nil] at q1 hr2 ⊢
       have HR2 := Lib.hid hr2
       have HRl := Lib.hid (HR1.out.touch t2 (fun _ _ e => e))
       have HT2 := Lib.hid (HT1.out.trans t2 (fun _ _ e => e))
       have HRq := Lib.hid (Rd.litA w2 w2.heap.size rfl 3 [I64 0, I64 1, I64 2, I64 3] 4 rfl)
       have HTq := Lib.hid ((Touch.refl (fun _ => False) w2).alloc (.cells #[I64 0, I64 1, I64 2, I64 3] 3))
       clear q1 q2 hr2 t2)
    | (go_at_call 24; go_must (refine (mquorum_any (fun k => k = w2.heap.size) _ 4 [0, 1, 2, 3] _ (by exact HRq.out) (by simp)).mono ?_)
       rintro e w3 ⟨rfl, t3⟩
       rw [show ([0, 1, 2, 3] : List Int).length = 4 from rfl, lives29_quorum]
       have HT3 := Lib.hid (HTq.out.trans t3 (fun _ _ e => e))
       have HRs := Lib.hid (Rd.litA w3 w3.heap.size rfl 3 [I64 0, I64 1, I64 2] 3 rfl)
       have HTs := Lib.hid ((Touch.refl (fun _ => False) w3).alloc (.cells #[I64 0, I64 1, I64 2] 3))
       clear t3)
    | (go_at_call 19; go_must (refine (rsame_any _ (fun k => k = w3.heap.size) A1 _ c1 3 [0, 1, 2] [0, 1, 2] _ (by exact HRl.out.touch (HT3.out.trans HTs.out (fun _ _ e => e)) (fun _ _ e => e)) (by exact HRs.out) (by simp)).mono ?_)
       rintro e w4 ⟨rfl, t4⟩
       have HT4 := Lib.hid ((HT3.out.trans HTs.out (fun _ _ e => e)).trans t4 (fun _ _ e => e))
       have hs := Rd.str (n := 2) (HR2.out.touch HT4.out (fun _ _ e => e)) c2
       clear t4))
  go_ret
  exact ⟨rfl, HT2.out.trans HT4.out (fun _ _ e => e)⟩
end Go.Proofs.Ytecmbmfcooonnaa
