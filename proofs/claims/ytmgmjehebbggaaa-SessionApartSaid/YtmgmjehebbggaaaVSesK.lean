/- law20.light and law20.lives. Keys of two numbers. -/
import Derived.Test.YtmgmjehebbggaaaVSesC
import Derived.Test.YtmgmjehebbggaaaVArgsO
import Derived.Test.YtmgmjehebbggaaaGMap
import Derived.Test.YtmgmjehebbggaaaProg
import Derived.DeepKeys4
section
namespace Go.Proofs.Ytmgmjehebbggaaa
open Go.RowKit Go.Maps
set_option maxHeartbeats 4000000
set_option maxRecDepth 100000
set_option linter.unusedVariables false

theorem sop_len (o : SOpV) : o.cells.length = 17 := rfl
def lightO (o : SOpV) : Bool := decide (o.a.fired.length ≤ 200)
def lightB (l : List SOpV) : Bool := l.all lightO && decide (l.length ≤ 100)
theorem light20_any (F : Nat → Prop) (A : Option Addr) (c : Nat) (l : List SOpV) (w : World) (hr : RdZ w F 17 A l.length (l.flatMap SOpV.cells)) (hsm : l.length ≤ 9223372036854775807) :
    Calls Try.prog 7 #[.slice A l.length c] w fun e w' => e = .returned (.bool (lightB l)) ∧ Touch (fun _ => False) w w' := by
  have HR := Lib.hid hr
  obtain ⟨v, hv⟩ : ∃ v, v = lightB l := ⟨_, rfl⟩
  rw [← hv]
  have HV := Lib.hid hv
  clear hr hv
  go_enter Try.func7, Try.ntmps7
  go_wp2_with fail
  go_loopw [7] (fun i wr => ∃ j : Nat, j ≤ l.length ∧ i = .int .i64 j ∧ (l.take j).all lightO = true ∧ Touch (fun _ => False) w wr) (fun i _ => l.length - (intOf i).toNat)
  case atStart => exact ⟨0, by omega, rfl, by simp, Touch.refl _ _⟩
  case round =>
    obtain ⟨j, hj, rfl, hA, hT⟩ := hrel
    have HA := Lib.hid hA
    have HT := Lib.hid hT
    clear hA
    by_cases hjk : j < l.length
    · have ha : l[j]? = some (l[j]'hjk) := List.getElem?_eq_getElem _
      obtain ⟨a, off, rfl, -, -, hc⟩ := (HR.out.touch hT (fun _ _ e => e)).at_ (fun a _ => sop_len a) rfl ha
      have HX := Lib.hid (show (l.take (j + 1)).all lightO = ((l.take j).all lightO && lightO (l[j]'hjk)) by
        rw [List.take_succ_eq_append_getElem hjk, List.all_append]; simp)
      have HXm := Lib.hid (List.getElem_mem hjk)
      generalize l[j]'hjk = o at *
      have q0 := hc 0 _ rfl; have q1 := hc 1 _ rfl; have q2 := hc 2 _ rfl; have q3 := hc 3 _ rfl; have q4 := hc 4 _ rfl; have q5 := hc 5 _ rfl; have q6 := hc 6 _ rfl; have q7 := hc 7 _ rfl; have q8 := hc 8 _ rfl; have q9 := hc 9 _ rfl; have q10 := hc 10 _ rfl; have q11 := hc 11 _ rfl; have q12 := hc 12 _ rfl; have q13 := hc 13 _ rfl; have q14 := hc 14 _ rfl; have q15 := hc 15 _ rfl; have q16 := hc 16 _ rfl; skip
      simp only [Nat.add_zero, ← Nat.add_assoc] at q0 q1 q2 q3 q4 q5 q6 q7 q8 q9 q10 q11 q12 q13 q14 q15 q16
      clear hc ha hT
      have HTA := Lib.hid ((Touch.refl (fun _ => False) wr).alloc (.cells o.cells.toArray 37))
      have HL := Lib.hid (fun w1 => light_any o.a o.A o.a.fired.length o.c w1)
      cases hlo : lightO o
      · have hlo' : decide (o.a.fired.length ≤ 200) = false := hlo
        rw [hlo'] at HL
        have HE := Lib.hid (show v = false by
          rw [HV.out, lightB, Bool.and_eq_false_iff]; left
          rw [List.all_eq_false]
          exact ⟨o, HXm.out, by rw [hlo]; simp⟩)
        clear hlo hlo'
        go_wp2_with (go_at_call 25; go_must (refine (HL.out _).mono ?_); rintro e w1 ⟨rfl, t1⟩; have HT1 := Lib.hid ((HT.out.trans HTA.out (fun _ _ e => e)).trans t1 (fun _ _ e => e)); clear t1)
        go_ret
        exact ⟨by rw [HE.out]; rfl, HT1.out⟩
      · have hlo' : decide (o.a.fired.length ≤ 200) = true := hlo
        rw [hlo'] at HL
        have HE := Lib.hid (show (l.take (j + 1)).all lightO = true by rw [HX.out, HA.out, hlo]; rfl)
        clear hlo hlo'
        go_wp2_with (go_at_call 25; go_must (refine (HL.out _).mono ?_); rintro e w1 ⟨rfl, t1⟩; have HT1 := Lib.hid ((HT.out.trans HTA.out (fun _ _ e => e)).trans t1 (fun _ _ e => e)); clear t1)
        go_roundw
        case rel => exact ⟨j + 1, by omega, by go_num, HE.out, HT1.out⟩
        case measure => simp [intOf]; omega
    · obtain rfl : j = l.length := by omega
      have HE := Lib.hid (show v = decide (l.length ≤ 100) by
        have := HA.out
        rw [List.take_length] at this
        rw [HV.out, lightB, this, Bool.true_and])
      go_wp2
      go_ret
      refine ⟨ret_bool ?_, HT.out⟩
      rw [HE.out]
      simp; omega
def a7 : RpV := ⟨0, 7, ⟨0, 0, 0, 0, 0, 0, 0, 0, 0⟩, [], 0, 0⟩
def s0 : SesS := fun _ => none
theorem lv20 : doneE s0 1 5 a7 = 0 ∧ lookK (doneS s0 1 5 a7) 1 4 = 3 ∧ lookK (doneS s0 1 5 a7) 1 6 = 1 ∧ doneS s0 1 5 a7 1 = some (5, a7) ∧ a7.t.ok := by
  refine ⟨by decide +kernel, by decide +kernel, by decide +kernel, ?_, by unfold TkV.ok; decide⟩
  have : doneE s0 1 5 a7 = 0 := by decide +kernel
  rw [doneS, if_pos this]; rfl
theorem lives20_any (w : World) : Calls Try.prog 8 #[] w fun e w' => e = .returned (.bool true) ∧ Touch (fun _ => False) w w' := by
  have HV := Lib.hid lv20
  go_enter Try.func8, Try.ntmps8
  go_wp2_with (first
    | (go_at_call 9
       go_must (refine (sempty_any _).mono ?_)
       rintro e w1 ⟨g, b, rfl, hs, hg, hb, t1⟩
       have HS := Lib.hid (show SesAt w1 g b s0 _ from hs)
       have HT := Lib.hid t1
       have hz1 := t1.size
       clear hs t1)
    | (go_at_call 12
       go_must (refine (sdone_any g b s0 _ _ (by exact HS.out) (by intro k hk; exact ⟨by omega, fun e => by have := HS.out.map.choose_spec.1.lt; omega⟩) 1 5 (by omega) (by omega) a7 none 0 (by exact Rd.nil _ _ _) HV.out.2.2.2.2).mono ?_)
       rintro e w2 ⟨rfl, hs2, t2⟩
       rw [HV.out.1]
       have HS2 := Lib.hid hs2
       have HT2 := Lib.hid (HT.out.trans t2 (fun k hk e => by omega))
       clear hs2 t2)
    | (go_at_call 10
       have M9 := M2
       go_must (refine (slook_no g b _ _ _ (by exact HS4.out.touch ((Touch.refl (fun _ => False) _).alloc _) (fun e => e) (fun e => e) (fun _ _ e => e)) 1 6 (by omega) (by omega) (by rw [HV.out.2.2.1]; decide)).mono ?_)
       rintro e w5 ⟨rfl, t5⟩
       rw [HV.out.2.2.1]
       have HT5 := Lib.hid ((HT4.out.alloc _).trans t5 (fun _ _ e => e))
       have z1 := ((t5.blk (HBr.out.alloc _) (fun e => e)).alloc (.cells #[.int .i64 0, .int .i64 0, .int .u64 0, .int .i64 0, .int .i64 0, .int .i64 0, .int .u64 0, .int .i64 0, .int .i64 0, .int .i64 0, .int .i64 0, .slice none 0 0, .int .u64 0, .int .i64 0] 35)).cell 1
       simp [a7] at z1
       clear t5)
    | (go_at_call 10
       have M9 := M1
       go_must (refine (slook_no g b _ _ _ (by exact HS3.out.touch ((Touch.refl (fun _ => False) _).alloc _) (fun e => e) (fun e => e) (fun _ _ e => e)) 1 4 (by omega) (by omega) (by rw [HV.out.2.1]; decide)).mono ?_)
       rintro e w4 ⟨rfl, t4⟩
       rw [HV.out.2.1]
       have HS4 := Lib.hid ((HS3.out.touch ((Touch.refl (fun _ => False) _).alloc _) (fun e => e) (fun e => e) (fun _ _ e => e)).touch t4 (fun e => e) (fun e => e) (fun _ _ e => e))
       have HT4 := Lib.hid ((HT3.out.alloc _).trans t4 (fun _ _ e => e))
       have M2 := Lib.hid trivial
       have HBr := Lib.hid (t4.blk (Blk.new _ _ _) (fun e => e))
       clear t4)
    | (go_at_call 10
       go_must (refine (slook_yes g b _ _ _ (by exact HS2.out) 1 5 (by omega) (by omega) a7 HV.out.2.2.2.1).mono ?_)
       rintro e w3 ⟨g3, rfl, -, -, t3⟩
       have HS3 := Lib.hid (HS2.out.touch t3 (fun e => e) (fun e => e) (fun _ _ e => e))
       have HT3 := Lib.hid (HT2.out.trans t3 (fun _ _ e => e))
       have M1 := Lib.hid trivial
       clear t3))
  go_ret
  exact ⟨rfl, HT5.out.alloc _⟩
end Go.Proofs.Ytmgmjehebbggaaa
end

section
namespace Go.Proofs.Ytmgmjehebbggaaa
open Go.RowKit Go.Maps
set_option maxHeartbeats 4000000
set_option maxRecDepth 100000
theorem laidOut2 : laidOutB Try.prog = true := by kernel_rfl
theorem row2 : (38 : TypeId) < Try.prog.types.size := of_decide_eq_true (by kernel_rfl)
theorem wide2 : (match Try.prog.underlying 38 with | some (.array _ _) | some (.struct _) => true | _ => false) = true := by kernel_rfl
theorem law2 : Keyed Try.prog 38 := Keyed.of_law (deep_law_laid laidOut2 (m := 2) (by omega) row2 (by kernel_rfl) wide2)
theorem key2 {c q : Nat} (hc : c < 18446744073709551616) (hq : q < 18446744073709551616) : ∃ kl, keyOf Try.prog 38 (.agg #[.int .u64 c, .int .u64 q]) = some kl := by
  have h1 : (Lit.int .u64 (c : Int)).wf = true := by simp [Lit.wf, IntKind.min, IntKind.max, IntKind.signed, IntKind.bits]; omega
  have h2 : (Lit.int .u64 (q : Int)).wf = true := by simp [Lit.wf, IntKind.min, IntKind.max, IntKind.signed, IntKind.bits]; omega
  have z : Try.prog.cellsOf 38 = 2 := by kernel_rfl
  have z1 : Try.prog.cellsOf 29 = 1 := by kernel_rfl
  have kt : Try.prog.keyType 38 = true := by kernel_rfl
  obtain ⟨d, hd⟩ : ∃ d, Try.prog.types.size + 1 = d + 2 := ⟨Try.prog.types.size - 1, by have h : 0 < Try.prog.types.size := Nat.lt_of_le_of_lt (Nat.zero_le _) row2; omega⟩
  have hu := Try.underlying38
  have hu1 := Try.underlying29
  generalize hP : Try.prog = P at *
  have hform : (Value.agg #[.int .u64 (c : Int), .int .u64 (q : Int)]).formed P 38 = true := by
    simp [Value.formed, hu, z]
  have e0 : P.keyLits (d + 1) 29 [.int .u64 (c : Int)] = some [.int .u64 c] := by
    simp only [Program.keyLits, hu1]
    rw [if_pos ⟨trivial, h1⟩]
  have e1 : P.keyLits (d + 1) 29 [.int .u64 (q : Int)] = some [.int .u64 q] := by
    simp only [Program.keyLits, hu1]
    rw [if_pos ⟨trivial, h2⟩]
  have e2 : P.keyLits (d + 2) 38 [.int .u64 (c : Int), .int .u64 (q : Int)] = some [.int .u64 c, .int .u64 q] := by
    rw [Program.keyLits.eq_def]
    simp only [hu]
    simp only [List.length_cons, List.length_nil, z, z1, Nat.zero_add, if_true, Nat.reduceAdd]
    rw [show List.range 2 = [0, 1] from rfl]
    simp [e0, e1]
  refine ⟨.string (keyBytes [.int .u64 c, .int .u64 q]), ?_⟩
  simp only [keyOf, hu, kt, hform, Bool.and_self, if_true]
  rw [hd, show (Value.agg #[Value.int .u64 (c : Int), .int .u64 (q : Int)]).cells.toList = [.int .u64 (c : Int), .int .u64 (q : Int)] from rfl, e2]
  rfl
end Go.Proofs.Ytmgmjehebbggaaa
end
