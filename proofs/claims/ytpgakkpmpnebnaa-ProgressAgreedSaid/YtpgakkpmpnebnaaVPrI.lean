/- law31.Light, law31.lives. -/
import Derived.Test.YtpgakkpmpnebnaaVPrP
import Derived.Test.YtpgakkpmpnebnaaVArgsP
namespace Go.Proofs.Ytpgakkpmpnebnaa
open Go.RowKit Go.Maps Prg
set_option maxHeartbeats 4000000
set_option maxRecDepth 100000
set_option linter.unusedVariables false

theorem pop_len (o : POpV) : o.cells.length = 4 := rfl
def lightO31 (o : POpV) : Bool := decide (o.list.length ≤ 40)
def lightB31 (l : List POpV) : Bool := l.all lightO31 && decide (l.length ≤ 200)
theorem light31_any (F : Nat → Prop) (A : Option Addr) (c : Nat) (l : List POpV) (w : World) (hr : RdZ w F 4 A l.length (l.flatMap POpV.cells)) (hsm : l.length ≤ 9223372036854775807) :
    Calls Try.prog 11 #[.slice A l.length c] w fun e w' => e = .returned (.bool (lightB31 l)) ∧ Touch (fun _ => False) w w' := by
  have HR := Lib.hid hr
  obtain ⟨v, hv⟩ : ∃ v, v = lightB31 l := ⟨_, rfl⟩
  rw [← hv]
  have HV := Lib.hid hv
  clear hr hv
  go_enter Try.func11, Try.ntmps11
  go_wp2_with fail
  go_loopw [7] (fun i wr => ∃ j : Nat, j ≤ l.length ∧ i = .int .i64 j ∧ (l.take j).all lightO31 = true ∧ Touch (fun _ => False) w wr) (fun i _ => l.length - (intOf i).toNat)
  case atStart => exact ⟨0, by omega, rfl, by simp, Touch.refl _ _⟩
  case round =>
    obtain ⟨j, hj, rfl, hA, hT⟩ := hrel
    have HA := Lib.hid hA
    have HT := Lib.hid hT
    clear hA
    by_cases hjk : j < l.length
    · have ha : l[j]? = some (l[j]'hjk) := List.getElem?_eq_getElem _
      obtain ⟨a, off, rfl, -, -, hc⟩ := (HR.out.touch hT (fun _ _ e => e)).at_ (fun a _ => pop_len a) rfl ha
      have HX := Lib.hid (show (l.take (j + 1)).all lightO31 = ((l.take j).all lightO31 && lightO31 (l[j]'hjk)) by
        rw [List.take_succ_eq_append_getElem hjk, List.all_append]; simp)
      have HXm := Lib.hid (List.getElem_mem hjk)
      generalize l[j]'hjk = o at *
      have q0 := hc 0 _ rfl; have q1 := hc 1 _ rfl; have q2 := hc 2 _ rfl; have q3 := hc 3 _ rfl; skip
      simp only [Nat.add_zero, ← Nat.add_assoc] at q0 q1 q2 q3
      clear hc ha hT
      have HTA := Lib.hid ((Touch.refl (fun _ => False) wr).alloc (.cells o.cells.toArray 31))
      have hlo : lightO31 o = decide (o.list.length ≤ 40) := rfl
      by_cases hle : o.list.length ≤ 40
      · have hle' : ¬ (40 : Int) < o.list.length := by omega
        rw [decide_eq_true hle] at hlo
        have HE := Lib.hid (show (l.take (j + 1)).all lightO31 = true by rw [HX.out, HA.out, hlo]; rfl)
        clear hlo hle
        go_wp2_with fail
        go_roundw
        case rel => exact ⟨j + 1, by omega, by go_num, HE.out, HT.out.trans HTA.out (fun _ _ e => e)⟩
        case measure => simp [intOf]; omega
      · have hle' : (40 : Int) < o.list.length := by omega
        rw [decide_eq_false hle] at hlo
        have HE := Lib.hid (show v = false by
          rw [HV.out, lightB31, Bool.and_eq_false_iff]; left
          rw [List.all_eq_false]
          exact ⟨o, HXm.out, by rw [hlo]; simp⟩)
        clear hlo hle
        go_wp2_with fail
        go_ret
        exact ⟨by rw [HE.out]; rfl, HT.out.trans HTA.out (fun _ _ e => e)⟩
    · obtain rfl : j = l.length := by omega
      have HE := Lib.hid (show v = decide (l.length ≤ 200) by
        have := HA.out
        rw [List.take_length] at this
        rw [HV.out, lightB31, this, Bool.true_and])
      go_wp2
      go_ret
      refine ⟨ret_bool ?_, hT⟩
      rw [HE.out]
      simp; omega
def lt0 : Tb := setT noneT [1, 2] 5
def lt1 : Tb := tookT lt0 1 4
def lt2 : Tb := tookT lt1 2 7
theorem lv31 : tookR lt0 1 4 = true ∧ tookR lt1 2 7 = true ∧ agreedV lt1 Ln.m [0, 1, 2] 0 9 = 4 ∧ agreedV lt2 Ln.m [0, 1, 2] 0 9 = 7 := by decide +kernel
theorem Rd.lit4 (w : World) (T : TypeId) (xs : List Value) (n : Nat) (hn : xs.length = n) : Rd (w.alloc (.cells xs.toArray T)) (fun k => k = w.heap.size) (some ⟨w.heap.size, 0, none⟩) n xs :=
  ⟨hn, fun _ => ⟨w.heap.size, 0, rfl, by simp, rfl, fun j u hu => by
    rw [Nat.zero_add, (Blk.new w T xs.toArray).cell j]; simpa using hu⟩⟩
theorem lives31_any (w : World) : Calls Try.prog 13 #[] w fun e w' => e = .returned (.bool true) ∧ Touch (fun _ => False) w w' := by
  have HT0 := Lib.hid ((Touch.refl (fun _ => False) w).alloc (.cells #[I64 1, I64 2] 3))
  have HV := Lib.hid lv31
  have HNew := Lib.hid (pnewT_yes _ _ 2 [1, 2] 5 (by omega) _ (Rd.lit4 w 3 [I64 1, I64 2] 2 rfl) (by simp))
  have M0 := Lib.hid trivial
  go_enter Try.func13, Try.ntmps13
  go_wp2_with (first
    | (go_at_call 14
       go_must (refine HNew.out.mono ?_)
       rintro e w1 ⟨g, b, F, rfl, hp, hF, hg, t1⟩
       have HP := Lib.hid (show PgAt w1 g b lt0 F from hp)
       have hz0 := HT0.out.size
       have HF := Lib.hid (show ∀ k, F k → w.heap.size ≤ k from fun k hk => by have := hF k hk; omega)
       have HT := Lib.hid (HT0.out.trans t1 (fun _ _ e => e))
       clear hp hF t1 hz0)
    | (go_at_call 25
       have M9 := HP3
       go_must (refine (ptook_any g b lt1 F 2 7 _ (by exact HP3.out) (by constructor <;> omega) (by omega)).mono ?_)
       rintro e w4 ⟨rfl, hp, t4⟩
       have HP4 := Lib.hid (show PgAt w4 g b lt2 F from hp)
       have HT4 := Lib.hid (HT3.out.trans t4 (fun q hq e => by have := HF.out q e; omega))
       clear hp t4)
    | (go_at_call 25
       go_must (refine (ptook_any g b lt0 F 1 4 _ (by exact HP.out) (by constructor <;> omega) (by omega)).mono ?_)
       rintro e w2 ⟨rfl, hp, t2⟩
       have HP2 := Lib.hid (show PgAt w2 g b lt1 F from hp)
       have HT2 := Lib.hid (HT.out.trans t2 (fun q hq e => by have := HF.out q e; omega))
       have HTl := Lib.hid ((Touch.refl (fun _ => False) w2).alloc (.cells #[I64 0, I64 1, I64 2] 3))
       clear hp t2)
    | (go_at_call 16
       have M9 := HP4
       go_must (refine (pagreed_any _ _ 3 [0, 1, 2] _ lt2 HP4.out.ok 0 (by constructor <;> omega) 9 (by omega) _ (by exact Rd.lit4 w4 3 [I64 0, I64 1, I64 2] 3 rfl) (by simp) (by exact (HP4.out.none_ ((Touch.refl (fun _ => False) w4).alloc _)).lineC)).mono ?_)
       rintro e w5 ⟨rfl, t5⟩
       have HT5 := Lib.hid ((HT4.out.trans ((Touch.refl (fun _ => False) w4).alloc (.cells #[I64 0, I64 1, I64 2] 3)) (fun _ _ e => e)).trans t5 (fun _ _ e => e))
       clear t5)
    | (go_at_call 16
       go_must (refine (pagreed_any _ _ 3 [0, 1, 2] _ lt1 HP2.out.ok 0 (by constructor <;> omega) 9 (by omega) _ (by exact Rd.lit4 w2 3 [I64 0, I64 1, I64 2] 3 rfl) (by simp) (by exact (HP2.out.none_ HTl.out).lineC)).mono ?_)
       rintro e w3 ⟨rfl, t3⟩
       have HP3 := Lib.hid ((HP2.out.none_ HTl.out).none_ t3)
       have HT3 := Lib.hid ((HT2.out.trans HTl.out (fun _ _ e => e)).trans t3 (fun _ _ e => e))
       clear t3))
  go_ret
  exact ⟨by rw [HV.out.2.2.2]; rfl, HT5.out⟩
end Go.Proofs.Ytpgakkpmpnebnaa
