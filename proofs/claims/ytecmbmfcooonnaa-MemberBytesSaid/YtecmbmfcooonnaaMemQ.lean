/- The walk of MemberBytes. -/
import Derived.Test.YtecmbmfcooonnaaMemP
namespace Go.Proofs.Ytecmbmfcooonnaa
open Go.RowKit
set_option maxHeartbeats 4000000
set_option maxRecDepth 100000
set_option linter.unusedVariables false

theorem Rd.inHeap {w : World} {F : Nat → Prop} {A : Option Addr} {n : Nat} {xs : List Value} (h : Rd w F A n xs) : Rd w (fun k => k < w.heap.size) A n xs :=
  ⟨h.1, fun hn => by obtain ⟨g, off, e, hl, _, hc⟩ := h.2 hn; exact ⟨g, off, e, hl, hl, hc⟩⟩
theorem readL_len (l : List UInt8) : (readL l).length ≤ 7 := by
  unfold readL; split
  · exact Row.ofN_len _
  · simp
theorem read_back {l : List Int} (h : Row.soundB l = true) : readOk (encN 0 (Row.setN l)) = true ∧ readL (encN 0 (Row.setN l)) = l := by
  have hs := Row.setN_lt l
  have hr : rowRd (encN 0 (Row.setN l)) = ⟨Row.setN l, false, [], false⟩ := by
    have := written_read 127 (Row.setN l) false [] (by omega) (by omega)
    rw [List.append_nil] at this
    exact this
  have h0 : Row.setN l ≠ 0 := by
    intro e
    have h2 := Row.sound_eq h
    rw [e] at h2
    rw [h2] at h
    exact absurd h (by decide)
  have hok : readOk (encN 0 (Row.setN l)) = true := by rw [readOk, hr]; simp [h0]
  refine ⟨hok, ?_⟩
  rw [readL, hok, if_pos rfl, hr]
  exact (Row.sound_eq h).symm

theorem walk_MemberBytes {w : World} (A0 : Option Addr) (n0 c0 : Nat) (l0 : List Int) (e0 : l0.length = n0) (o0 : ∀ x ∈ l0, -9223372036854775808 ≤ x ∧ x ≤ 9223372036854775807) (g0 : A0 = none → c0 = 0) (u0 : n0 ≤ c0) (m0 : c0 ≤ maxLen) (s0 : Rd w (fun k => k < w.heap.size) A0 n0 (l0.map I64))
    (A1 : Option Addr) (n1 c1 : Nat) (l1 : List UInt8) (e1 : l1.length = n1) (g1 : A1 = none → c1 = 0) (u1 : n1 ≤ c1) (m1 : c1 ≤ maxLen) (s1 : Rd w (fun k => k < w.heap.size) A1 n1 (l1.map B8)) :
    Calls Try.prog 6 #[.slice A0 n0 c0, .slice A1 n1 c1] w fun e w' => e = .returned (.bool true) ∧ Below w.heap.size w w' := by
  subst e0 e1
  have HT := Lib.hid (Touch.refl (fun _ => False) w)
  have HRa := Lib.hid s0
  have HRb := Lib.hid s1
  clear o0 g0 g1 u0 m0 s0 s1
  by_cases hbig : ¬ l0.length ≤ 100
  · have hd : (decide (l0.length ≤ 100) && decide (0 ≤ 100)) = false := by simp; omega
    clear hbig
    go_enter Try.func6, Try.ntmps6
    go_wp2_with (first
      | (go_at_call 13; go_must (refine (light29_any _ _ _ _ _ _ _).mono ?_); rintro e w1 ⟨rfl, rfl⟩; rw [hd])
      | (go_at_call 14; go_must (refine (lives29_any _).mono ?_); rintro e w1 ⟨rfl, t1⟩; have HT := Lib.hid (HT.out.trans t1 (fun _ _ e => e)); clear t1))
    go_ret
    exact ⟨rfl, HT.out.below⟩
  have hbig : l0.length ≤ 100 := by omega
  have hd : (decide (l0.length ≤ 100) && decide (0 ≤ 100)) = true := by simp [hbig]
  have hsm : l0.length ≤ 1000000 := by omega
  clear hbig
  by_cases hraw : 1000 < l1.length
  · have hraw' : (1000 : Int) < l1.length := by omega
    go_enter Try.func6, Try.ntmps6
    go_wp2_with (first
      | (go_at_call 13; go_must (refine (light29_any _ _ _ _ _ _ _).mono ?_); rintro e w1 ⟨rfl, rfl⟩; rw [hd])
      | (go_at_call 14; go_must (refine (lives29_any _).mono ?_); rintro e w1 ⟨rfl, t1⟩; have HT := Lib.hid (HT.out.trans t1 (fun _ _ e => e)); clear t1))
    go_ret
    exact ⟨rfl, HT.out.below⟩
  have hraw' : ¬ (1000 : Int) < l1.length := by omega
  have HMR := Lib.hid (fun w1 h hF => mread_any (fun k => k < w.heap.size) A1 c1 l1 w1 h hF u1 m1)
  have HRR := Lib.hid (fun w1 h hF => rread_any (fun k => k < w.heap.size) A1 c1 l1 w1 h hF u1 m1)
  have hLl := readL_len l1
  generalize readL l1 = L at *
  generalize readOk l1 = ok at *
  clear hraw u1 m1
  cases hb : Row.soundB l0
  · have HW := Lib.hid (show bytesL l0 = [] ∧ bytesE l0 = 2 from by simp [bytesL, bytesE, hb])
    have HM1 := Lib.hid trivial
    go_enter Try.func6, Try.ntmps6
    go_wp2_with (first
      | (go_at_call 13; go_must (refine (light29_any _ _ _ _ _ _ _).mono ?_); rintro e w1 ⟨rfl, rfl⟩; rw [hd])
      | (go_at_call 35; go_must (refine (mbytes_any _ A0 c0 l0 _ (by exact HRa.out.touch HT.out (fun _ _ e => e)) hsm).mono ?_); rintro e wb ⟨Ab, cb, rfl, q1, q2, hrb, t1⟩; rw [HW.out.1] at q1 hrb ⊢; rw [HW.out.2]; rw [List.length_map] at q1 hrb ⊢; have HQ1 := Lib.hid q1; have HQ2 := Lib.hid q2; have HRx := Lib.hid (Rd.inHeap hrb); have HT := Lib.hid (HT.out.trans t1 (fun _ _ e => e)); have HTb := Lib.hid (Touch.refl (fun _ => False) wb); clear q1 q2 hrb t1)
      | (go_at_call 21; go_must (refine (rsound_any _ A0 c0 l0 _ (by exact HRa.out.touch HT.out (fun _ _ e => e)) hsm).mono ?_); rintro e w1 ⟨rfl, t1⟩; rw [hb]; have HT := Lib.hid (HT.out.trans t1 (fun _ _ e => e)); have HTb := Lib.hid (HTb.out.trans t1 (fun _ _ e => e)); clear t1)
      | (go_at_call 36; have HM2 := HM1; go_must (refine (HMR.out _ (by exact HRb.out.touch HT.out (fun _ _ e => e)) (by have := HT.out.size; exact fun k hk => by omega)).mono ?_); rintro e wm ⟨Am, cm, rfl, q1, q2, hrm, t1⟩; rw [List.length_map] at q1 hrm ⊢; have HRm := Lib.hid hrm; have HT := Lib.hid (HT.out.trans t1 (fun _ _ e => e)); clear q1 q2 hrm t1)
      | (go_at_call 38; go_must (refine (HRR.out _ (by exact HRb.out.touch HT.out (fun _ _ e => e)) (by have := HT.out.size; exact fun k hk => by omega)).mono ?_); rintro e wx ⟨Ax, cx, rfl, q1, q2, hrx, t1⟩; rw [List.length_map] at q1 hrx ⊢; have HRr := Lib.hid hrx; have HRm := Lib.hid (HRm.out.touch t1 (fun _ _ e => e)); have HT := Lib.hid (HT.out.trans t1 (fun _ _ e => e)); clear q1 q2 hrx t1)
      | (go_at_call 19; go_must (refine (rsame_any _ _ Am Ax cm cx L L _ (by exact HRm.out) (by exact HRr.out) (by omega)).mono ?_); rintro e w1 ⟨rfl, t1⟩; have HT := Lib.hid (HT.out.trans t1 (fun _ _ e => e)); clear t1)
      | (go_at_call 14; go_must (refine (lives29_any _).mono ?_); rintro e w1 ⟨rfl, t1⟩; have HT := Lib.hid (HT.out.trans t1 (fun _ _ e => e)); clear t1))
    all_goals (
      go_ret
      exact ⟨ret_bool (by simp), HT.out.below⟩)
  · have HW := Lib.hid (show bytesL l0 = encN 0 (Row.setN l0) ∧ bytesE l0 = 0 from by simp [bytesL, bytesE, hb])
    have HBk := Lib.hid (read_back hb)
    have HBy := Lib.hid (fun w1 h => rbytes_any (fun k => k < w.heap.size) A0 c0 l0 w1 h hsm)
    have hel := encN_len 0 (Row.setN l0)
    generalize encN 0 (Row.setN l0) = eb at *
    go_enter Try.func6, Try.ntmps6
    go_wp2_with (first
      | (go_at_call 13; go_must (refine (light29_any _ _ _ _ _ _ _).mono ?_); rintro e w1 ⟨rfl, rfl⟩; rw [hd])
      | (go_at_call 35; go_must (refine (mbytes_any _ A0 c0 l0 _ (by exact HRa.out.touch HT.out (fun _ _ e => e)) hsm).mono ?_); rintro e wb ⟨Ab, cb, rfl, q1, q2, hrb, t1⟩; rw [HW.out.1] at q1 hrb ⊢; rw [HW.out.2]; rw [List.length_map] at q1 hrb ⊢; have HQ1 := Lib.hid q1; have HQ2 := Lib.hid q2; have HRx := Lib.hid (Rd.inHeap hrb); have HT := Lib.hid (HT.out.trans t1 (fun _ _ e => e)); have HTb := Lib.hid (Touch.refl (fun _ => False) wb); clear q1 q2 hrb t1)
      | (go_at_call 21; go_must (refine (rsound_any _ A0 c0 l0 _ (by exact HRa.out.touch HT.out (fun _ _ e => e)) hsm).mono ?_); rintro e w1 ⟨rfl, t1⟩; rw [hb]; have HT := Lib.hid (HT.out.trans t1 (fun _ _ e => e)); have HTb := Lib.hid (HTb.out.trans t1 (fun _ _ e => e)); clear t1)
      | (go_at_call 36; go_must (refine (mread_any _ Ab cb eb _ (by exact HRx.out.touch HTb.out (fun _ _ e => e)) (by have := HTb.out.size; exact fun k hk => by omega) HQ1.out HQ2.out).mono ?_); rintro e wm ⟨Ae, ce, rfl, q1, q2, hre, t1⟩; rw [HBk.out.1, HBk.out.2]; rw [HBk.out.2] at q1 hre; rw [List.length_map] at q1 hre ⊢; have HRe := Lib.hid hre; have HT := Lib.hid (HT.out.trans t1 (fun _ _ e => e)); have HTb := Lib.hid (HTb.out.trans t1 (fun _ _ e => e)); clear q1 q2 hre t1))
    refine wp_region_plan [(0, 0), (0, 1), (0, 2), (0, 5), (1, 3), (1, 4), (2, 6), (0, 7), (0, 8), (0, 9), (0, 10), (0, 11), (0, 12), (0, 13), (0, 14), (0, 15), (0, 16), (2, 17), (0, 18), (0, 19)] (fun _ => False) (by kernel_rfl) (by kernel_rfl) (fun c a d v w h => by cases d <;> exact h) ?_
    have HTd := Lib.hid HT.out.drew
    have HTbd := Lib.hid HTb.out.drew
    have HM1 := Lib.hid trivial
    iterate 4
      first
        | (refine plan_s1 rfl (by rfl) (fun Kc hKc => ?_)
           go_simp
           first
             | (refine hKc _ ?_)
           clear hKc Kc)
        | (refine plan_s0 rfl (by rfl) ?_; go_frame)
    iterate 2
      first
        | (apply plan_h
           · rfl
           · rfl
           · intro wh hT
             have hf0 := Rd.str ((HRx.out.touch HTbd.out (fun _ _ e => e)).touch hT (fun _ _ e => e)) cb
             go_simp
             try rfl
           go_frame)
        | (refine plan_hn rfl (by rfl) ?_; go_frame)
    refine plan_a1 rfl (by rfl) (fun Kc hKc => ?_)
    go_simp
    refine (HBy.out _ (by exact HRa.out.touch HTd.out (fun _ _ e => e))).mono ?_
    rintro e w5 ⟨A5, c5, rfl, q1, q2, hr5, t5⟩
    refine hKc _ _ ⟨t5, ?_⟩
    clear hKc Kc
    have hs5 := Rd.str (n := eb.length) (by simpa using hr5) c5
    have HT5 := Lib.hid (HTd.out.trans t5 (fun _ _ e => e))
    have HRe := Lib.hid (HRe.out.touch ((Touch.refl (fun _ => False) wm).drew.trans t5 (fun _ _ e => e)) (fun _ _ e => e))
    clear q1 q2 hr5 t5
    iterate 10
      first
        | (refine plan_s1 rfl (by rfl) (fun Kc hKc => ?_)
           go_simp
           first
             | (refine hKc _ ?_)
           clear hKc Kc)
        | (refine plan_s0 rfl (by rfl) ?_; go_frame)
    refine plan_a1 rfl (by rfl) (fun Kc hKc => ?_)
    go_simp
    refine (rsame_any _ _ Ae A0 ce c0 l0 l0 _ (by exact HRe.out) (by exact HRa.out.touch HT5.out (fun _ _ e => e)) hsm).mono ?_
    rintro e w6 ⟨rfl, t6⟩
    refine hKc _ _ ⟨t6, ?_⟩
    clear hKc Kc
    have HT := Lib.hid (HT5.out.trans t6 (fun _ _ e => e))
    clear t6
    iterate 2
      first
        | (refine plan_s1 rfl (by rfl) (fun Kc hKc => ?_)
           go_simp
           first
             | (refine hKc _ ?_)
           clear hKc Kc)
        | (refine plan_s0 rfl (by rfl) ?_; go_frame)
    refine plan_done ?_
    go_wp2_with (first
      | (go_at_call 36; have HM2 := HM1; go_must (refine (HMR.out _ (by exact HRb.out.touch HT.out (fun _ _ e => e)) (by have := HT.out.size; exact fun k hk => by omega)).mono ?_); rintro e wm ⟨Am, cm, rfl, q1, q2, hrm, t1⟩; rw [List.length_map] at q1 hrm ⊢; have HRm := Lib.hid hrm; have HT := Lib.hid (HT.out.trans t1 (fun _ _ e => e)); clear q1 q2 hrm t1)
      | (go_at_call 38; go_must (refine (HRR.out _ (by exact HRb.out.touch HT.out (fun _ _ e => e)) (by have := HT.out.size; exact fun k hk => by omega)).mono ?_); rintro e wx ⟨Ax, cx, rfl, q1, q2, hrx, t1⟩; rw [List.length_map] at q1 hrx ⊢; have HRr := Lib.hid hrx; have HRm := Lib.hid (HRm.out.touch t1 (fun _ _ e => e)); have HT := Lib.hid (HT.out.trans t1 (fun _ _ e => e)); clear q1 q2 hrx t1)
      | (go_at_call 19; go_must (refine (rsame_any _ _ Am Ax cm cx L L _ (by exact HRm.out) (by exact HRr.out) (by omega)).mono ?_); rintro e w1 ⟨rfl, t1⟩; have HT := Lib.hid (HT.out.trans t1 (fun _ _ e => e)); clear t1)
      | (go_at_call 14; go_must (refine (lives29_any _).mono ?_); rintro e w1 ⟨rfl, t1⟩; have HT := Lib.hid (HT.out.trans t1 (fun _ _ e => e)); clear t1))
    all_goals (
      go_ret
      exact ⟨ret_bool (by simp), HT.out.below⟩)
end Go.Proofs.Ytecmbmfcooonnaa
