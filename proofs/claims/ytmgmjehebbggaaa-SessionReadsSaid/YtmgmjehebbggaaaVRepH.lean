/- What ref19.Put writes: the same bytes. -/
import Derived.Test.YtmgmjehebbggaaaVRepG
import Derived.Test.YtmgmjehebbggaaaVRepE
namespace Go.Proofs.Ytmgmjehebbggaaa
open Go.RowKit
set_option maxHeartbeats 4000000
set_option maxRecDepth 100000
set_option linter.unusedVariables false

theorem OwnX.name {w0 w : World} {l Q R : List UInt8} {v : Value} (h : OwnX w0 w l v) (hq : Q = l ++ R) (hl : l.length ≤ 150) : ∃ X, OwnX w0 w X v ∧ Q = X ++ R ∧ X.length ≤ 150 := ⟨l, h, hq, hl⟩
theorem encN_pos (m n : Nat) : 0 < (encN m n).length := by simp [encN]
theorem encR_eq (code time : Nat) (t : TkN) (fired : List Nat) (notice dead : Nat) : encR code time t fired notice dead = (encN 0 code ++ encI time ++ encF (!tkNone t.v) ++ encTk t ++ encN 0 fired.length ++ encs fired) ++ encN 0 notice ++ encN 0 dead := by
  simp [encR, encs, encIs, encFs]

theorem fput_any (code time : Nat) (t : TkN) (F : Nat → Prop) (A : Option Addr) (c : Nat) (fired : List Nat) (notice dead : Nat) (w : World)
    (hr : Rd w F A fired.length (fired.map U64)) (ht : t.ok) (hb : t.bd) (h1 : code ≤ 99) (h2 : time ≤ 1125899906842624) (h3 : fired.length ≤ 64) (h4 : ∀ n ∈ fired, n < 256 ^ 8) (h5 : notice < 18446744073709551616) (h6 : dead ≤ 128) :
    Calls Try.prog 36 #[.agg #[.int .i64 code, .int .i64 time, .int .u64 t.id, .int .i64 t.contract, .int .i64 t.state, .int .i64 t.level, .int .u64 t.gen, .int .i64 t.from_, .int .i64 t.left, .int .i64 t.due, .int .i64 t.told, .slice A fired.length c, .int .u64 notice, .int .i64 dead]] w (NewOwn w (encR code time t fired notice dead)) := by
  have HTk := Lib.hid (fun w1 => ftk_any t w1 ht hb)
  have hel := encTk_len t
  have hpos : 0 < (encR code time t fired notice dead).length := by rw [encR_eq, List.length_append]; have := encN_pos 0 dead; omega
  have HQ := Lib.hid (encR_eq code time t fired notice dead)
  generalize encR code time t fired notice dead = Q at *
  obtain ⟨E, hE⟩ : ∃ E, E = encTk t := ⟨_, rfl⟩
  have HE := Lib.hid (show E = bif tkNone t.v then [] else encs t.nums by rw [hE]; rfl)
  rw [← hE] at hel HQ
  clear hE
  obtain ⟨id, con, st, lev, gen, fr, le, du, to_⟩ := t
  generalize (TkN.mk id con st lev gen fr le du to_).nums = N at HTk HE
  have hbin := fun w => eq_tk id con st lev gen fr le du to_ w
  simp only [TkN.v] at HE HQ ⊢
  generalize tkNone ⟨id, con, st, lev, gen, fr, le, du, to_⟩ = no at hbin HE HQ
  have t0 := (Touch.refl (fun _ => False) w).alloc (.cells #[.int .i64 code, .int .i64 time, .int .u64 id, .int .i64 con, .int .i64 st, .int .i64 lev, .int .u64 gen, .int .i64 fr, .int .i64 le, .int .i64 du, .int .i64 to_, .slice A fired.length c, .int .u64 notice, .int .i64 dead] 35)
  have HBk := Lib.hid (Blk.new w 35 #[.int .i64 code, .int .i64 time, .int .u64 id, .int .i64 con, .int .i64 st, .int .i64 lev, .int .u64 gen, .int .i64 fr, .int .i64 le, .int .i64 du, .int .i64 to_, .slice A fired.length c, .int .u64 notice, .int .i64 dead])
  have HRd := Lib.hid (hr.touch t0 (fun _ _ e => e))
  have HT0 := Lib.hid t0
  have HP := Lib.hid (fun j (hj : j < fired.length) => h4 _ (List.getElem_mem hj))
  have hsz : (w.alloc (.cells #[.int .i64 code, .int .i64 time, .int .u64 id, .int .i64 con, .int .i64 st, .int .i64 lev, .int .u64 gen, .int .i64 fr, .int .i64 le, .int .i64 du, .int .i64 to_, .slice A fired.length c, .int .u64 notice, .int .i64 dead] 35)).heap.size = w.heap.size + 1 := by simp
  clear hr h4 t0 ht hb
  have hl1 := encN_len 0 code
  have hl2 := encI_len time
  have hl3 := encF_len (!no)
  have hl4 := encN_len 0 fired.length
  have hl5 := encs_len fired
  have hl6 := encN_len 0 notice
  have hl7 := encN_len 0 dead
  obtain ⟨W1, hW1⟩ : ∃ W1, W1 = (w.alloc (.cells #[.int .i64 code, .int .i64 time, .int .u64 id, .int .i64 con, .int .i64 st, .int .i64 lev, .int .u64 gen, .int .i64 fr, .int .i64 le, .int .i64 du, .int .i64 to_, .slice A fired.length c, .int .u64 notice, .int .i64 dead] 35)) := ⟨_, rfl⟩
  rw [← hW1] at HBk HRd HT0 hsz
  cases no
  all_goals
    simp only [Bool.not_false, Bool.not_true] at hl3 HQ
    have hEe := HE.out
    simp only [cond_true, cond_false] at hEe
    subst hEe
    clear HE
    go_enter Try.func36, Try.ntmps36
    go_wp2_with fail
    rw [← hW1]
    have HWW := Lib.hid hW1
    clear hW1
    have HM0 := Lib.hid (OwnX.start (Touch.refl _ W1).drew)
    refine wp_region_plan [(0, 0), (0, 1), (0, 2), (1, 4), (1, 5), (2, 3), (2, 6), (2, 7), (0, 8)] (fun q => w.heap.size < q) (by kernel_rfl) (by kernel_rfl) (fun c a d v w h => by cases d <;> exact h) ?_
    have q0 := HBk.out.cell 0; have q1 := HBk.out.cell 1
    simp at q0 q1
    iterate 3
      first
        | (refine plan_s1 rfl (by rfl) (fun Kc hKc => ?_)
           go_simp
           first
             | (refine hKc _ ?_)
           clear hKc Kc)
        | (refine plan_s0 rfl (by rfl) ?_; go_frame)
    iterate 2
      first
        | (apply plan_h
           · rfl
           · rfl
           · intro wh hT
             have hf0 := ((show Blk W1.drew w.heap.size 35 _ from HBk.out) |> fun h => (hT.blk h (by simp)).cell 1)
             go_simp
             try rfl
           go_frame)
        | (refine plan_hn rfl (by rfl) ?_; go_frame)
    refine plan_a1 rfl (by rfl) (fun Kc hKc => ?_)
    go_simp
    rw [show IntKind.u64.wrap (code : Int) = code from IntWalk.u64_in _ (by omega)]
    refine (fnum_any _ _ (by omega)).mono ?_
    rintro e w2 h2
    obtain ⟨x, rfl, hx2⟩ := OwnX.of (Touch.refl _ _).drew h2
    have HM := Lib.hid hx2
    have t2 : Touch (fun _ => False) W1.drew w2 := by obtain ⟨_, _, _, t⟩ := hx2; exact ⟨t.os, t.tape, t.output, t.size, t.block⟩
    clear h2 hx2
    refine hKc _ _ ⟨t2.mono (fun _ _ e => e.elim), ?_⟩
    clear hKc Kc
    clear t2
    refine plan_a1 rfl (by rfl) (fun Kc hKc => ?_)
    go_simp
    refine (fint_any _ _ (by omega) (by omega)).mono ?_
    rintro e w3 h3
    have t3 : Touch (fun _ => False) w2 w3 := by obtain ⟨_, _, _, _, _, t⟩ := h3; exact t
    have HM := Lib.hid (HM.out.far t3)
    obtain ⟨x3, rfl, hx3⟩ := OwnX.of (Touch.refl _ _) h3
    have HX := Lib.hid hx3
    clear h3 hx3
    refine hKc _ _ ⟨t3.mono (fun _ _ e => e.elim), ?_⟩
    clear hKc Kc
    clear t3
    refine plan_a1 rfl (by rfl) (fun Kc hKc => ?_)
    refine own_append_op _ _ rfl _ _ _ _ rfl rfl HM.out HX.out (by omega) ?_
    intro v4 w4 h4 t4
    have HM := Lib.hid h4
    refine hKc _ _ ⟨t4.mono (fun q _ e => by omega), ?_⟩
    clear hKc Kc h4 t4
    iterate 1
      first
        | (refine plan_s1 rfl (by rfl) (fun Kc hKc => ?_)
           go_simp
           first
             | (refine hKc _ ?_)
           clear hKc Kc)
        | (refine plan_s0 rfl (by rfl) ?_; go_frame)
    refine plan_done ?_
    have hbx := HM.out.blk HBk.out
    have q2 := hbx.cell 2
    have q3 := hbx.cell 3
    have q4 := hbx.cell 4
    have q5 := hbx.cell 5
    have q6 := hbx.cell 6
    have q7 := hbx.cell 7
    have q8 := hbx.cell 8
    have q9 := hbx.cell 9
    have q10 := hbx.cell 10
    have q11 := hbx.cell 11
    simp at q2 q3 q4 q5 q6 q7 q8 q9 q10 q11
    clear hbx
    go_wp2_with (first
        | (go_at_call 53
           go_must (refine (fflag_any _ _).mono ?_)
           rintro e w2 h2
           have hm2 := HM.out.far h2.touch
           obtain ⟨x, rfl, hx2⟩ := OwnX.of (Touch.refl _ _) h2
           have HM := Lib.hid hm2
           have HX := Lib.hid hx2
           have hbx := hm2.blk HBk.out
           have q2 := hbx.cell 2
           have q3 := hbx.cell 3
           have q4 := hbx.cell 4
           have q5 := hbx.cell 5
           have q6 := hbx.cell 6
           have q7 := hbx.cell 7
           have q8 := hbx.cell 8
           have q9 := hbx.cell 9
           have q10 := hbx.cell 10
           have q11 := hbx.cell 11
           have q12 := hbx.cell 12
           have q13 := hbx.cell 13
           simp at q2 q3 q4 q5 q6 q7 q8 q9 q10 q11 q12 q13
           clear h2 hm2 hx2 hbx)
        | (go_at_call 54
           go_must (refine (HTk.out _).mono ?_)
           rintro e w2 h2
           have hm2 := HM.out.far h2.touch
           obtain ⟨x, rfl, hx2⟩ := OwnX.of (Touch.refl _ _) h2
           have HM := Lib.hid hm2
           have HX := Lib.hid hx2
           have hbx := hm2.blk HBk.out
           have q2 := hbx.cell 2
           have q3 := hbx.cell 3
           have q4 := hbx.cell 4
           have q5 := hbx.cell 5
           have q6 := hbx.cell 6
           have q7 := hbx.cell 7
           have q8 := hbx.cell 8
           have q9 := hbx.cell 9
           have q10 := hbx.cell 10
           have q11 := hbx.cell 11
           have q12 := hbx.cell 12
           have q13 := hbx.cell 13
           simp at q2 q3 q4 q5 q6 q7 q8 q9 q10 q11 q12 q13
           clear h2 hm2 hx2 hbx)
        | (go_at_call 35
           go_must (refine (fnum_any _ _ (by omega)).mono ?_)
           rintro e w2 h2
           have hm2 := HM.out.far h2.touch
           obtain ⟨x, rfl, hx2⟩ := OwnX.of (Touch.refl _ _) h2
           have HM := Lib.hid hm2
           have HX := Lib.hid hx2
           have hbx := hm2.blk HBk.out
           have q2 := hbx.cell 2
           have q3 := hbx.cell 3
           have q4 := hbx.cell 4
           have q5 := hbx.cell 5
           have q6 := hbx.cell 6
           have q7 := hbx.cell 7
           have q8 := hbx.cell 8
           have q9 := hbx.cell 9
           have q10 := hbx.cell 10
           have q11 := hbx.cell 11
           have q12 := hbx.cell 12
           have q13 := hbx.cell 13
           simp at q2 q3 q4 q5 q6 q7 q8 q9 q10 q11 q12 q13
           clear h2 hm2 hx2 hbx)
        | (at_builtin
           go_must (refine own_append_list rfl _ _ rfl _ _ _ _ rfl rfl HM.out HX.out (by simp; omega) ?_)
           intro v3 w3 h3 t3
           have HM := Lib.hid h3
           have hbx := h3.blk HBk.out
           have q2 := hbx.cell 2
           have q3 := hbx.cell 3
           have q4 := hbx.cell 4
           have q5 := hbx.cell 5
           have q6 := hbx.cell 6
           have q7 := hbx.cell 7
           have q8 := hbx.cell 8
           have q9 := hbx.cell 9
           have q10 := hbx.cell 10
           have q11 := hbx.cell 11
           have q12 := hbx.cell 12
           have q13 := hbx.cell 13
           simp at q2 q3 q4 q5 q6 q7 q8 q9 q10 q11 q12 q13
           clear h3 t3 hbx))
    clear q2 q3 q4 q5 q6 q7 q8 q9 q10 q11 q12 q13
    have hlen : (encN 0 code).length + (encI time).length ≤ 18 := by omega
    have HX0 := OwnX.name (Q := Q) (R := encs fired ++ encN 0 notice ++ encN 0 dead) HM.out (HQ.out.trans (by simp)) (by simp; omega)
    obtain ⟨X, hX, hQ, hXl⟩ := HX0
    have HX := Lib.hid hX
    have HQ := Lib.hid hQ
    clear hX hQ hl1 hl2 hl3 hl4 hlen hel
    go_loopw [3, 5] (fun b i wr => ∃ j : Nat, j ≤ fired.length ∧ i = .int .i64 j ∧ OwnX W1 wr (X ++ encs (fired.take j)) b) (fun _ i _ => fired.length - (intOf i).toNat)
    case atStart => exact ⟨0, by omega, rfl, by simpa [encs] using HX.out⟩
    case round =>
      obtain ⟨j, hj, rfl, hM⟩ := hrel
      have HM := Lib.hid hM
      clear hM
      have hbx := HM.out.blk HBk.out
      have q11 := hbx.cell 11
      have q12 := hbx.cell 12
      have q13 := hbx.cell 13
      simp at q11 q12 q13
      clear hbx
      by_cases hjk : j < fired.length
      · obtain ⟨_, _, _, tm⟩ := HM.out
        obtain ⟨a, off, ea, _, _, hc⟩ := (HRd.out.touch tm (fun _ _ e => e)).2 (by omega)
        subst ea
        have hcj := hc j (U64 (fired.getD j 0)) (by simp [List.getD, List.getElem?_eq_getElem hjk])
        simp only [U64] at hcj
        have HE := Lib.hid (encs_take fired j hjk)
        have hnj : fired.getD j 0 < 18446744073709551616 := by rw [List.getD, List.getElem?_eq_getElem hjk]; exact HP.out j hjk
        have hl1 := encs_len (fired.take j)
        have hl3 : (fired.take j).length ≤ 64 := by simp; omega
        have hl2 := encN_len 0 (fired.getD j 0)
        clear hc tm
        generalize fired.getD j 0 = n at *
        go_wp2_with (first
          | (go_at_call 35
             go_must (refine (fnum_any n _ (by omega)).mono ?_)
             rintro e w2 h2
             have hm2 := HM.out.far h2.touch
             obtain ⟨x, rfl, hx2⟩ := OwnX.of (Touch.refl _ _) h2
             have HM2 := Lib.hid hm2
             have HX2 := Lib.hid hx2
             clear h2 hm2 hx2)
          | (at_builtin
             go_must (refine own_append_list rfl _ _ rfl _ _ _ _ rfl rfl HM2.out HX2.out (by simp; omega) ?_)
             intro v3 w3 h3 t3
             have HM3 := Lib.hid h3
             clear h3 t3))
        go_roundw
        case rel => exact ⟨j + 1, by omega, by go_num, by rw [HE.out, ← List.append_assoc]; exact HM3.out⟩
        case measure => simp [intOf]; omega
      · obtain rfl : j = fired.length := by omega
        have hm0 := HM.out
        rw [List.take_length] at hm0
        have HM := Lib.hid hm0
        clear hm0
        go_wp2_with (first
          | (go_at_call 35
             go_must (refine (fnum_any _ _ (by omega)).mono ?_)
             rintro e w2 h2
             have hm2 := HM.out.far h2.touch
             obtain ⟨x, rfl, hx2⟩ := OwnX.of (Touch.refl _ _) h2
             have HM := Lib.hid hm2
             have HX := Lib.hid hx2
             have hbx := hm2.blk HBk.out
             have q12 := hbx.cell 12
             have q13 := hbx.cell 13
             simp at q12 q13
             clear h2 hm2 hx2 hbx)
          | (at_builtin
             go_must (refine own_append_list rfl _ _ rfl _ _ _ _ rfl rfl HM.out HX.out (by simp; omega) ?_)
             intro v3 w3 h3 t3
             have HM := Lib.hid h3
             have hbx := h3.blk HBk.out
             have q12 := hbx.cell 12
             have q13 := hbx.cell 13
             simp at q12 q13
             clear h3 t3 hbx))
        go_ret
        exact NewOwn.before HT0.out (OwnX.new (by rw [HQ.out, ← List.append_assoc, ← List.append_assoc]; exact HM.out) hpos)
end Go.Proofs.Ytmgmjehebbggaaa
