/- law31.like. -/
import Derived.Test.YtpgakkpmpnebnaaVPrDo
namespace Go.Proofs.Ytpgakkpmpnebnaa
open Go.RowKit Go.Maps Prg
set_option maxHeartbeats 4000000
set_option maxRecDepth 100000
set_option linter.unusedVariables false
attribute [local irreducible] wpPlan

theorem neqLn (m n r : Nat) (a : Bool) (w : World) : (binOp .neq 43 (.agg #[.int .u64 m, .int .u64 n, .int .u64 r, .bool a]) (.agg #[.int .u64 m, .int .u64 n, .int .u64 r, .bool a])).run Try.prog w = .ok (.bool false) w := by
  simp [go_sem]
theorem rowOf_len' (p : Nat → Bool) : (Row.rowOf p).length ≤ 7 := rowOf_len p
theorem like31_any (g b : Nat) (t : Tb) (F : Nat → Prop) (w : World) (h : PgAt w g b t F) :
    Calls Try.prog 20 #[.pointer (some ⟨g, 0, none⟩), .agg (refT t)] w fun e w' => e = .returned (.bool true) ∧ Touch (fun _ => False) w w' := by
  have hT := (Touch.refl (fun _ => False) w).alloc (.cells (refT t) 37)
  have HT0 := Lib.hid hT
  have HB0 := Lib.hid (Blk.new w 37 (refT t))
  have HN := Lib.hid (refT_size t)
  have HP := Lib.hid h
  have HOk := Lib.hid h.ok
  have HLi := Lib.hid h.lineC
  have HNo := Lib.hid (pnodes_any g b t F _ (h.none_ hT.drew))
  have HRn := Lib.hid (fun w1 => fnodes_any t w1)
  have HGe := Lib.hid (fun n hn w1 => fget_any t h.ok n hn w1)
  have hl7 : (nodesT t).length ≤ 7 := rowOf_len _
  generalize refT t = C at *
  clear hT h
  obtain ⟨N, hN⟩ : ∃ N, N = nodesT t := ⟨_, rfl⟩
  rw [← hN] at HNo HRn hl7
  clear hN
  have hL : (N.map I64).length = N.length := List.length_map _
  go_enter Try.func20, Try.ntmps20
  go_wp2_with fail
  refine wp_region_plan [(0, 0), (1, 2), (2, 1), (2, 3), (2, 4), (0, 5)] (fun _ => False) (by kernel_rfl) (by kernel_rfl) (fun c a d v w h => by cases d <;> exact h) ?_
  iterate 1
    refine plan_s1 rfl (by rfl) (fun Kc hKc => ?_)
    go_simp
    first
      | (refine hKc _ ?_)
    clear hKc Kc
  refine plan_hC rowTb rfl _ rfl rfl w.heap.size 0 rfl C HN.out (fun wh hT => (hT.blk (HB0.out.drewN 0) (fun e => e)).whole) ?_
  go_frame
  refine plan_a1 rfl (by rfl) (fun Kc hKc => ?_)
  go_simp
  refine HNo.out.mono ?_
  rintro e w2 ⟨A1, c1, rfl, q1, q2, hr1, t2⟩
  rw [hL] at q1 hr1 ⊢
  refine hKc _ _ ⟨t2, ?_⟩
  clear hKc Kc
  have HR1 := Lib.hid hr1
  have HT2 := Lib.hid (HT0.out.drew.trans t2 (fun _ _ e => e))
  have HB2 := Lib.hid (t2.blk (HB0.out.drewN 0) (fun e => e))
  clear hr1 t2 q1 q2
  refine plan_a1 rfl (by rfl) (fun Kc hKc => ?_)
  go_simp
  refine (HRn.out _).mono ?_
  rintro e w3 ⟨A2, c2, rfl, q1, q2, hr2, t3⟩
  rw [hL] at q1 hr2 ⊢
  refine hKc _ _ ⟨t3, ?_⟩
  clear hKc Kc
  have HR2 := Lib.hid hr2
  have HR1' := Lib.hid (HR1.out.touch t3 (fun _ _ e => e))
  have HT3 := Lib.hid (HT2.out.trans t3 (fun _ _ e => e))
  have HB3 := Lib.hid (t3.blk HB2.out (fun e => e))
  clear hr2 t3 q1 q2
  refine plan_a1 rfl (by rfl) (fun Kc hKc => ?_)
  go_simp
  refine (rsame_any _ _ A1 A2 c1 c2 N N _ (by exact HR1'.out) (by exact HR2.out) (by omega)).mono ?_
  rintro e w4 ⟨rfl, t4⟩
  rw [show decide (N = N) = true by simp]
  refine hKc _ _ ⟨t4, ?_⟩
  clear hKc Kc
  have HT4 := Lib.hid (HT3.out.trans t4 (fun _ _ e => e))
  have HB4 := Lib.hid (t4.blk HB3.out (fun e => e))
  clear t4
  iterate 1
    refine plan_s1 rfl (by rfl) (fun Kc hKc => ?_)
    go_simp
    first
      | (refine hKc _ ?_)
    clear hKc Kc
  refine plan_done ?_
  go_wp2_with fail
  go_loopw [5, 6, 7, 8, 9] (fun i _ _ _ _ wr => ∃ j : Int, -1 ≤ j ∧ j ≤ 8 ∧ i = .int .i64 j ∧ Touch (fun _ => False) w wr ∧ Blk wr w.heap.size 37 C) (fun i _ _ _ _ _ => (8 - intOf i).toNat)
  case atStart => exact ⟨-1, by omega, by omega, rfl, HT4.out, HB4.out⟩
  case round =>
    clear HR1 HR2 HR1' HT2 HB2 HT3 HB3 HT4 HB4 HNo
    obtain ⟨j, hj0, hj, rfl, hT, hB⟩ := hrel
    have HT := Lib.hid hT
    have HB := Lib.hid hB
    clear hT hB
    by_cases hj8 : j < 8
    · have hin : inI j := by unfold inI; omega
      have HL := Lib.hid (HLi.out wr HT.out j hin)
      have HG := Lib.hid (fun w1 => HGe.out j hin w1)
      obtain ⟨L, hLe⟩ : ∃ L, L = lineV t j := ⟨_, rfl⟩
      obtain ⟨is, his⟩ : ∃ is, is = (t j).isSome := ⟨_, rfl⟩
      rw [← hLe, ← his] at HL HG
      clear hLe his
      obtain ⟨y0, y1, y2, y3⟩ := L
      simp only [lnC] at HL HG
      have hnq := neqLn y0 y1 y2 y3
      have hbb : (is != is) = false := by cases is <;> rfl
      go_wp2_with (first
        | (go_at_call 18; go_must (refine HL.out.mono ?_); rintro e w5 ⟨rfl, t5⟩
           have HT5 := Lib.hid (t5.alloc (.cells #[.int .u64 (y0 : Int), .int .u64 (y1 : Int), .int .u64 (y2 : Int), .bool y3] 43))
           have HB5 := Lib.hid (HT5.out.blk HB.out (fun e => e))
           have HX5 := Lib.hid (Blk.new w5 43 #[.int .u64 (y0 : Int), .int .u64 (y1 : Int), .int .u64 (y2 : Int), .bool y3])
           clear t5)
        | ((with_reducible apply HB5.out.ld rowTb HN.out); exact rfl; exact rfl; exact rfl)
        | (go_at_call 64; go_must (refine (HG.out _).mono ?_); rintro e w6 ⟨rfl, t6⟩
           have HT6 := Lib.hid ((HT5.out.trans t6 (fun _ _ e => e)).alloc (.cells #[.int .u64 (y0 : Int), .int .u64 (y1 : Int), .int .u64 (y2 : Int), .bool y3] 34))
           have HB6 := Lib.hid ((t6.blk HB5.out (fun e => e)).alloc (.cells #[.int .u64 (y0 : Int), .int .u64 (y1 : Int), .int .u64 (y2 : Int), .bool y3] 34))
           have hx6 := (t6.blk HX5.out (fun e => e)).alloc (.cells #[.int .u64 (y0 : Int), .int .u64 (y1 : Int), .int .u64 (y2 : Int), .bool y3] 34)
           obtain ⟨x0, x1, x2, x3⟩ := hx6.c4
           clear t6 hx6))
      go_roundw
      case rel => exact ⟨j + 1, by omega, by omega, by go_num, HT.out.trans HT6.out (fun _ _ e => e), HB6.out⟩
      case measure => simp [intOf]; omega
    · go_wp2_with fail
      go_ret
      exact ⟨rfl, HT.out⟩
end Go.Proofs.Ytpgakkpmpnebnaa
