/- ChainNobody, walked. (written by genchJ.py) -/
import Derived.Test.YtcblbjhhlnmkjaaChJ
import Derived.Test.YtcblbjhhlnmkjaaChE
import Derived.Test.YtcblbjhhlnmkjaaArgsT
namespace Go.Proofs.Ytcblbjhhlnmkjaa
open Go.RowKit Cal
set_option maxHeartbeats 4000000
set_option maxRecDepth 100000
set_option linter.unusedVariables false

theorem walk_ChainNobody {w : World} (t : Co) (A : Option Addr) (n : Nat) (hl : SpR w (fun q => q < w.heap.size) A t.lv.length t.lv) (hn : t.lv.length ≤ n ∧ n ≤ maxLen) (now : Int) (hnow : -9223372036854775808 ≤ now ∧ now ≤ 9223372036854775807) :
    Calls Try.prog 9 #[.agg #[.int .i64 t.cal, .slice A t.lv.length n, .int .i64 t.rt, .int .i64 t.bk], .int .i64 now] w fun e w' => e = .returned (.bool true) ∧ Below w.heap.size w w' := by
  have HL := Lib.hid hl
  have HT0 := Lib.hid (show Touch (fun _ => False) w (w.alloc (.cells #[.int .i64 t.cal, .slice A t.lv.length n, .int .i64 t.rt, .int .i64 t.bk] 28)) from (Touch.refl (fun _ => False) w).alloc (.cells #[.int .i64 t.cal, .slice A t.lv.length n, .int .i64 t.rt, .int .i64 t.bk] 28))
  have HBX0_0 := Lib.hid (show Blk (w.alloc (.cells #[.int .i64 t.cal, .slice A t.lv.length n, .int .i64 t.rt, .int .i64 t.bk] 28)) w.heap.size 28 #[.int .i64 t.cal, .slice A t.lv.length n, .int .i64 t.rt, .int .i64 t.bk] by simpa using Blk.new w 28 #[.int .i64 t.cal, .slice A t.lv.length n, .int .i64 t.rt, .int .i64 t.bk])
  by_cases hlong : 60 < t.lv.length
  · have hd : (60 : Int) < t.lv.length := by omega
    go_enter Try.func9, Try.ntmps9
    go_wp2_with (first
      | (go_at_call 25; go_must (refine ((lives15_any _)).mono ?_); rintro e w1 ⟨rfl, t1⟩; have hz1 := t1.size; (try simp at hz1); have HT1 := Lib.hid ((HT0.out).trans t1 (fun _ _ e => e)); have hb := t1.blk (HBX0_0.out) (fun e => e); have HBX0_1 := Lib.hid hb; clear hb; clear t1))
    go_ret
    exact ⟨rfl, (HT1.out).below⟩
  have hd : ¬ (60 : Int) < t.lv.length := by omega
  have HG := Lib.hid (fun w1 h => fgood_any (fun q => q < w.heap.size) A n t w1 h)
  cases hg : goodB t
  · rw [hg] at HG
    go_enter Try.func9, Try.ntmps9
    go_wp2_with (first
      | (go_at_call 25; have HM2 := HT1; go_must (refine ((lives15_any _)).mono ?_); rintro e w2 ⟨rfl, t2⟩; have hz2 := t2.size; (try simp at hz2); have HT2 := Lib.hid ((HT1.out).trans t2 (fun _ _ e => e)); have hb := t2.blk (HBX0_1.out) (fun e => e); have HBX0_2 := Lib.hid hb; clear hb; clear t2)
      | (go_at_call 31; go_must (refine ((HG.out _ (by exact HL.out.touch HT0.out (fun _ _ e => e)))).mono ?_); rintro e w1 ⟨rfl, t1⟩; have hz1 := t1.size; (try simp at hz1); have HT1 := Lib.hid ((HT0.out).trans t1 (fun _ _ e => e)); have hb := t1.blk (HBX0_0.out) (fun e => e); have cX0_0 := hb.cell 0; have cX0_1 := hb.cell 1; have cX0_2 := hb.cell 2; have cX0_3 := hb.cell 3; simp at cX0_0 cX0_1 cX0_2 cX0_3; have HBX0_1 := Lib.hid hb; clear hb; clear t1))
    go_ret
    exact ⟨rfl, (HT2.out).below⟩
  · rw [hg] at HG
    have HF := Lib.hid (fun w1 (h : SpR w1 (fun q => q < w.heap.size) A t.lv.length t.lv) => nofirst_any (fun q => q < w.heap.size) A n t now w1 h hg)
    have HP := Lib.hid (fun w1 (h : SpR w1 (fun q => q < w.heap.size) A t.lv.length t.lv) => noplan_any15 (fun q => q < w.heap.size) A n t now w1 h hg)
    clear hg hl
    go_enter Try.func9, Try.ntmps9
    go_wp2_with (first
      | (go_at_call 25; have HM5 := HT4; go_must (refine ((lives15_any _)).mono ?_); rintro e w5 ⟨rfl, t5⟩; have hz5 := t5.size; (try simp at hz5); have HT5 := Lib.hid ((HT4.out).trans t5 (fun _ _ e => e)); have hb := t5.blk (HBX0_4.out) (fun e => e); have HBX0_5 := Lib.hid hb; clear hb; have hb := t5.blk (HBP1_4.out) (fun e => e); have HBP1_5 := Lib.hid hb; clear hb; have hb := t5.blk (HBP2_4.out) (fun e => e); have HBP2_5 := Lib.hid hb; clear hb; clear t5)
      | (go_at_call 36; have HM4 := HT3; go_must (refine ((HP.out _ (by exact HL.out.touch (HT3.out.alloc (.cells #[.int .i64 0, .int .i64 0, .int .i64 0, .int .i64 0] 48)) (fun _ _ e => e)))).mono ?_); rintro e w4 ⟨rfl, t4⟩; have hz4 := t4.size; (try simp at hz4); have HT4 := Lib.hid ((HT3.out.alloc (.cells #[.int .i64 0, .int .i64 0, .int .i64 0, .int .i64 0] 48)).trans t4 (fun _ _ e => e)); have hb := t4.blk (HBX0_3.out.alloc (.cells #[.int .i64 0, .int .i64 0, .int .i64 0, .int .i64 0] 48)) (fun e => e); clear cX0_0 cX0_1 cX0_2 cX0_3; have cX0_0 := hb.cell 0; have cX0_1 := hb.cell 1; have cX0_2 := hb.cell 2; have cX0_3 := hb.cell 3; simp at cX0_0 cX0_1 cX0_2 cX0_3; have HBX0_4 := Lib.hid hb; clear hb; have hb := t4.blk (HBP1_3.out.alloc (.cells #[.int .i64 0, .int .i64 0, .int .i64 0, .int .i64 0] 48)) (fun e => e); clear cP1_0 cP1_1 cP1_2 cP1_3; have cP1_0 := hb.cell 0; have cP1_1 := hb.cell 1; have cP1_2 := hb.cell 2; have cP1_3 := hb.cell 3; simp at cP1_0 cP1_1 cP1_2 cP1_3; have HBP1_4 := Lib.hid hb; clear hb; have hb := t4.blk (Blk.new w3 48 #[.int .i64 0, .int .i64 0, .int .i64 0, .int .i64 0]) (fun e => e); have cP2_0 := hb.cell 0; have cP2_1 := hb.cell 1; have cP2_2 := hb.cell 2; have cP2_3 := hb.cell 3; simp at cP2_0 cP2_1 cP2_2 cP2_3; have HBP2_4 := Lib.hid hb; clear hb; clear t4)
      | (go_at_call 29; have HM3 := HT2; go_must (refine ((nogo_any _ _)).mono ?_); rintro e w3 ⟨rfl, t3⟩; have hz3 := t3.size; (try simp at hz3); have HT3 := Lib.hid ((HT2.out.alloc (.cells #[.int .i64 0, .int .i64 0, .int .i64 0, .int .i64 0] 48)).trans t3 (fun _ _ e => e)); have hb := t3.blk (HBX0_2.out.alloc (.cells #[.int .i64 0, .int .i64 0, .int .i64 0, .int .i64 0] 48)) (fun e => e); clear cX0_0 cX0_1 cX0_2 cX0_3; have cX0_0 : (w3.alloc (.cells #[.int .i64 0, .int .i64 0, .int .i64 0, .int .i64 0] 48)).cell? ⟨w.heap.size, 0, none⟩ = some (.int .i64 t.cal) := (hb.alloc _).cell 0; have cX0_1 : (w3.alloc (.cells #[.int .i64 0, .int .i64 0, .int .i64 0, .int .i64 0] 48)).cell? ⟨w.heap.size, 1, none⟩ = some (.slice A t.lv.length n) := (hb.alloc _).cell 1; have cX0_2 : (w3.alloc (.cells #[.int .i64 0, .int .i64 0, .int .i64 0, .int .i64 0] 48)).cell? ⟨w.heap.size, 2, none⟩ = some (.int .i64 t.rt) := (hb.alloc _).cell 2; have cX0_3 : (w3.alloc (.cells #[.int .i64 0, .int .i64 0, .int .i64 0, .int .i64 0] 48)).cell? ⟨w.heap.size, 3, none⟩ = some (.int .i64 t.bk) := (hb.alloc _).cell 3; have HBX0_3 := Lib.hid hb; clear hb; have hb := t3.blk (Blk.new w2 48 #[.int .i64 0, .int .i64 0, .int .i64 0, .int .i64 0]) (fun e => e); have cP1_0 : (w3.alloc (.cells #[.int .i64 0, .int .i64 0, .int .i64 0, .int .i64 0] 48)).cell? ⟨w2.heap.size, 0, none⟩ = some (.int .i64 0) := (hb.alloc _).cell 0; have cP1_1 : (w3.alloc (.cells #[.int .i64 0, .int .i64 0, .int .i64 0, .int .i64 0] 48)).cell? ⟨w2.heap.size, 1, none⟩ = some (.int .i64 0) := (hb.alloc _).cell 1; have cP1_2 : (w3.alloc (.cells #[.int .i64 0, .int .i64 0, .int .i64 0, .int .i64 0] 48)).cell? ⟨w2.heap.size, 2, none⟩ = some (.int .i64 0) := (hb.alloc _).cell 2; have cP1_3 : (w3.alloc (.cells #[.int .i64 0, .int .i64 0, .int .i64 0, .int .i64 0] 48)).cell? ⟨w2.heap.size, 3, none⟩ = some (.int .i64 0) := (hb.alloc _).cell 3; have HBP1_3 := Lib.hid hb; clear hb; have hnX0_3 : ¬ w.heap.size = w3.heap.size := (by omega); have hnP1_3 : ¬ w2.heap.size = w3.heap.size := (by omega); clear t3)
      | (go_at_call 32; have HM2 := HT1; go_must (refine ((HF.out _ (by exact HL.out.touch (HT1.out) (fun _ _ e => e)))).mono ?_); rintro e w2 ⟨rfl, t2⟩; have hz2 := t2.size; (try simp at hz2); have HT2 := Lib.hid ((HT1.out).trans t2 (fun _ _ e => e)); have hb := t2.blk (HBX0_1.out) (fun e => e); clear cX0_0 cX0_1 cX0_2 cX0_3; have cX0_0 : (w2.alloc (.cells #[.int .i64 0, .int .i64 0, .int .i64 0, .int .i64 0] 48)).cell? ⟨w.heap.size, 0, none⟩ = some (.int .i64 t.cal) := (hb.alloc _).cell 0; have cX0_1 : (w2.alloc (.cells #[.int .i64 0, .int .i64 0, .int .i64 0, .int .i64 0] 48)).cell? ⟨w.heap.size, 1, none⟩ = some (.slice A t.lv.length n) := (hb.alloc _).cell 1; have cX0_2 : (w2.alloc (.cells #[.int .i64 0, .int .i64 0, .int .i64 0, .int .i64 0] 48)).cell? ⟨w.heap.size, 2, none⟩ = some (.int .i64 t.rt) := (hb.alloc _).cell 2; have cX0_3 : (w2.alloc (.cells #[.int .i64 0, .int .i64 0, .int .i64 0, .int .i64 0] 48)).cell? ⟨w.heap.size, 3, none⟩ = some (.int .i64 t.bk) := (hb.alloc _).cell 3; have HBX0_2 := Lib.hid hb; clear hb; have hnX0_2 : ¬ w.heap.size = w2.heap.size := (by omega); clear t2)
      | (go_at_call 31; go_must (refine ((HG.out _ (by exact HL.out.touch HT0.out (fun _ _ e => e)))).mono ?_); rintro e w1 ⟨rfl, t1⟩; have hz1 := t1.size; (try simp at hz1); have HT1 := Lib.hid ((HT0.out).trans t1 (fun _ _ e => e)); have hb := t1.blk (HBX0_0.out) (fun e => e); have cX0_0 := hb.cell 0; have cX0_1 := hb.cell 1; have cX0_2 := hb.cell 2; have cX0_3 := hb.cell 3; simp at cX0_0 cX0_1 cX0_2 cX0_3; have HBX0_1 := Lib.hid hb; clear hb; clear t1))
    go_ret
    exact ⟨rfl, (HT5.out).below⟩
end Go.Proofs.Ytcblbjhhlnmkjaa
