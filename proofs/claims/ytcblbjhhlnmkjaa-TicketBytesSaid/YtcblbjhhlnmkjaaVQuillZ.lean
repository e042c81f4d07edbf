/- law16: lives. (written by gentkd.py) Whether a ticket is sound, the program's. Whether a reply has a ticket; whether it is sound. Whether a reply is sound, the reference's: the comparison with no ticket. What the reference's Num, Int, Flag, Text write (chapter 1): the same bytes. -/
import Derived.Test.YtcblbjhhlnmkjaaVTkC
import Derived.Test.YtcblbjhhlnmkjaaChE
import Derived.Test.YtcblbjhhlnmkjaaVTkA
import Derived.Test.YtcblbjhhlnmkjaaVQuillY
section
namespace Go.Proofs.Ytcblbjhhlnmkjaa
open Go.RowKit Cal
set_option maxHeartbeats 4000000
set_option maxRecDepth 100000
set_option linter.unusedVariables false

theorem cA_due3 : cA.due 0 10 = (10, 0) := due_of cA (by decide) (by decide) ⟨by omega, by decide, by decide⟩ (by omega)
theorem cA_due4 : cA.due 12 20 = (32, 0) := due_of cA (by decide) (by decide) ⟨by omega, by decide, by decide⟩ (by omega)
theorem lv_open : topenV cA 7 0 tP 0 = (⟨7, 0, 1, 0, 0, 0, 10, 10, 0⟩, 0) := by
  have h : firstV cA tP 0 = (⟨0, 0, 10, 10⟩, 0) := by rw [firstV, if_pos tP_good, begV, show bud tP 0 = 10 from rfl, cA_due3]; rfl
  rw [topenV, h]; rfl
theorem lv_fire1 : tfireV cA ⟨7, 0, 1, 0, 0, 0, 10, 10, 0⟩ tP 12 = ((⟨7, 0, 1, 1, 0, 12, 20, 32, 1⟩, 0), 0) := by
  have h : nextV cA tP ⟨0, 0, 10, 10⟩ 12 = ((⟨1, 12, 20, 32⟩, true), 0) := by
    have hb : begV cA 1 20 12 = (⟨1, 12, 20, 32⟩, 0) := by rw [begV, cA_due4]; rfl
    rw [nextV, if_pos ⟨tP_good, by decide, by decide⟩, if_neg (by decide)]
    simp only [show ((0 : Int) + 1) = 1 from rfl, show (1 : Int).toNat = 1 from rfl, show bud tP 1 = 20 from rfl, hb]; rfl
  rw [tfireV, if_neg (by decide), if_neg (by decide), if_neg (by simp [tP_good]; decide)]
  simp only [TkV.st, h]; rfl
theorem lv_fire2 : tfireV cA ⟨7, 0, 1, 1, 0, 12, 20, 32, 1⟩ tP 32 = ((⟨7, 0, 3, 1, 0, 0, 0, 0, 2⟩, 1), 0) := by
  have h : nextV cA tP ⟨1, 12, 20, 32⟩ 32 = ((St.z, false), 0) := by
    rw [nextV, if_pos ⟨tP_good, by decide, by decide⟩, if_pos (by decide)]
  rw [tfireV, if_neg (by decide), if_neg (by decide), if_neg (by simp [tP_good]; decide)]
  simp only [TkV.st, h]; rfl
theorem lives16_any (w : World) : Calls Try.prog 37 #[] w fun e w' => e = .returned (.bool true) ∧ Touch (fun _ => False) w w' := by
  have HT0 := Lib.hid (show Touch (fun _ => False) w w from Touch.refl (fun _ => False) w)
  have HN := Lib.hid (fun w1 A F (hh : CaR w1 F cA A none) => (cnew_yes F A none 1 0 cA w1 hh cA_ok : Calls Try.prog 26 #[.agg #[.int .i64 0, .slice A 1 1, .slice none 0 0]] w1 (NewCk w1 cA)))
  have HO := Lib.hid (fun k a p b G F A w1 (hh : CkAt w1 k a p b cA G) (hr : SpR w1 F A 2 tP.lv) => (lv_open ▸ topen_any k a p b cA G F A 2 7 0 tP 0 w1 hh hr : Calls Try.prog 49 #[.int .u64 7, .int .i64 0, .pointer (some ⟨k, 0, none⟩), .agg #[.int .i64 0, .slice A 2 2, .int .i64 2, .int .i64 5], .int .i64 0] w1 (CkT k a p b cA G (⟨7, 0, 1, 0, 0, 0, 10, 10, 0⟩, 0) w1)))
  have HF1 := Lib.hid (fun k a p b G F A w1 (hh : CkAt w1 k a p b cA G) (hr : SpR w1 F A 2 tP.lv) (hF : ∀ q, F q → q < w1.heap.size ∧ q ≠ b) => (lv_fire1 ▸ PF.tfire_any k a p b cA G F A 2 ⟨7, 0, 1, 0, 0, 0, 10, 10, 0⟩ tP 12 w1 hh hr hF (by decide) (by decide) : Calls Try.prog 53 #[.agg #[.int .u64 7, .int .i64 0, .int .i64 1, .int .i64 0, .int .u64 0, .int .i64 0, .int .i64 10, .int .i64 10, .int .i64 0], .pointer (some ⟨k, 0, none⟩), .agg #[.int .i64 0, .slice A 2 2, .int .i64 2, .int .i64 5], .int .i64 12] w1 (CkF k a p b cA G ((⟨7, 0, 1, 1, 0, 12, 20, 32, 1⟩, 0), 0) w1)))
  have HF2 := Lib.hid (fun k a p b G F A w1 (hh : CkAt w1 k a p b cA G) (hr : SpR w1 F A 2 tP.lv) (hF : ∀ q, F q → q < w1.heap.size ∧ q ≠ b) => (lv_fire2 ▸ PF.tfire_any k a p b cA G F A 2 ⟨7, 0, 1, 1, 0, 12, 20, 32, 1⟩ tP 32 w1 hh hr hF (by decide) (by decide) : Calls Try.prog 53 #[.agg #[.int .u64 7, .int .i64 0, .int .i64 1, .int .i64 1, .int .u64 0, .int .i64 12, .int .i64 20, .int .i64 32, .int .i64 1], .pointer (some ⟨k, 0, none⟩), .agg #[.int .i64 0, .slice A 2 2, .int .i64 2, .int .i64 5], .int .i64 32] w1 (CkF k a p b cA G ((⟨7, 0, 3, 1, 0, 0, 0, 0, 2⟩, 1), 0) w1)))
  go_enter Try.func37, Try.ntmps37
  go_wp2_with (first
    | (go_at_call 53; have HM6 := HT5; go_must (refine ((HF2.out _ _ _ _ _ _ _ _ (by exact (HK5.out.none ((Touch.refl (fun _ => False) w5).alloc (.cells #[.int .u64 7, .int .i64 0, .int .i64 1, .int .i64 1, .int .u64 0, .int .i64 12, .int .i64 20, .int .i64 32, .int .i64 1] 74)))) (by exact (HL5.out.touch ((Touch.refl (fun _ => False) w5).alloc (.cells #[.int .u64 7, .int .i64 0, .int .i64 1, .int .i64 1, .int .u64 0, .int .i64 12, .int .i64 20, .int .i64 32, .int .i64 1] 74)) (fun _ _ e => e))) (by intro q hq; simp; omega))).mono ?_); rintro e w6 ⟨rfl, ck, t6⟩; have hz6 := t6.size; (try simp at hz6); have HT6 := Lib.hid ((HT5.out.alloc (.cells #[.int .u64 7, .int .i64 0, .int .i64 1, .int .i64 1, .int .u64 0, .int .i64 12, .int .i64 20, .int .i64 32, .int .i64 1] 74)).trans t6 (fun q hq e => by omega)); have hb := t6.blk (HBP1_5.out.alloc (.cells #[.int .u64 7, .int .i64 0, .int .i64 1, .int .i64 1, .int .u64 0, .int .i64 12, .int .i64 20, .int .i64 32, .int .i64 1] 74)) (by omega); clear cP1_0 cP1_1 cP1_2 cP1_3; have cP1_0 : (w6.alloc (.cells #[.int .u64 7, .int .i64 0, .int .i64 3, .int .i64 1, .int .u64 0, .int .i64 0, .int .i64 0, .int .i64 0, .int .i64 2] 74)).cell? ⟨w3.heap.size, 0, none⟩ = some (.int .i64 0) := (hb.alloc _).cell 0; have cP1_1 : (w6.alloc (.cells #[.int .u64 7, .int .i64 0, .int .i64 3, .int .i64 1, .int .u64 0, .int .i64 0, .int .i64 0, .int .i64 0, .int .i64 2] 74)).cell? ⟨w3.heap.size, 1, none⟩ = some (.slice (some ⟨g3, 0, none⟩) 2 2) := (hb.alloc _).cell 1; have cP1_2 : (w6.alloc (.cells #[.int .u64 7, .int .i64 0, .int .i64 3, .int .i64 1, .int .u64 0, .int .i64 0, .int .i64 0, .int .i64 0, .int .i64 2] 74)).cell? ⟨w3.heap.size, 2, none⟩ = some (.int .i64 2) := (hb.alloc _).cell 2; have cP1_3 : (w6.alloc (.cells #[.int .u64 7, .int .i64 0, .int .i64 3, .int .i64 1, .int .u64 0, .int .i64 0, .int .i64 0, .int .i64 0, .int .i64 2] 74)).cell? ⟨w3.heap.size, 3, none⟩ = some (.int .i64 5) := (hb.alloc _).cell 3; have HBP1_6 := Lib.hid hb; clear hb; have hb := t6.blk (HBP2_5.out.alloc (.cells #[.int .u64 7, .int .i64 0, .int .i64 1, .int .i64 1, .int .u64 0, .int .i64 12, .int .i64 20, .int .i64 32, .int .i64 1] 74)) (by omega); clear cP2_0 cP2_1 cP2_2 cP2_3 cP2_4 cP2_5 cP2_6 cP2_7 cP2_8; have cP2_0 : (w6.alloc (.cells #[.int .u64 7, .int .i64 0, .int .i64 3, .int .i64 1, .int .u64 0, .int .i64 0, .int .i64 0, .int .i64 0, .int .i64 2] 74)).cell? ⟨w4.heap.size, 0, none⟩ = some (.int .u64 7) := (hb.alloc _).cell 0; have cP2_1 : (w6.alloc (.cells #[.int .u64 7, .int .i64 0, .int .i64 3, .int .i64 1, .int .u64 0, .int .i64 0, .int .i64 0, .int .i64 0, .int .i64 2] 74)).cell? ⟨w4.heap.size, 1, none⟩ = some (.int .i64 0) := (hb.alloc _).cell 1; have cP2_2 : (w6.alloc (.cells #[.int .u64 7, .int .i64 0, .int .i64 3, .int .i64 1, .int .u64 0, .int .i64 0, .int .i64 0, .int .i64 0, .int .i64 2] 74)).cell? ⟨w4.heap.size, 2, none⟩ = some (.int .i64 1) := (hb.alloc _).cell 2; have cP2_3 : (w6.alloc (.cells #[.int .u64 7, .int .i64 0, .int .i64 3, .int .i64 1, .int .u64 0, .int .i64 0, .int .i64 0, .int .i64 0, .int .i64 2] 74)).cell? ⟨w4.heap.size, 3, none⟩ = some (.int .i64 0) := (hb.alloc _).cell 3; have cP2_4 : (w6.alloc (.cells #[.int .u64 7, .int .i64 0, .int .i64 3, .int .i64 1, .int .u64 0, .int .i64 0, .int .i64 0, .int .i64 0, .int .i64 2] 74)).cell? ⟨w4.heap.size, 4, none⟩ = some (.int .u64 0) := (hb.alloc _).cell 4; have cP2_5 : (w6.alloc (.cells #[.int .u64 7, .int .i64 0, .int .i64 3, .int .i64 1, .int .u64 0, .int .i64 0, .int .i64 0, .int .i64 0, .int .i64 2] 74)).cell? ⟨w4.heap.size, 5, none⟩ = some (.int .i64 0) := (hb.alloc _).cell 5; have cP2_6 : (w6.alloc (.cells #[.int .u64 7, .int .i64 0, .int .i64 3, .int .i64 1, .int .u64 0, .int .i64 0, .int .i64 0, .int .i64 0, .int .i64 2] 74)).cell? ⟨w4.heap.size, 6, none⟩ = some (.int .i64 10) := (hb.alloc _).cell 6; have cP2_7 : (w6.alloc (.cells #[.int .u64 7, .int .i64 0, .int .i64 3, .int .i64 1, .int .u64 0, .int .i64 0, .int .i64 0, .int .i64 0, .int .i64 2] 74)).cell? ⟨w4.heap.size, 7, none⟩ = some (.int .i64 10) := (hb.alloc _).cell 7; have cP2_8 : (w6.alloc (.cells #[.int .u64 7, .int .i64 0, .int .i64 3, .int .i64 1, .int .u64 0, .int .i64 0, .int .i64 0, .int .i64 0, .int .i64 2] 74)).cell? ⟨w4.heap.size, 8, none⟩ = some (.int .i64 0) := (hb.alloc _).cell 8; have HBP2_6 := Lib.hid hb; clear hb; have hb := t6.blk (Blk.new w5 74 #[.int .u64 7, .int .i64 0, .int .i64 1, .int .i64 1, .int .u64 0, .int .i64 12, .int .i64 20, .int .i64 32, .int .i64 1]) (by omega); have cP3_0 : (w6.alloc (.cells #[.int .u64 7, .int .i64 0, .int .i64 3, .int .i64 1, .int .u64 0, .int .i64 0, .int .i64 0, .int .i64 0, .int .i64 2] 74)).cell? ⟨w5.heap.size, 0, none⟩ = some (.int .u64 7) := (hb.alloc _).cell 0; have cP3_1 : (w6.alloc (.cells #[.int .u64 7, .int .i64 0, .int .i64 3, .int .i64 1, .int .u64 0, .int .i64 0, .int .i64 0, .int .i64 0, .int .i64 2] 74)).cell? ⟨w5.heap.size, 1, none⟩ = some (.int .i64 0) := (hb.alloc _).cell 1; have cP3_2 : (w6.alloc (.cells #[.int .u64 7, .int .i64 0, .int .i64 3, .int .i64 1, .int .u64 0, .int .i64 0, .int .i64 0, .int .i64 0, .int .i64 2] 74)).cell? ⟨w5.heap.size, 2, none⟩ = some (.int .i64 1) := (hb.alloc _).cell 2; have cP3_3 : (w6.alloc (.cells #[.int .u64 7, .int .i64 0, .int .i64 3, .int .i64 1, .int .u64 0, .int .i64 0, .int .i64 0, .int .i64 0, .int .i64 2] 74)).cell? ⟨w5.heap.size, 3, none⟩ = some (.int .i64 1) := (hb.alloc _).cell 3; have cP3_4 : (w6.alloc (.cells #[.int .u64 7, .int .i64 0, .int .i64 3, .int .i64 1, .int .u64 0, .int .i64 0, .int .i64 0, .int .i64 0, .int .i64 2] 74)).cell? ⟨w5.heap.size, 4, none⟩ = some (.int .u64 0) := (hb.alloc _).cell 4; have cP3_5 : (w6.alloc (.cells #[.int .u64 7, .int .i64 0, .int .i64 3, .int .i64 1, .int .u64 0, .int .i64 0, .int .i64 0, .int .i64 0, .int .i64 2] 74)).cell? ⟨w5.heap.size, 5, none⟩ = some (.int .i64 12) := (hb.alloc _).cell 5; have cP3_6 : (w6.alloc (.cells #[.int .u64 7, .int .i64 0, .int .i64 3, .int .i64 1, .int .u64 0, .int .i64 0, .int .i64 0, .int .i64 0, .int .i64 2] 74)).cell? ⟨w5.heap.size, 6, none⟩ = some (.int .i64 20) := (hb.alloc _).cell 6; have cP3_7 : (w6.alloc (.cells #[.int .u64 7, .int .i64 0, .int .i64 3, .int .i64 1, .int .u64 0, .int .i64 0, .int .i64 0, .int .i64 0, .int .i64 2] 74)).cell? ⟨w5.heap.size, 7, none⟩ = some (.int .i64 32) := (hb.alloc _).cell 7; have cP3_8 : (w6.alloc (.cells #[.int .u64 7, .int .i64 0, .int .i64 3, .int .i64 1, .int .u64 0, .int .i64 0, .int .i64 0, .int .i64 0, .int .i64 2] 74)).cell? ⟨w5.heap.size, 8, none⟩ = some (.int .i64 1) := (hb.alloc _).cell 8; have HBP3_6 := Lib.hid hb; clear hb; have hnP1_6 : ¬ w3.heap.size = w6.heap.size := (by omega); have hnP2_6 : ¬ w4.heap.size = w6.heap.size := (by omega); have hnP3_6 : ¬ w5.heap.size = w6.heap.size := (by omega); have HK6 := Lib.hid ck; clear ck; clear t6)
    | (go_at_call 53; have HM5 := HT4; go_must (refine ((HF1.out _ _ _ _ _ _ _ _ (by exact (HK4.out.none ((Touch.refl (fun _ => False) w4).alloc (.cells #[.int .u64 7, .int .i64 0, .int .i64 1, .int .i64 0, .int .u64 0, .int .i64 0, .int .i64 10, .int .i64 10, .int .i64 0] 74)))) (by exact (HL4.out.touch ((Touch.refl (fun _ => False) w4).alloc (.cells #[.int .u64 7, .int .i64 0, .int .i64 1, .int .i64 0, .int .u64 0, .int .i64 0, .int .i64 10, .int .i64 10, .int .i64 0] 74)) (fun _ _ e => e))) (by intro q hq; simp; omega))).mono ?_); rintro e w5 ⟨rfl, ck, t5⟩; have hz5 := t5.size; (try simp at hz5); have HT5 := Lib.hid ((HT4.out.alloc (.cells #[.int .u64 7, .int .i64 0, .int .i64 1, .int .i64 0, .int .u64 0, .int .i64 0, .int .i64 10, .int .i64 10, .int .i64 0] 74)).trans t5 (fun q hq e => by omega)); have hb := t5.blk (HBP1_4.out.alloc (.cells #[.int .u64 7, .int .i64 0, .int .i64 1, .int .i64 0, .int .u64 0, .int .i64 0, .int .i64 10, .int .i64 10, .int .i64 0] 74)) (by omega); clear cP1_0 cP1_1 cP1_2 cP1_3; have cP1_0 : (w5.alloc (.cells #[.int .u64 7, .int .i64 0, .int .i64 1, .int .i64 1, .int .u64 0, .int .i64 12, .int .i64 20, .int .i64 32, .int .i64 1] 74)).cell? ⟨w3.heap.size, 0, none⟩ = some (.int .i64 0) := (hb.alloc _).cell 0; have cP1_1 : (w5.alloc (.cells #[.int .u64 7, .int .i64 0, .int .i64 1, .int .i64 1, .int .u64 0, .int .i64 12, .int .i64 20, .int .i64 32, .int .i64 1] 74)).cell? ⟨w3.heap.size, 1, none⟩ = some (.slice (some ⟨g3, 0, none⟩) 2 2) := (hb.alloc _).cell 1; have cP1_2 : (w5.alloc (.cells #[.int .u64 7, .int .i64 0, .int .i64 1, .int .i64 1, .int .u64 0, .int .i64 12, .int .i64 20, .int .i64 32, .int .i64 1] 74)).cell? ⟨w3.heap.size, 2, none⟩ = some (.int .i64 2) := (hb.alloc _).cell 2; have cP1_3 : (w5.alloc (.cells #[.int .u64 7, .int .i64 0, .int .i64 1, .int .i64 1, .int .u64 0, .int .i64 12, .int .i64 20, .int .i64 32, .int .i64 1] 74)).cell? ⟨w3.heap.size, 3, none⟩ = some (.int .i64 5) := (hb.alloc _).cell 3; have HBP1_5 := Lib.hid hb; clear hb; have hb := t5.blk (Blk.new w4 74 #[.int .u64 7, .int .i64 0, .int .i64 1, .int .i64 0, .int .u64 0, .int .i64 0, .int .i64 10, .int .i64 10, .int .i64 0]) (by omega); have cP2_0 : (w5.alloc (.cells #[.int .u64 7, .int .i64 0, .int .i64 1, .int .i64 1, .int .u64 0, .int .i64 12, .int .i64 20, .int .i64 32, .int .i64 1] 74)).cell? ⟨w4.heap.size, 0, none⟩ = some (.int .u64 7) := (hb.alloc _).cell 0; have cP2_1 : (w5.alloc (.cells #[.int .u64 7, .int .i64 0, .int .i64 1, .int .i64 1, .int .u64 0, .int .i64 12, .int .i64 20, .int .i64 32, .int .i64 1] 74)).cell? ⟨w4.heap.size, 1, none⟩ = some (.int .i64 0) := (hb.alloc _).cell 1; have cP2_2 : (w5.alloc (.cells #[.int .u64 7, .int .i64 0, .int .i64 1, .int .i64 1, .int .u64 0, .int .i64 12, .int .i64 20, .int .i64 32, .int .i64 1] 74)).cell? ⟨w4.heap.size, 2, none⟩ = some (.int .i64 1) := (hb.alloc _).cell 2; have cP2_3 : (w5.alloc (.cells #[.int .u64 7, .int .i64 0, .int .i64 1, .int .i64 1, .int .u64 0, .int .i64 12, .int .i64 20, .int .i64 32, .int .i64 1] 74)).cell? ⟨w4.heap.size, 3, none⟩ = some (.int .i64 0) := (hb.alloc _).cell 3; have cP2_4 : (w5.alloc (.cells #[.int .u64 7, .int .i64 0, .int .i64 1, .int .i64 1, .int .u64 0, .int .i64 12, .int .i64 20, .int .i64 32, .int .i64 1] 74)).cell? ⟨w4.heap.size, 4, none⟩ = some (.int .u64 0) := (hb.alloc _).cell 4; have cP2_5 : (w5.alloc (.cells #[.int .u64 7, .int .i64 0, .int .i64 1, .int .i64 1, .int .u64 0, .int .i64 12, .int .i64 20, .int .i64 32, .int .i64 1] 74)).cell? ⟨w4.heap.size, 5, none⟩ = some (.int .i64 0) := (hb.alloc _).cell 5; have cP2_6 : (w5.alloc (.cells #[.int .u64 7, .int .i64 0, .int .i64 1, .int .i64 1, .int .u64 0, .int .i64 12, .int .i64 20, .int .i64 32, .int .i64 1] 74)).cell? ⟨w4.heap.size, 6, none⟩ = some (.int .i64 10) := (hb.alloc _).cell 6; have cP2_7 : (w5.alloc (.cells #[.int .u64 7, .int .i64 0, .int .i64 1, .int .i64 1, .int .u64 0, .int .i64 12, .int .i64 20, .int .i64 32, .int .i64 1] 74)).cell? ⟨w4.heap.size, 7, none⟩ = some (.int .i64 10) := (hb.alloc _).cell 7; have cP2_8 : (w5.alloc (.cells #[.int .u64 7, .int .i64 0, .int .i64 1, .int .i64 1, .int .u64 0, .int .i64 12, .int .i64 20, .int .i64 32, .int .i64 1] 74)).cell? ⟨w4.heap.size, 8, none⟩ = some (.int .i64 0) := (hb.alloc _).cell 8; have HBP2_5 := Lib.hid hb; clear hb; have hnP1_5 : ¬ w3.heap.size = w5.heap.size := (by omega); have hnP2_5 : ¬ w4.heap.size = w5.heap.size := (by omega); have HK5 := Lib.hid ck; clear ck; have HL5 := Lib.hid ((HL4.out.touch ((Touch.refl (fun _ => False) w4).alloc (.cells #[.int .u64 7, .int .i64 0, .int .i64 1, .int .i64 0, .int .u64 0, .int .i64 0, .int .i64 10, .int .i64 10, .int .i64 0] 74)) (fun _ _ e => e)).touch t5 (fun q hq e => by omega)); clear t5)
    | (go_at_call 49; have HM4 := HT3; go_must (refine ((HO.out _ _ _ _ _ _ _ _ (by exact (HK3.out.none ((Touch.refl (fun _ => False) w3).alloc (.cells #[.int .i64 0, .slice (some ⟨g3, 0, none⟩) 2 2, .int .i64 2, .int .i64 5] 28)))) (by exact (HL3.out.touch ((Touch.refl (fun _ => False) w3).alloc (.cells #[.int .i64 0, .slice (some ⟨g3, 0, none⟩) 2 2, .int .i64 2, .int .i64 5] 28)) (fun _ _ e => e))))).mono ?_); rintro e w4 ⟨rfl, ck, t4⟩; have hz4 := t4.size; (try simp at hz4); have HT4 := Lib.hid ((HT3.out.alloc (.cells #[.int .i64 0, .slice (some ⟨g3, 0, none⟩) 2 2, .int .i64 2, .int .i64 5] 28)).trans t4 (fun q hq e => by omega)); have hb := t4.blk (Blk.new w3 28 #[.int .i64 0, .slice (some ⟨g3, 0, none⟩) 2 2, .int .i64 2, .int .i64 5]) (by omega); have cP1_0 : (w4.alloc (.cells #[.int .u64 7, .int .i64 0, .int .i64 1, .int .i64 0, .int .u64 0, .int .i64 0, .int .i64 10, .int .i64 10, .int .i64 0] 74)).cell? ⟨w3.heap.size, 0, none⟩ = some (.int .i64 0) := (hb.alloc _).cell 0; have cP1_1 : (w4.alloc (.cells #[.int .u64 7, .int .i64 0, .int .i64 1, .int .i64 0, .int .u64 0, .int .i64 0, .int .i64 10, .int .i64 10, .int .i64 0] 74)).cell? ⟨w3.heap.size, 1, none⟩ = some (.slice (some ⟨g3, 0, none⟩) 2 2) := (hb.alloc _).cell 1; have cP1_2 : (w4.alloc (.cells #[.int .u64 7, .int .i64 0, .int .i64 1, .int .i64 0, .int .u64 0, .int .i64 0, .int .i64 10, .int .i64 10, .int .i64 0] 74)).cell? ⟨w3.heap.size, 2, none⟩ = some (.int .i64 2) := (hb.alloc _).cell 2; have cP1_3 : (w4.alloc (.cells #[.int .u64 7, .int .i64 0, .int .i64 1, .int .i64 0, .int .u64 0, .int .i64 0, .int .i64 10, .int .i64 10, .int .i64 0] 74)).cell? ⟨w3.heap.size, 3, none⟩ = some (.int .i64 5) := (hb.alloc _).cell 3; have HBP1_4 := Lib.hid hb; clear hb; have hnP1_4 : ¬ w3.heap.size = w4.heap.size := (by omega); have HK4 := Lib.hid ck; clear ck; have HL4 := Lib.hid ((HL3.out.touch ((Touch.refl (fun _ => False) w3).alloc (.cells #[.int .i64 0, .slice (some ⟨g3, 0, none⟩) 2 2, .int .i64 2, .int .i64 5] 28)) (fun _ _ e => e)).touch t4 (fun q hq e => by omega)); clear t4)
    | (go_at_call 86; have HM3 := HT2; go_must (refine ((plain_any _)).mono ?_); rintro e w3 ⟨g3, rfl, hr, t3⟩; have hz3 := t3.size; (try simp at hz3); have HT3 := Lib.hid ((HT2.out).trans t3 (fun _ _ e => e)); have HK3 := Lib.hid ((HK2.out.none ((Touch.refl (fun _ => False) w2))).none t3); have HL3 := Lib.hid hr; clear hr; clear t3)
    | (go_at_call 26; have HM2 := HT1; go_must (refine ((HN.out _ _ _ (by exact HR.out))).mono ?_); rintro e w2 ⟨k, a, p, b, rfl, ck, b1, b2, t2⟩; have hz2 := t2.size; (try simp at hz2); have HT2 := Lib.hid ((HT1.out).trans t2 (fun _ _ e => e)); have HK2 := Lib.hid ck; have hbl : w.heap.size + 0 ≤ b := (by have := b1; omega); have hbh : b < w2.heap.size := ck.bl; clear ck b1 b2; clear t2)
    | (go_at_call 85; go_must (refine ((always_any _)).mono ?_); rintro e w1 ⟨g, rfl, hr, t1⟩; have hz1 := t1.size; (try simp at hz1); have HT1 := Lib.hid ((HT0.out).trans t1 (fun _ _ e => e)); have HR := Lib.hid hr; clear hr; clear t1))
  go_ret
  exact ⟨rfl, HT6.out.alloc _⟩
end Go.Proofs.Ytcblbjhhlnmkjaa
end

section
namespace Go.Proofs.Ytcblbjhhlnmkjaa
open Go.RowKit
set_option maxHeartbeats 4000000
set_option maxRecDepth 100000
set_option linter.unusedVariables false

theorem ttk_any (t : TkV) (w : World) (h : t.ok) :
    Calls Try.prog 38 #[.agg #[.int .u64 t.id, .int .i64 t.contract, .int .i64 t.state, .int .i64 t.level, .int .u64 t.gen, .int .i64 t.from_, .int .i64 t.left, .int .i64 t.due, .int .i64 t.told]] w fun e w' => e = .returned (.bool (tkSound t)) ∧ Touch (fun _ => False) w w' := by
  obtain ⟨id, con, st, lev, gen, fr, le, du, to_⟩ := t
  obtain ⟨b1, b2, b3, b4, b5, b6⟩ := h
  simp only at b1 b2 b3 b4 b5 b6 ⊢
  obtain ⟨b, hb⟩ : ∃ b, b = tkSound ⟨id, con, st, lev, gen, fr, le, du, to_⟩ := ⟨_, rfl⟩
  rw [← hb]
  have HS := Lib.hid (hb.trans (show tkSound ⟨id, con, st, lev, gen, fr, le, du, to_⟩ = (decide (0 ≤ con ∧ con < 16 ∧ 0 ≤ lev ∧ lev < 6 ∧ 0 ≤ to_ ∧ to_ ≤ 2147483648 ∧ gen ≤ 1152921504606846976) && (if st = 1 then decide (gen ≠ 0 ∧ 1 ≤ le ∧ 0 ≤ fr ∧ du ≤ 1125899906842624 ∧ fr ≤ du ∧ le ≤ du - fr) else if st = 2 then decide (gen = 0 ∧ du = 0 ∧ 1 ≤ le ∧ le ≤ 1125899906842624 ∧ 0 ≤ fr ∧ fr ≤ 1125899906842624) else decide (st = 3 ∨ st = 4) && decide (gen = 0 ∧ fr = 0 ∧ le = 0 ∧ du = 0))) from rfl))
  clear hb
  by_cases s1 : st = 1
  · subst s1
    have HS := Lib.hid (HS.out.trans (show _ = (decide (0 ≤ con ∧ con < 16 ∧ 0 ≤ lev ∧ lev < 6 ∧ 0 ≤ to_ ∧ to_ ≤ 2147483648 ∧ gen ≤ 1152921504606846976) && decide (gen ≠ 0 ∧ 1 ≤ le ∧ 0 ≤ fr ∧ du ≤ 1125899906842624 ∧ fr ≤ du ∧ le ≤ du - fr)) by rw [if_pos rfl]))
    go_enter Try.func38, Try.ntmps38
    go_wp2_with (go_at_call 94; go_must (refine (instant_any _ _).mono ?_); rintro e w1 ⟨rfl, rfl⟩)
    all_goals (
      go_ret
      refine ⟨ret_bool ?_, ?_⟩
      rotate_left
      · first | exact (Touch.refl _ w).alloc _ | exact (((Touch.refl (fun _ => False) w).alloc _).trans (((Touch.refl (fun q => q = w.heap.size) _).set (fun _ => rfl) _).set (fun _ => rfl) _) (fun q hq e => by omega))
      rw [HS.out]
      by_cases hh : 0 ≤ con ∧ con < 16 ∧ 0 ≤ lev ∧ lev < 6 ∧ 0 ≤ to_ ∧ to_ ≤ 2147483648 ∧ gen ≤ 1152921504606846976
      · rw [decide_eq_true hh, Bool.true_and]
        all_goals (rw [Bool.eq_iff_iff])
        all_goals first | (simp; done) | (simp; omega) | omega | (simp only [Bool.not_eq_true', Bool.not_eq_false', decide_eq_true_eq, decide_eq_false_iff_not] at *; simp; omega) | (simp [wrap64]; omega)
      · rw [decide_eq_false hh, Bool.false_and]
        all_goals first | rfl | (exfalso; omega))
  by_cases s2 : st = 2
  · subst s2
    have HS := Lib.hid (HS.out.trans (show _ = (decide (0 ≤ con ∧ con < 16 ∧ 0 ≤ lev ∧ lev < 6 ∧ 0 ≤ to_ ∧ to_ ≤ 2147483648 ∧ gen ≤ 1152921504606846976) && decide (gen = 0 ∧ du = 0 ∧ 1 ≤ le ∧ le ≤ 1125899906842624 ∧ 0 ≤ fr ∧ fr ≤ 1125899906842624)) by rw [if_neg (by decide), if_pos rfl]))
    go_enter Try.func38, Try.ntmps38
    go_wp2_with (go_at_call 94; go_must (refine (instant_any _ _).mono ?_); rintro e w1 ⟨rfl, rfl⟩)
    all_goals (
      go_ret
      refine ⟨ret_bool ?_, ?_⟩
      rotate_left
      · first | exact (Touch.refl _ w).alloc _ | exact (((Touch.refl (fun _ => False) w).alloc _).trans (((Touch.refl (fun q => q = w.heap.size) _).set (fun _ => rfl) _).set (fun _ => rfl) _) (fun q hq e => by omega))
      rw [HS.out]
      by_cases hh : 0 ≤ con ∧ con < 16 ∧ 0 ≤ lev ∧ lev < 6 ∧ 0 ≤ to_ ∧ to_ ≤ 2147483648 ∧ gen ≤ 1152921504606846976
      · rw [decide_eq_true hh, Bool.true_and]
        all_goals (rw [Bool.eq_iff_iff])
        all_goals first | (simp; done) | (simp; omega) | omega | (simp only [Bool.not_eq_true', Bool.not_eq_false', decide_eq_true_eq, decide_eq_false_iff_not] at *; simp; omega) | (simp [wrap64]; omega)
      · rw [decide_eq_false hh, Bool.false_and]
        all_goals first | rfl | (exfalso; omega))
  by_cases s3 : st = 3
  · subst s3
    have HS := Lib.hid (HS.out.trans (show _ = (decide (0 ≤ con ∧ con < 16 ∧ 0 ≤ lev ∧ lev < 6 ∧ 0 ≤ to_ ∧ to_ ≤ 2147483648 ∧ gen ≤ 1152921504606846976) && decide (gen = 0 ∧ fr = 0 ∧ le = 0 ∧ du = 0)) by rw [if_neg (by decide), if_neg (by decide), decide_eq_true (show (3 : Int) = 3 ∨ (3 : Int) = 4 by decide), Bool.true_and]))
    go_enter Try.func38, Try.ntmps38
    go_wp2_with (go_at_call 94; go_must (refine (instant_any _ _).mono ?_); rintro e w1 ⟨rfl, rfl⟩)
    all_goals (
      go_ret
      refine ⟨ret_bool ?_, ?_⟩
      rotate_left
      · first | exact (Touch.refl _ w).alloc _ | exact (((Touch.refl (fun _ => False) w).alloc _).trans (((Touch.refl (fun q => q = w.heap.size) _).set (fun _ => rfl) _).set (fun _ => rfl) _) (fun q hq e => by omega))
      rw [HS.out]
      by_cases hh : 0 ≤ con ∧ con < 16 ∧ 0 ≤ lev ∧ lev < 6 ∧ 0 ≤ to_ ∧ to_ ≤ 2147483648 ∧ gen ≤ 1152921504606846976
      · rw [decide_eq_true hh, Bool.true_and]
        all_goals (rw [Bool.eq_iff_iff])
        all_goals first | (simp; done) | (simp; omega) | omega | (simp only [Bool.not_eq_true', Bool.not_eq_false', decide_eq_true_eq, decide_eq_false_iff_not] at *; simp; omega) | (simp [wrap64]; omega)
      · rw [decide_eq_false hh, Bool.false_and]
        all_goals first | rfl | (exfalso; omega))
  by_cases s4 : st = 4
  · subst s4
    have HS := Lib.hid (HS.out.trans (show _ = (decide (0 ≤ con ∧ con < 16 ∧ 0 ≤ lev ∧ lev < 6 ∧ 0 ≤ to_ ∧ to_ ≤ 2147483648 ∧ gen ≤ 1152921504606846976) && decide (gen = 0 ∧ fr = 0 ∧ le = 0 ∧ du = 0)) by rw [if_neg (by decide), if_neg (by decide), decide_eq_true (show (4 : Int) = 3 ∨ (4 : Int) = 4 by decide), Bool.true_and]))
    go_enter Try.func38, Try.ntmps38
    go_wp2_with (go_at_call 94; go_must (refine (instant_any _ _).mono ?_); rintro e w1 ⟨rfl, rfl⟩)
    all_goals (
      go_ret
      refine ⟨ret_bool ?_, ?_⟩
      rotate_left
      · first | exact (Touch.refl _ w).alloc _ | exact (((Touch.refl (fun _ => False) w).alloc _).trans (((Touch.refl (fun q => q = w.heap.size) _).set (fun _ => rfl) _).set (fun _ => rfl) _) (fun q hq e => by omega))
      rw [HS.out]
      by_cases hh : 0 ≤ con ∧ con < 16 ∧ 0 ≤ lev ∧ lev < 6 ∧ 0 ≤ to_ ∧ to_ ≤ 2147483648 ∧ gen ≤ 1152921504606846976
      · rw [decide_eq_true hh, Bool.true_and]
        all_goals (rw [Bool.eq_iff_iff])
        all_goals first | (simp; done) | (simp; omega) | omega | (simp only [Bool.not_eq_true', Bool.not_eq_false', decide_eq_true_eq, decide_eq_false_iff_not] at *; simp; omega) | (simp [wrap64]; omega)
      · rw [decide_eq_false hh, Bool.false_and]
        all_goals first | rfl | (exfalso; omega))
  have e1 : (st == 1) = false := by simpa using s1
  have e2 : (st == 2) = false := by simpa using s2
  have e3 : (st == 3) = false := by simpa using s3
  have e4 : (st == 4) = false := by simpa using s4
  have HN := Lib.hid (And.intro s1 (And.intro s2 (And.intro s3 s4)))
  have HS := Lib.hid (HS.out.trans (show _ = (decide (0 ≤ con ∧ con < 16 ∧ 0 ≤ lev ∧ lev < 6 ∧ 0 ≤ to_ ∧ to_ ≤ 2147483648 ∧ gen ≤ 1152921504606846976) && false) by rw [if_neg HN.out.1, if_neg HN.out.2.1, decide_eq_false (show ¬ (st = 3 ∨ st = 4) from fun h => h.elim HN.out.2.2.1 HN.out.2.2.2), Bool.false_and]))
  clear s1 s2 s3 s4
  go_enter Try.func38, Try.ntmps38
  go_wp2_with (go_at_call 94; go_must (refine (instant_any _ _).mono ?_); rintro e w1 ⟨rfl, rfl⟩)
  all_goals (
    go_ret
    refine ⟨ret_bool ?_, ?_⟩
    rotate_left
    · first | exact (Touch.refl _ w).alloc _ | exact (((Touch.refl (fun _ => False) w).alloc _).trans (((Touch.refl (fun q => q = w.heap.size) _).set (fun _ => rfl) _).set (fun _ => rfl) _) (fun q hq e => by omega))
    rw [HS.out]
    by_cases hh : 0 ≤ con ∧ con < 16 ∧ 0 ≤ lev ∧ lev < 6 ∧ 0 ≤ to_ ∧ to_ ≤ 2147483648 ∧ gen ≤ 1152921504606846976
    · rw [decide_eq_true hh, Bool.true_and]
      all_goals (rw [Bool.eq_iff_iff])
      all_goals first | (simp; done) | (simp; omega) | omega | (simp only [Bool.not_eq_true', Bool.not_eq_false', decide_eq_true_eq, decide_eq_false_iff_not] at *; simp; omega) | (simp [wrap64]; omega)
    · rw [decide_eq_false hh, Bool.false_and]
      all_goals first | rfl | (exfalso; omega))
end Go.Proofs.Ytcblbjhhlnmkjaa
end

section
namespace Go.Proofs.Ytcblbjhhlnmkjaa
open Go.RowKit
set_option maxHeartbeats 4000000
set_option maxRecDepth 100000
set_option linter.unusedVariables false

def tkNone (t : TkV) : Bool := decide (t.id = 0 ∧ t.contract = 0 ∧ t.state = 0 ∧ t.level = 0 ∧ t.gen = 0 ∧ t.from_ = 0 ∧ t.left = 0 ∧ t.due = 0 ∧ t.told = 0)
def rpSound (code time : Int) (t : TkV) (n : Nat) (dead : Int) : Bool := decide (0 ≤ code ∧ code ≤ 99 ∧ 0 ≤ time ∧ time ≤ 1125899906842624 ∧ n ≤ 64 ∧ 0 ≤ dead ∧ dead ≤ 128) && (tkNone t || tkSound t)
end Go.Proofs.Ytcblbjhhlnmkjaa
end

section
namespace Go.Proofs.Ytcblbjhhlnmkjaa
open Go.RowKit
set_option maxHeartbeats 4000000
set_option maxRecDepth 100000
set_option linter.unusedVariables false

theorem eq_tk (id : Nat) (con st lev : Int) (gen : Nat) (fr le du to_ : Int) (w : World) :
    (binOp .eql 74 (.agg #[.int .u64 id, .int .i64 con, .int .i64 st, .int .i64 lev, .int .u64 gen, .int .i64 fr, .int .i64 le, .int .i64 du, .int .i64 to_]) (.agg #[.int .u64 0, .int .i64 0, .int .i64 0, .int .i64 0, .int .u64 0, .int .i64 0, .int .i64 0, .int .i64 0, .int .i64 0])).run Try.prog w =
      .ok (.bool (tkNone ⟨id, con, st, lev, gen, fr, le, du, to_⟩)) w := by
  simp [go_sem]
  simp only [tkNone]
  repeat' split
  all_goals simp_all
end Go.Proofs.Ytcblbjhhlnmkjaa
end

section
namespace Go.Proofs.Ytcblbjhhlnmkjaa
open Go.RowKit
set_option maxHeartbeats 2000000
set_option maxRecDepth 100000

/-- A row of its own that is handed back. -/
def NewOwn (w : World) (xs : List UInt8) (e : Ending) (w' : World) : Prop :=
  ∃ v k, e = .returned v ∧ Own w' 5 1 v (some k) xs.length (xs.map B8) ∧ w.heap.size ≤ k ∧ Touch (fun _ => False) w w'

theorem Rd.src {w : World} {F : Nat → Prop} {A : Option Addr} {n c : Nat} {xs : List UInt8} (hr : Rd w F A n (xs.map B8)) (hA : A = none → c = 0) : Src Try.prog 1 33 (.slice A n c) n (xs.map B8) w := by
  have hn : n = xs.length := by have := hr.1; simpa using this.symm
  subst hn
  rcases A with _ | ad
  · have h0 : xs = [] := by
      rcases xs with _ | ⟨x, xs⟩
      · rfl
      · obtain ⟨_, _, e, _⟩ := hr.2 (by simp); cases e
    subst h0
    rw [hA rfl]
    exact Src.ofNil w Try.underlying33 0
  · exact Src.ofSlice w Try.underlying33 ad _ _ _ (by simp) hr.add (B8_one xs)
theorem Own.src {w : World} {v : Value} {r : Option Nat} {n : Nat} {xs : List UInt8} (h : Own w 5 1 v r n (xs.map B8)) : Src Try.prog 1 33 v n (xs.map B8) w := by
  obtain ⟨A, c, rfl, _, _, hA, hr⟩ := h.rd
  exact hr.src hA

def low (n : Nat) : Nat → List UInt8
  | 0 => []
  | k + 1 => UInt8.ofNat (n / 256 ^ k % 256) :: low n k
theorem low_length (n : Nat) : ∀ k, (low n k).length = k
  | 0 => rfl
  | k + 1 => by simp [low, low_length n k]
theorem low_getD (n : Nat) : ∀ k j, j < k → (low n k).getD j 0 = UInt8.ofNat (n / 256 ^ (k - 1 - j) % 256)
  | 0, j, h => by omega
  | k + 1, 0, _ => by simp [low]
  | k + 1, j + 1, h => by
    have := low_getD n k j (by omega)
    simp only [low, List.getD_cons_succ]
    rw [this]
    congr 4
    omega
theorem dig_low (n k : Nat) (hn : n < 256 ^ 8) (hk : (dig n).length = k) : low n k = dig n := by
  apply List.ext_getElem?
  intro j
  by_cases hj : j < k
  · have h1 := low_getD n k j hj
    have h2 := dig_getD n j hn (by omega)
    rw [hk] at h2
    rw [← h1] at h2
    simp only [List.getD_eq_getElem?_getD] at h2
    have a1 := List.getElem?_eq_getElem (l := low n k) (i := j) (by rw [low_length]; exact hj)
    have a2 := List.getElem?_eq_getElem (l := dig n) (i := j) (by rw [hk]; exact hj)
    rw [a1, a2] at h2
    simp at h2
    rw [a1, a2, h2]
  · rw [List.getElem?_eq_none (by rw [low_length]; omega), List.getElem?_eq_none (by omega)]

theorem fnum_any (n : Nat) (w : World) (hn : n < 256 ^ 8) :
    Calls Try.prog 61 #[.int .u64 n] w (NewOwn w (encN 0 n)) := by
  have hnb : n < 18446744073709551616 := by simpa using hn
  obtain ⟨i0, hi, hz0, hz1, hz2⟩ := info_parts info8
  have HN := Lib.hid hn
  clear hn
  go_enter Try.func61, Try.ntmps61
  go_wp2_with fail
  go_loopw [0, 3] (fun x s wr => ∃ k : Nat, k ≤ 8 ∧ x = .int .u64 (n / 256 ^ k : Nat) ∧ (k = 0 ∨ n / 256 ^ (k - 1) ≠ 0) ∧ (∃ r, Own wr 5 1 s r k ((low n k).map B8)) ∧ Touch (fun _ => False) w wr) (fun x _ _ => (intOf x).toNat)
  case atStart => exact ⟨0, by omega, by simp, .inl rfl, ⟨none, Own.nil _ _ _⟩, Touch.refl _ _⟩
  case round =>
    obtain ⟨k, hk, rfl, hk1, hM, hT⟩ := hrel
    have HM := Lib.hid hM
    have HT := Lib.hid hT
    obtain ⟨r, ho⟩ := hM
    obtain ⟨A0, c0, rfl, -, -⟩ := ho.form
    have HO := Lib.hid ho
    clear ho hT HM
    by_cases hx : n / 256 ^ k = 0
    · have HS := Lib.hid (dig_size n k HN.out hk hx hk1)
      clear hk1
      rw [hx]
      clear hx
      have HTl := Lib.hid ((Touch.refl (fun _ => False) wr).alloc (.cells #[.int .u8 (k : Int)] 5))
      have HOL := Lib.hid (Own.lit wr 5 1 #[.int .u8 (k : Int)] 1 (by unfold maxLen; omega) rfl)
      go_wp2_with (
        at_builtin
        go_must (refine wpList_own_append rfl _ _ 33 33 rfl 5 i0 (.int .u8 0) 1 1 Try.underlying33 hi hz0 hz1 hz2 rfl _ (some wr.heap.size) 1 [.int .u8 (k : Int)] rfl (by exact HOL.out) _ k ((low n k).map B8) rfl (by exact (HO.out.touch HTl.out (fun _ _ e => e)).src) (by simp only [maxLen]; omega) (by omega) ?_)
        intro v1 r1 w1 ho1 ht1 hr1
        have HR := Lib.hid (And.intro ho1 (And.intro ht1 hr1))
        clear ho1 ht1 hr1)
      go_ret
      obtain ⟨ho1, ht1, hr1⟩ := HR.out
      have hs := HT.out.size
      have hB : B8 (UInt8.ofNat (0 + k)) = .int .u8 (k : Int) := by
        rw [B8, UInt8.toNat_ofNat']; congr 1; omega
      have hx : [Value.int .u8 (k : Int)] ++ (low n k).map B8 = (encN 0 n).map B8 := by
        rw [encN, HS.out, List.map_cons, hB, dig_low n k HN.out HS.out]; rfl
      have hl : 1 + k = (encN 0 n).length := by rw [encN, List.length_cons, HS.out]; omega
      have tt : Touch (fun _ => False) w w1 := (HT.out.trans HTl.out (fun _ _ e => e)).trans ht1 (fun q hq e => by injection e with e; omega)
      rw [hx, hl] at ho1
      rcases hr1 with e | ⟨q, e, hq⟩
      · exact ⟨v1, wr.heap.size, rfl, by rw [← e]; exact ho1, hs, tt⟩
      · exact ⟨v1, q, rfl, by rw [← e]; exact ho1, by simp at hq; omega, tt⟩
    · have hk8 : k < 8 := by
        rcases Nat.lt_or_ge k 8 with h | h
        · exact h
        · exfalso
          have : k = 8 := by omega
          subst this
          exact hx (Nat.div_eq_of_lt HN.out)
      have HD := Lib.hid (show n / 256 ^ (k + 1) = n / 256 ^ k / 256 by rw [Nat.pow_succ, Nat.div_div_eq_div_mul])
      have hxp : 0 < n / 256 ^ k := Nat.pos_of_ne_zero hx
      have hxl : n / 256 ^ k < 18446744073709551616 := Nat.lt_of_le_of_lt (Nat.div_le_self _ _) hnb
      have HLow := Lib.hid (show (low n (k + 1)).map B8 = [.int .u8 ((n / 256 ^ k % 256 : Nat) : Int)] ++ (low n k).map B8 by
        rw [low, List.map_cons, B8, UInt8.toNat_ofNat']; simp)
      clear hx hk1
      generalize hxx : n / 256 ^ k = x at *
      have HX := Lib.hid hxx
      clear hxx
      have hx256 : x % 256 < 256 := Nat.mod_lt _ (by omega)
      have HTl := Lib.hid ((Touch.refl (fun _ => False) wr).alloc (.cells #[.int .u8 ((x : Int) % 256)] 5))
      have HOL := Lib.hid (Own.lit wr 5 1 #[.int .u8 ((x : Int) % 256)] 1 (by unfold maxLen; omega) rfl)
      go_wp2_with (
        at_builtin
        go_must (refine wpList_own_append rfl _ _ 33 33 rfl 5 i0 (.int .u8 0) 1 1 Try.underlying33 hi hz0 hz1 hz2 rfl _ (some wr.heap.size) 1 [.int .u8 ((x : Int) % 256)] rfl (by exact HOL.out) _ k ((low n k).map B8) rfl (by exact (HO.out.touch HTl.out (fun _ _ e => e)).src) (by simp only [maxLen]; omega) (by omega) ?_)
        intro v1 r1 w1 ho1 ht1 hr1
        have HR := Lib.hid (And.intro ho1 (And.intro ht1 hr1))
        clear ho1 ht1 hr1)
      go_roundw
      case rel =>
        obtain ⟨ho1, ht1, hr1⟩ := HR.out
        refine ⟨k + 1, by omega, by rw [HD.out]; go_num, .inr (by rw [Nat.add_sub_cancel, HX.out]; omega), ⟨r1, ?_⟩, (HT.out.trans HTl.out (fun _ _ e => e)).trans ht1 (fun q hq e => ?_)⟩
        · rw [HLow.out, Nat.add_comm k 1]; exact ho1
        · have := HT.out.size; injection e with e; omega
      case measure => simp [intOf]; omega

theorem Own.store0 {w : World} {e : TypeId} {g n : Nat} {v x : Value} {xs : List Value} (h : Own w e 1 v (some g) n (x :: xs)) (u : Value) : Own (w.setCell ⟨g, 0, none⟩ u) e 1 v (some g) n (u :: xs) := by
  obtain ⟨hl, h2⟩ := h
  refine ⟨by simpa using hl, ?_⟩
  rcases h2 with ⟨_, _, hr⟩ | ⟨g', cap, cur, hr, hv, hb, hn, hc, hs, ht⟩
  · cases hr
  · injection hr with hr; subst hr
    refine .inr ⟨g, cap, _, rfl, hv, hb.set_ 0 u, hn, hc, by simpa using hs, ?_⟩
    have hn0 : 0 < n := by simp at hl; omega
    obtain ⟨m, rfl⟩ : ∃ m, n = m + 1 := ⟨n - 1, by omega⟩
    simp only [Nat.mul_one] at *
    rw [Array.toList_setIfInBounds]
    rcases hcl : cur.toList with _ | ⟨y, ys⟩
    · rw [hcl] at ht; simp at ht
    · rw [hcl] at ht
      simp at ht ⊢
      exact ht.2

theorem fint_any (i : Int) (w : World) (h1 : -9223372036854775808 ≤ i) (h2 : i ≤ 9223372036854775807) :
    Calls Try.prog 64 #[.int .i64 i] w (NewOwn w (encI i)) := by
  by_cases hneg : i < 0
  · have HE2 := Lib.hid (show encI i = encN 128 (-1 - i).toNat by simp [encI, hneg])
    obtain ⟨m, hm⟩ := Int.eq_ofNat_of_zero_le (show 0 ≤ -1 - i by omega)
    have HMN := Lib.hid (show (-1 - i).toNat = m by omega)
    have HC := Lib.hid (fnum_any m w (by omega))
    have hdl := dig_le m
    go_enter Try.func64, Try.ntmps64
    go_wp2_with (
      go_at_call 61
      go_must (refine HC.out.mono ?_)
      rintro e w1 ⟨v, k, rfl, ho, hk, ht⟩
      obtain ⟨g, cap, cur, hr, hv, hb, hn, hc, hs, hx⟩ := ho.2.resolve_left (fun ⟨_, hn, hr⟩ => by cases hr)
      injection hr with hr
      subst hr hv
      have hf0 := hb.frozen 0
      have hc0 := ho.cellAt 0 (by simp [encN])
      have hen : (encN 0 m).length = (dig m).length + 1 := by simp [encN]
      have hbb : B8 (UInt8.ofNat (0 + (dig m).length)) = .int .u8 ((dig m).length : Int) := by
        rw [B8, UInt8.toNat_ofNat']; congr 1; omega
      rw [encN, List.map_cons, hbb] at hc0
      simp at hc0
      have HO := Lib.hid ho
      have HEN := Lib.hid hen
      have hnz : 0 < (encN 0 m).length := by omega
      clear ho hen hbb hx hs)
    go_ret
    have ho := HO.out
    have ho3 : Own w1 5 1 (.slice (some ⟨k, 0, none⟩) (encN 0 m).length cap) (some k) (encN 0 m).length ((B8 (UInt8.ofNat (0 + (dig m).length))) :: (dig m).map B8) := by
      rw [encN, List.map_cons] at ho; exact ho
    have ho4 := ho3.store0 (.int .u8 (((dig m).length : Int) + 128))
    have hbb : B8 (UInt8.ofNat (128 + (dig m).length)) = .int .u8 (((dig m).length : Int) + 128) := by
      rw [B8, UInt8.toNat_ofNat']; congr 1; omega
    have hl : (encI i).length = (encN 0 m).length := by rw [HE2.out, HMN.out]; simp [encN]
    have hx : (encI i).map B8 = .int .u8 (((dig m).length : Int) + 128) :: (dig m).map B8 := by rw [HE2.out, HMN.out, encN, List.map_cons, hbb]
    refine ⟨.slice (some ⟨k, 0, none⟩) (encN 0 m).length cap, k, rfl, ?_, hk, ht.set (fun hlt => by omega) _⟩
    rw [hl, hx]
    exact ho4
  · have HE2 := Lib.hid (show encI i = encN 0 i.toNat by simp [encI, hneg])
    obtain ⟨m, rfl⟩ := Int.eq_ofNat_of_zero_le (show 0 ≤ i by omega)
    have HC := Lib.hid (fnum_any m w (by omega))
    go_enter Try.func64, Try.ntmps64
    go_wp2_with (
      go_at_call 61
      go_must (refine HC.out.mono ?_)
      rintro e w1 ⟨v, k, rfl, ho, hk, ht⟩)
    go_ret
    rw [HE2.out, Int.toNat_natCast]
    exact ⟨v, k, rfl, ho, hk, ht⟩

theorem byteCells_eq (s : ByteArray) : Go.byteCells s = s.data.toList.map B8 := rfl

end Go.Proofs.Ytcblbjhhlnmkjaa
end
