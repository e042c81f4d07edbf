/- law15: light, Always, lives; law14's Plain. (written by genchE.py) -/
import Derived.Test.YtcblbjhhlnmkjaaVChB
import Derived.Test.YtcblbjhhlnmkjaaVCalX
namespace Go.Proofs.Ytcblbjhhlnmkjaa
open Go.RowKit Cal
set_option maxHeartbeats 4000000
set_option maxRecDepth 100000
set_option linter.unusedVariables false

theorem light15_any (A B D : Option Addr) (k m l n n2 n3 : Nat) (o cal rt bk : Int) (w : World) :
    Calls Try.prog 23 #[.agg #[.int .i64 o, .slice B n k, .slice D n2 m], .agg #[.int .i64 cal, .slice A n3 l, .int .i64 rt, .int .i64 bk]] w fun e w' => e = .returned (.bool ((decide (n ≤ 60) && decide (n2 ≤ 60)) && decide (n3 ≤ 60))) ∧ Touch (fun _ => False) w w' := by
  have HT0 := Lib.hid (((Touch.refl (fun _ => False) w).alloc (.cells #[.int .i64 o, .slice B n k, .slice D n2 m] 25)).alloc (.cells #[.int .i64 cal, .slice A n3 l, .int .i64 rt, .int .i64 bk] 28))
  have HB1 := Lib.hid (show Blk ((w.alloc (.cells #[.int .i64 o, .slice B n k, .slice D n2 m] 25)).alloc (.cells #[.int .i64 cal, .slice A n3 l, .int .i64 rt, .int .i64 bk] 28)) (w.heap.size + 1) 28 #[.int .i64 cal, .slice A n3 l, .int .i64 rt, .int .i64 bk] by simpa using Blk.new (w.alloc (.cells #[.int .i64 o, .slice B n k, .slice D n2 m] 25)) 28 #[.int .i64 cal, .slice A n3 l, .int .i64 rt, .int .i64 bk])
  have HL := Lib.hid (fun w1 => light10_any B D k m n n2 o w1)
  have HV := Lib.hid (show decide (n3 ≤ 60) = decide ((n3 : Int) ≤ 60) by simp; omega)
  generalize (decide (n ≤ 60) && decide (n2 ≤ 60)) = v at *
  cases v
  · go_enter Try.func23, Try.ntmps23
    go_wp2_with (go_at_call 48; go_must (refine (HL.out _).mono ?_); rintro e w1 ⟨rfl, t1⟩; have HT1 := Lib.hid (HT0.out.trans t1 (fun _ _ e => e)); clear t1)
    go_ret
    exact ⟨rfl, HT1.out⟩
  · go_enter Try.func23, Try.ntmps23
    go_wp2_with (go_at_call 48; go_must (refine (HL.out _).mono ?_); rintro e w1 ⟨rfl, t1⟩; have HT1 := Lib.hid (HT0.out.trans t1 (fun _ _ e => e)); have hb := t1.blk HB1.out (fun e => e); have q0 := hb.cell 0; have q1 := hb.cell 1; have q2 := hb.cell 2; have q3 := hb.cell 3; simp at q0 q1 q2 q3; clear t1 hb)
    go_ret
    exact ⟨ret_bool (by rw [HV.out]; rfl), HT1.out⟩
def cA : Ca := ⟨0, [⟨0, 604800⟩], []⟩
theorem cA_ok : cA.Ok := ⟨by simp [cA], ⟨by simp [cA, Row], by simp [cA], by simp [cA]⟩, by simp [cA, Row], by simp [cA]⟩
def tP : Co := ⟨0, [⟨10, 0⟩, ⟨20, 1⟩], 2, 5⟩
theorem tP_good : goodB tP = true := by decide
theorem cA_due1 : cA.due 5 10 = (15, 0) := due_of cA (by decide) (by decide) ⟨by omega, by decide, by decide⟩ (by omega)
theorem cA_due2 : cA.due 100 7 = (107, 0) := due_of cA (by decide) (by decide) ⟨by omega, by decide, by decide⟩ (by omega)
theorem cA_rest : cA.rest 5 10 8 = (7, 0) := by
  have h : cA.el 5 8 = (3, 0) := by rw [el_ok cA (by decide) (by decide) (by omega)]; exact congrArg (fun x => (x, (0 : Int))) (by decide)
  rw [rest_ok cA (by omega) (by rw [h]), h]; rfl
theorem lv_first : firstV cA tP 5 = (⟨0, 5, 10, 15⟩, 0) := by
  rw [firstV, if_pos tP_good, begV, show bud tP 0 = 10 from rfl, cA_due1]; rfl
theorem lv_stand : standV cA ⟨0, 5, 10, 15⟩ 8 = (⟨0, 8, 7, 0⟩, 0) := by
  simp only [standV, cA_rest]; rfl
theorem lv_go : goV cA ⟨0, 8, 7, 0⟩ 100 = (⟨0, 100, 7, 107⟩, 0) := by
  simp only [goV, begV, cA_due2]; rfl
theorem SpR.newG {w : World} {F : Nat → Prop} (T : TypeId) (l : List Sp) (n : Nat) (hn : l.length = n) (g : Nat) (hg : w.heap.size = g) (hF : F g) (cs : Array Value) (hcs : cs = (l.flatMap spC).toArray) : SpR (w.alloc (.cells cs T)) F (some ⟨g, 0, none⟩) n l := by
  subst hg hcs
  refine ⟨hn, by rw [flat_len spC 2 l (fun a _ => sp_len a), hn], fun _ => ⟨w.heap.size, 0, rfl, by simp, hF, fun j u hj => ?_⟩⟩
  have := (Blk.new w T (l.flatMap spC).toArray).cell j
  rw [Nat.zero_add, this]; simpa using hj
/-- What Always answers: the calendar that is always open, its row new. -/
theorem always_any (w : World) : Calls Try.prog 85 #[] w fun e w' => ∃ g, e = .returned (.agg #[.int .i64 0, .slice (some ⟨g, 0, none⟩) 1 1, .slice none 0 0]) ∧ CaR w' (fun q => w.heap.size ≤ q) cA (some ⟨g, 0, none⟩) none ∧ Touch (fun _ => False) w w' := by
  have HT := Lib.hid (((Touch.refl (fun _ => False) w).alloc (.cells #[.int .i64 0, .slice (some ⟨w.heap.size + 1, 0, none⟩) 1 1, .slice none 0 0] 25)))
  go_enter Try.func85, Try.ntmps85
  go_wp2_with fail
  refine bodyPost_ret (v := .agg #[.int .i64 0, .slice (some ⟨w.heap.size + 1, 0, none⟩) 1 1, .slice none 0 0]) (by simp [results, Try.results85, go_sem]) rfl ?_
  exact ⟨w.heap.size + 1, rfl, ⟨SpR.newG _ cA.wk 1 rfl _ (by simp) (by omega) _ rfl, SpR.nil _ _ _⟩, HT.out.alloc _⟩
theorem plain_any (w : World) : Calls Try.prog 86 #[] w fun e w' => ∃ g, e = .returned (.agg #[.int .i64 0, .slice (some ⟨g, 0, none⟩) 2 2, .int .i64 2, .int .i64 5]) ∧ SpR w' (fun q => w.heap.size ≤ q ∧ q < w'.heap.size) (some ⟨g, 0, none⟩) 2 tP.lv ∧ Touch (fun _ => False) w w' := by
  have HT := Lib.hid (((Touch.refl (fun _ => False) w).alloc (.cells #[.int .i64 0, .slice (some ⟨w.heap.size + 1, 0, none⟩) 2 2, .int .i64 2, .int .i64 5] 28)))
  go_enter Try.func86, Try.ntmps86
  go_wp2_with fail
  refine bodyPost_ret (v := .agg #[.int .i64 0, .slice (some ⟨w.heap.size + 1, 0, none⟩) 2 2, .int .i64 2, .int .i64 5]) (by simp [results, Try.results86, go_sem]) rfl ?_
  refine ⟨w.heap.size + 1, rfl, ?_, HT.out.alloc _⟩
  exact (SpR.newG (F := fun q => q = w.heap.size + 1) _ tP.lv 2 rfl _ (by simp) rfl _ rfl).mono (fun q hq => by simp; omega)

theorem lives15_any (w : World) : Calls Try.prog 25 #[] w fun e w' => e = .returned (.bool true) ∧ Touch (fun _ => False) w w' := by
  have HN := Lib.hid (fun w1 A F (hh : CaR w1 F cA A none) => (cnew_yes F A none 1 0 cA w1 hh cA_ok : Calls Try.prog 26 #[.agg #[.int .i64 0, .slice A 1 1, .slice none 0 0]] w1 (NewCk w1 cA)))
  have HF := Lib.hid (fun k a p b G F A w1 (hh : CkAt w1 k a p b cA G) (hr : SpR w1 F A 2 tP.lv) => (lv_first ▸ kfirst_any k a p b cA G F A 2 tP 5 w1 hh hr : Calls Try.prog 32 #[.pointer (some ⟨k, 0, none⟩), .agg #[.int .i64 0, .slice A 2 2, .int .i64 2, .int .i64 5], .int .i64 5] w1 (CkS k a p b cA G (⟨0, 5, 10, 15⟩, 0) w1)))
  have HS := Lib.hid (fun k a p b G w1 (hh : CkAt w1 k a p b cA G) => (lv_stand ▸ kstand_any k a p b cA G ⟨0, 5, 10, 15⟩ 8 w1 hh (by decide) : Calls Try.prog 27 #[.pointer (some ⟨k, 0, none⟩), .agg #[.int .i64 0, .int .i64 5, .int .i64 10, .int .i64 15], .int .i64 8] w1 (CkS k a p b cA G (⟨0, 8, 7, 0⟩, 0) w1)))
  have HG := Lib.hid (fun k a p b G w1 (hh : CkAt w1 k a p b cA G) => (lv_go ▸ kgo_any k a p b cA G ⟨0, 8, 7, 0⟩ 100 w1 hh (by decide) : Calls Try.prog 29 #[.pointer (some ⟨k, 0, none⟩), .agg #[.int .i64 0, .int .i64 8, .int .i64 7, .int .i64 0], .int .i64 100] w1 (CkS k a p b cA G (⟨0, 100, 7, 107⟩, 0) w1)))
  go_enter Try.func25, Try.ntmps25
  go_wp2_with (first
    | (go_at_call 85; go_must (refine (always_any _).mono ?_); rintro e w1 ⟨g, rfl, hr, t1⟩; have HR := Lib.hid hr; have HT1 := Lib.hid t1; clear hr t1)
    | (go_at_call 26; go_must (refine (HN.out _ _ _ (by exact HR.out)).mono ?_); rintro e w2 ⟨k, a, p, b, rfl, ck, b1, b2, t2⟩; have HK2 := Lib.hid ck; have HT2 := Lib.hid (HT1.out.trans t2 (fun _ _ e => e)); have hbl : w.heap.size ≤ b := Nat.le_trans HT1.out.size b1; clear ck t2 b1)
    | (go_at_call 86; go_must (refine (plain_any _).mono ?_); rintro e w3 ⟨g3, rfl, hr, t3⟩; have HR3 := Lib.hid hr; have HK3 := Lib.hid (HK2.out.none t3); have HT3 := Lib.hid (HT2.out.trans t3 (fun _ _ e => e)); clear hr t3)
    | (go_at_call 32; go_must (refine (HF.out _ _ _ _ _ _ _ _ (by exact HK3.out) (by exact HR3.out)).mono ?_); rintro e w4 ⟨rfl, ck, t4⟩; have HK4 := Lib.hid (ck.none ((Touch.refl (fun _ => False) w4).alloc (.cells #[.int .i64 0, .int .i64 5, .int .i64 10, .int .i64 15] 48))); have HT4 := Lib.hid ((HT3.out.trans t4 (fun q hq e => by omega)).alloc (.cells #[.int .i64 0, .int .i64 5, .int .i64 10, .int .i64 15] 48)); have HB4 := Lib.hid (Blk.new w4 48 #[.int .i64 0, .int .i64 5, .int .i64 10, .int .i64 15]); have hb4 : b < w4.heap.size := ck.bl; clear ck t4)
    | (go_at_call 27; go_must (refine (HS.out _ _ _ _ _ _ (by exact HK4.out)).mono ?_); rintro e w5 ⟨rfl, ck, t5⟩; have HK5 := Lib.hid (ck.none ((Touch.refl (fun _ => False) w5).alloc (.cells #[.int .i64 0, .int .i64 8, .int .i64 7, .int .i64 0] 48))); have HT5 := Lib.hid ((HT4.out.trans t5 (fun q hq e => by omega)).alloc (.cells #[.int .i64 0, .int .i64 8, .int .i64 7, .int .i64 0] 48)); have HB5 := Lib.hid ((t5.blk HB4.out (by omega)).alloc (.cells #[.int .i64 0, .int .i64 8, .int .i64 7, .int .i64 0] 48)); have HC5 := Lib.hid (Blk.new w5 48 #[.int .i64 0, .int .i64 8, .int .i64 7, .int .i64 0]); have hb5 : b < w5.heap.size := ck.bl; have hz5 : w4.heap.size + 1 ≤ w5.heap.size := (by have := t5.size; simpa using this); clear ck t5)
    | (go_at_call 29; go_must (refine (HG.out _ _ _ _ _ _ (by exact HK5.out)).mono ?_); rintro e w6 ⟨rfl, ck, t6⟩; have HT6 := Lib.hid ((HT5.out.trans t6 (fun q hq e => by omega)).alloc (.cells #[.int .i64 0, .int .i64 100, .int .i64 7, .int .i64 107] 48)); have h5 := (t6.blk HB5.out (by omega)).alloc (.cells #[.int .i64 0, .int .i64 100, .int .i64 7, .int .i64 107] 48); have h6 := (t6.blk HC5.out (by omega)).alloc (.cells #[.int .i64 0, .int .i64 100, .int .i64 7, .int .i64 107] 48); have q0 : (w6.alloc (.cells #[.int .i64 0, .int .i64 100, .int .i64 7, .int .i64 107] 48)).cell? ⟨w4.heap.size, 3, none⟩ = some (.int .i64 15) := h5.cell 3; have q1 : (w6.alloc (.cells #[.int .i64 0, .int .i64 100, .int .i64 7, .int .i64 107] 48)).cell? ⟨w5.heap.size, 2, none⟩ = some (.int .i64 7) := h6.cell 2; have hz6 : w5.heap.size + 1 ≤ w6.heap.size := (by have := t6.size; simpa using this); have hn1 : ¬ w4.heap.size = w6.heap.size := (by omega); have hn2 : ¬ w5.heap.size = w6.heap.size := (by omega); clear ck t6 h5 h6))
  go_ret
  exact ⟨rfl, HT6.out⟩
end Go.Proofs.Ytcblbjhhlnmkjaa
