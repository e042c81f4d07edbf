/- What reply.Bytes and reply.Refused do; law19.lives. -/
import Derived.Test.YtecmbmfcooonnaaRepK
import Derived.Test.YtecmbmfcooonnaaRepM
import Derived.Test.YtecmbmfcooonnaaRepO
namespace Go.Proofs.Ytecmbmfcooonnaa
open Go.RowKit
set_option maxHeartbeats 4000000
set_option maxRecDepth 100000
set_option linter.unusedVariables false

/-- New bytes, and an error's number. -/
def TwoB (w : World) (xs : List UInt8) (n : Int) (e : Ending) (w' : World) : Prop :=
  ∃ A c, e = .returned (.tuple #[.slice A xs.length c, .int .i64 n]) ∧ xs.length ≤ c ∧ c ≤ maxLen ∧ Rd w' (fun k => w.heap.size ≤ k ∧ k < w'.heap.size) A xs.length (xs.map B8) ∧ Touch (fun _ => False) w w'
theorem Rd.inside {w : World} {F : Nat → Prop} {A : Option Addr} {n : Nat} {xs : List Value} (h : Rd w F A n xs) : Rd w (fun k => F k ∧ k < w.heap.size) A n xs :=
  ⟨h.1, fun hn => by obtain ⟨g, off, e, hl, hf, hc⟩ := h.2 hn; exact ⟨g, off, e, hl, ⟨hf, hl⟩, hc⟩⟩
theorem Rd.has {w : World} {F : Nat → Prop} {A : Option Addr} {n c : Nat} {xs : List Value} (h : Rd w F A n xs) (hn : 0 < n) : A = none → c = 0 := by
  obtain ⟨g, off, e, _⟩ := h.2 hn
  intro e'; rw [e'] at e; cases e
theorem rbytes_no (a : RpV) (A : Option Addr) (n c : Nat) (w : World) (h : a.t.ok) (hs : rpSound a.code a.time a.t n a.dead = false) :
    Calls Try.prog 41 #[.agg #[.int .i64 a.code, .int .i64 a.time, .int .u64 a.t.id, .int .i64 a.t.contract, .int .i64 a.t.state, .int .i64 a.t.level, .int .u64 a.t.gen, .int .i64 a.t.from_, .int .i64 a.t.left, .int .i64 a.t.due, .int .i64 a.t.told, .slice A n c, .int .u64 a.notice, .int .i64 a.dead]] w fun e w' => e = .returned (.tuple #[.slice none 0 0, .int .i64 2]) ∧ Touch (fun _ => False) w w' := by
  have HS := Lib.hid (fun w1 => psound_any a.code a.time a.t A n c a.notice a.dead w1 h)
  rw [hs] at HS
  have HT0 := Lib.hid ((Touch.refl (fun _ => False) w).alloc (.cells #[.int .i64 a.code, .int .i64 a.time, .int .u64 a.t.id, .int .i64 a.t.contract, .int .i64 a.t.state, .int .i64 a.t.level, .int .u64 a.t.gen, .int .i64 a.t.from_, .int .i64 a.t.left, .int .i64 a.t.due, .int .i64 a.t.told, .slice A n c, .int .u64 a.notice, .int .i64 a.dead] 51))
  clear hs
  go_enter Try.func41, Try.ntmps41
  go_wp2_with (go_at_call 53; go_must (refine (HS.out _).mono ?_); rintro e w1 ⟨rfl, t1⟩; have HT1 := Lib.hid t1; clear t1)
  go_ret2
  exact ⟨rfl, HT0.out.trans HT1.out (fun _ _ e => e)⟩
theorem encR_len {code tm : Nat} {t : TkN} {fired : List Nat} {notice dead : Nat} (hf : fired.length ≤ 64) : (encR code tm t fired notice dead).length ≤ 1000 := by
  have h1 := encs_len [code]; have h2 := encIs_len [(tm : Int)]; have h3 := encFs_len [!tkNone t.v]; have h4 := encTk_len t; have h5 := encs_len [fired.length]; have h6 := encs_len fired; have h7 := encs_len [notice, dead]
  simp only [encR, List.length_append]
  simp only [List.length_cons, List.length_nil] at *
  omega
theorem rbytes_yes (code tm : Nat) (t : TkN) (fired : List Nat) (notice dead : Nat) (F : Nat → Prop) (A : Option Addr) (c : Nat) (w : World) (h : (RepN.mk code tm t fired notice dead).Ok tm) (hr : Rd w F A fired.length (fired.map U64)) (hF : ∀ k, F k → k < w.heap.size) :
    Calls Try.prog 41 #[.agg #[.int .i64 code, .int .i64 tm, .int .u64 t.id, .int .i64 t.contract, .int .i64 t.state, .int .i64 t.level, .int .u64 t.gen, .int .i64 t.from_, .int .i64 t.left, .int .i64 t.due, .int .i64 t.told, .slice A fired.length c, .int .u64 notice, .int .i64 dead]] w (TwoB w (encR code tm t fired notice dead) 0) := by
  have hs := rpSound_of h
  have hvo : t.v.ok := by have := h.bd; simp only [TkN.bd] at this; simp only [TkN.v, TkV.ok]; omega
  have HS := Lib.hid (fun w1 => psound_any code tm t.v A fired.length c notice dead w1 hvo)
  simp only at hs
  rw [hs] at HS
  simp only [TkN.v] at HS
  have hfl := h.fl
  have hel : (encR code tm t fired notice dead).length ≤ 1000 := encR_len hfl
  have HPut := Lib.hid (fun w1 g (hw : WAt w1 g none []) (hr1 : Rd w1 F A fired.length (fired.map U64)) (hf : ∀ k, F k → k < g) (hg : g < w1.heap.size) => rput_any g none [] code tm t F A c fired notice dead w1 hw hr1 (fun k hk => ⟨by have := hf k hk; omega, by simp⟩) (fun k hk => by have := hf k hk; omega) h.ok h.bd h.code h.t1 h.fl h.fs h.no h.de (by simp))
  simp only [List.nil_append] at HPut
  generalize encR code tm t fired notice dead = E at *
  have HF := Lib.hid hF
  have HR := Lib.hid hr
  have HB := Lib.hid (Blk.new w 51 #[.int .i64 code, .int .i64 tm, .int .u64 t.id, .int .i64 t.contract, .int .i64 t.state, .int .i64 t.level, .int .u64 t.gen, .int .i64 t.from_, .int .i64 t.left, .int .i64 t.due, .int .i64 t.told, .slice A fired.length c, .int .u64 notice, .int .i64 dead])
  have HT0 := Lib.hid ((Touch.refl (fun _ => False) w).alloc (.cells #[.int .i64 code, .int .i64 tm, .int .u64 t.id, .int .i64 t.contract, .int .i64 t.state, .int .i64 t.level, .int .u64 t.gen, .int .i64 t.from_, .int .i64 t.left, .int .i64 t.due, .int .i64 t.told, .slice A fired.length c, .int .u64 notice, .int .i64 dead] 51))
  clear hs hvo h hr hF
  go_enter Try.func41, Try.ntmps41
  go_wp2_with (first
    | (go_at_call 53; go_must (refine (HS.out _).mono ?_); rintro e w1 ⟨rfl, t1⟩
       have HT1 := Lib.hid (HT0.out.trans t1 (fun _ _ e => e))
       have HW0 : WAt (w1.alloc (.cells #[.slice none 0 0] 55)) w1.heap.size none [] := ⟨by simp, _, Blk.new w1 55 #[.slice none 0 0], Own.nil _ _ _⟩
       have HW0 := Lib.hid HW0
       have hb := t1.blk HB.out (fun e => e)
       have hs1 : w.heap.size + 1 ≤ w1.heap.size := by have := t1.size; simpa using this
       have hne : ¬ w.heap.size = w1.heap.size := by omega
       have q0 : (w1.alloc (.cells #[.slice none 0 0] 55)).cell? ⟨w.heap.size, 0, none⟩ = some (.int .i64 code) := (hb.alloc _).cell 0; have q1 : (w1.alloc (.cells #[.slice none 0 0] 55)).cell? ⟨w.heap.size, 1, none⟩ = some (.int .i64 tm) := (hb.alloc _).cell 1; have q2 : (w1.alloc (.cells #[.slice none 0 0] 55)).cell? ⟨w.heap.size, 2, none⟩ = some (.int .u64 t.id) := (hb.alloc _).cell 2; have q3 : (w1.alloc (.cells #[.slice none 0 0] 55)).cell? ⟨w.heap.size, 3, none⟩ = some (.int .i64 t.contract) := (hb.alloc _).cell 3; have q4 : (w1.alloc (.cells #[.slice none 0 0] 55)).cell? ⟨w.heap.size, 4, none⟩ = some (.int .i64 t.state) := (hb.alloc _).cell 4; have q5 : (w1.alloc (.cells #[.slice none 0 0] 55)).cell? ⟨w.heap.size, 5, none⟩ = some (.int .i64 t.level) := (hb.alloc _).cell 5; have q6 : (w1.alloc (.cells #[.slice none 0 0] 55)).cell? ⟨w.heap.size, 6, none⟩ = some (.int .u64 t.gen) := (hb.alloc _).cell 6; have q7 : (w1.alloc (.cells #[.slice none 0 0] 55)).cell? ⟨w.heap.size, 7, none⟩ = some (.int .i64 t.from_) := (hb.alloc _).cell 7; have q8 : (w1.alloc (.cells #[.slice none 0 0] 55)).cell? ⟨w.heap.size, 8, none⟩ = some (.int .i64 t.left) := (hb.alloc _).cell 8; have q9 : (w1.alloc (.cells #[.slice none 0 0] 55)).cell? ⟨w.heap.size, 9, none⟩ = some (.int .i64 t.due) := (hb.alloc _).cell 9; have q10 : (w1.alloc (.cells #[.slice none 0 0] 55)).cell? ⟨w.heap.size, 10, none⟩ = some (.int .i64 t.told) := (hb.alloc _).cell 10; have q11 : (w1.alloc (.cells #[.slice none 0 0] 55)).cell? ⟨w.heap.size, 11, none⟩ = some (.slice A fired.length c) := (hb.alloc _).cell 11; have q12 : (w1.alloc (.cells #[.slice none 0 0] 55)).cell? ⟨w.heap.size, 12, none⟩ = some (.int .u64 notice) := (hb.alloc _).cell 12; have q13 : (w1.alloc (.cells #[.slice none 0 0] 55)).cell? ⟨w.heap.size, 13, none⟩ = some (.int .i64 dead) := (hb.alloc _).cell 13
       clear t1 hb)
    | (go_at_call 43
       go_must (refine (HPut.out _ w1.heap.size (by exact HW0.out) (by exact HR.out.touch (HT1.out.alloc _) (fun _ _ e => e)) (by intro k hk; have := HF.out k hk; omega) (by simp)).mono ?_)
       rintro e w3 ⟨rfl, r3, hw3, t3, hf3⟩
       have HW3 := Lib.hid hw3
       have HT3 := Lib.hid ((HT1.out.alloc (.cells #[.slice none 0 0] 55)).trans t3 (fun q hq e => by rcases e with e | e; exact absurd e (by omega); cases e))
       clear hw3 t3 hf3)
    | (go_at_call 47
       go_must (refine (wbytes_any w1.heap.size r3 E _ (by exact HW3.out) (by omega)).mono ?_)
       rintro e w4 ⟨A4, c4, rfl, u1, u2, hr4, t4⟩
       have HQ := Lib.hid (And.intro u1 (And.intro u2 (And.intro hr4 t4)))
       clear u1 u2 hr4 t4))
  go_ret2
  obtain ⟨u1, u2, hr4, t4⟩ := HQ.out
  simp only [List.length_map] at *
  have hz := HT3.out.size
  exact ⟨A4, c4, rfl, u1, u2, (hr4.inside).mono (fun k hk => ⟨by omega, hk.2⟩), HT3.out.trans t4 (fun _ _ e => e)⟩
theorem refused_any (code time : Int) (w : World) :
    Calls Try.prog 55 #[.int .i64 code, .int .i64 time] w fun e w' => e = .returned (.agg #[.int .i64 code, .int .i64 time, .int .u64 0, .int .i64 0, .int .i64 0, .int .i64 0, .int .u64 0, .int .i64 0, .int .i64 0, .int .i64 0, .int .i64 0, .slice none 0 0, .int .u64 0, .int .i64 0]) ∧ Touch (fun _ => False) w w' := by
  go_enter Try.func55, Try.ntmps55
  go_wp2
  refine bodyPost_ret (v := .agg #[.int .i64 code, .int .i64 time, .int .u64 0, .int .i64 0, .int .i64 0, .int .i64 0, .int .u64 0, .int .i64 0, .int .i64 0, .int .i64 0, .int .i64 0, .slice none 0 0, .int .u64 0, .int .i64 0]) (by simp [results, Try.results55, go_sem]) rfl ⟨rfl, (Touch.refl _ w).alloc _⟩

theorem lv_ok : (RepN.mk 31 0 tkZero [] 0 0).Ok 0 := ⟨rfl, by decide, by decide, .inl (by decide), zero_ok.1, zero_ok.2, by decide, (fun n h => by cases h), by decide, by decide⟩
theorem lv_enc : encR 31 0 tkZero [] 0 0 = [1, 31, 0, 0, 0, 0, 0] := by decide +kernel
theorem lv_bytes (w : World) : Calls Try.prog 41 #[.agg #[.int .i64 31, .int .i64 0, .int .u64 0, .int .i64 0, .int .i64 0, .int .i64 0, .int .u64 0, .int .i64 0, .int .i64 0, .int .i64 0, .int .i64 0, .slice none 0 0, .int .u64 0, .int .i64 0]] w (TwoB w [1, 31, 0, 0, 0, 0, 0] 0) := by
  have := rbytes_yes 31 0 tkZero [] 0 0 (fun _ => False) none 0 w lv_ok (Rd.nil _ _ _) (fun _ e => e.elim)
  rw [lv_enc] at this
  exact this
theorem lv_rd : rdRep (false, [1, 31, 0, 0, 0, 0, 0]) = (RepN.mk 31 0 tkZero [] 0 0, false, []) := by
  have := rdRep_write lv_ok []
  rw [List.append_nil] at this
  rw [← lv_enc]; exact this
theorem lv_res : rpRes (rdRep (false, [1, 31, 0, 0, 0, 0, 0])) = (RepN.mk 31 0 tkZero [] 0 0, false, []) ∧ rpGood (rdRep (false, [1, 31, 0, 0, 0, 0, 0])) = true := by
  have h : rpGood (rdRep (false, [1, 31, 0, 0, 0, 0, 0])) = true := by rw [lv_rd]; exact rpGood_of lv_ok []
  exact ⟨by rw [rpRes, if_pos h, lv_rd], h⟩
theorem lives19_any (w : World) : Calls Try.prog 40 #[] w fun e w' => e = .returned (.bool true) ∧ Touch (fun _ => False) w w' := by
  go_enter Try.func40, Try.ntmps40
  go_wp2_with (first
    | (go_at_call 55; go_must (refine (refused_any 31 0 _).mono ?_); rintro e w1 ⟨rfl, t1⟩; have HT1 := Lib.hid t1; clear t1)
    | (go_at_call 41; go_must (refine (lv_bytes _).mono ?_); rintro e w2 ⟨A2, c2, rfl, u1, u2, hr2, t2⟩
       have HT2 := Lib.hid (HT1.out.trans t2 (fun _ _ e => e))
       have HR2 := Lib.hid hr2
       have HU := Lib.hid (And.intro u1 u2)
       simp only [List.length_cons, List.length_nil]
       clear t2 hr2 u1 u2)
    | (go_at_call 44; go_must (refine (open_any _ _ _ _).mono ?_); rintro e w3 ⟨rfl, rfl⟩)
    | (go_at_call 45
       go_must (refine (rrread_any w2.heap.size (fun k => w1.heap.size ≤ k ∧ k < w2.heap.size) false [1, 31, 0, 0, 0, 0, 0] _ (by exact ⟨fun h => by omega, A2, c2, HU.out.1, HU.out.2, Blk.new _ _ _, HR2.out.touch ((Touch.refl (fun _ => False) w2).alloc _) (fun _ _ e => e)⟩) (by simp) (by intro k hk; simp; omega)).mono ?_)
       rintro e w4 ⟨⟨v4, rfl, hu4⟩, hr4, t4⟩
       have HT4 := Lib.hid ((HT2.out.alloc (.cells #[.slice A2 7 c2, .bool false] 129)).trans t4 (fun k hk e => by have := HT2.out.size; omega))
       have hrr := (HR2.out.touch ((Touch.refl (fun _ => False) w2).alloc (.cells #[.slice A2 7 c2, .bool false] 129)) (fun _ _ e => e)).touch t4 (by intro k hk e; omega)
       obtain ⟨Av, nv, cv, rfl⟩ := hu4.form3
       rw [lv_res.1, lv_res.2, show RepN.cells ⟨31, 0, tkZero, [], 0, 0⟩ (.slice Av nv cv) = #[.int .i64 31, .int .i64 0, .int .u64 0, .int .i64 0, .int .i64 0, .int .i64 0, .int .u64 0, .int .i64 0, .int .i64 0, .int .i64 0, .int .i64 0, .slice Av nv cv, .int .u64 0, .int .i64 0] from rfl]
       have hs := Rd.str (n := 7) (hrr.touch ((Touch.refl (fun _ => False) w4).alloc (.cells #[.int .i64 31, .int .i64 0, .int .u64 0, .int .i64 0, .int .i64 0, .int .i64 0, .int .u64 0, .int .i64 0, .int .i64 0, .int .i64 0, .int .i64 0, .slice Av nv cv, .int .u64 0, .int .i64 0] 51)) (fun _ _ e => e)) c2
       clear hu4 hr4 t4 hrr))
  go_ret
  exact ⟨rfl, HT4.out.alloc _⟩
end Go.Proofs.Ytecmbmfcooonnaa
