/- The walk of ReplyWrites. -/
import Derived.Test.YtecmbmfcooonnaaRepP
namespace Go.Proofs.Ytecmbmfcooonnaa
open Go.RowKit
set_option maxHeartbeats 4000000
set_option maxRecDepth 100000
set_option linter.unusedVariables false

theorem append_src {ops : Array Oper} {rest : List Oper} {o : Oper} {a : Act} {Q : Exit → Act → World → Prop} {w w0 : World} (hgd : o.guard = none) (s x : Operand)
    (ho : o.op = .call { callee := .builtin .append, args := #[s, x], argTypes := #[40, 40] })
    (l m : List UInt8) (v xv : Value) (hsv : a.eval s = v) (hx : a.eval x = xv) (h1 : OwnX w0 w l v) (h2 : Src Try.prog 1 40 xv m.length (m.map B8) w) (hsm : l.length + m.length ≤ 1000000)
    (h : ∀ v' w', OwnX w0 w' (l ++ m) v' → wpList Try.prog ops Q rest (a.put o.dst v') w') : wpList Try.prog ops Q (o :: rest) a w := by
  obtain ⟨i0, hi, hz0, hz1, hz2⟩ := info_parts info8
  obtain ⟨r, ho1, hr, t0⟩ := h1
  refine wpList_own_append hgd s x 40 40 ho 5 i0 (.int .u8 0) 1 1 Try.underlying40 hi hz0 hz1 hz2 rfl v r l.length (l.map B8) hsv ho1 xv m.length (m.map B8) hx h2 (by simp only [maxLen]; omega) (by omega) ?_
  intro v1 r1 w2 ho2 ht2 hr2
  exact h v1 w2 (OwnX.app hr t0 ho2 ht2 hr2)
theorem OwnX.lit0 (w : World) : OwnX w (w.alloc (.cells #[] 5)) [] (.slice (some ⟨w.heap.size, 0, none⟩) 0 0) :=
  ⟨some w.heap.size, Own.lit w 5 1 #[] 0 (by simp) rfl, fun q e => by injection e with e; omega, (Touch.refl _ w).alloc _⟩
theorem OwnX.reads {w0 w : World} {l : List UInt8} {v : Value} (h : OwnX w0 w l v) : ∃ A n c, v = .slice A n c ∧ l.length = n ∧ n ≤ c ∧ c ≤ maxLen ∧ Rd w (fun k => w0.heap.size ≤ k ∧ k < w.heap.size) A n (l.map B8) ∧ Touch (fun _ => False) w0 w := by
  obtain ⟨r, ho, hr, t⟩ := h
  obtain ⟨A, c, hv, h1, h2, -, hrd⟩ := ho.rd
  exact ⟨A, _, c, hv, rfl, h1, h2, hrd.inside.mono (fun k hk => ⟨hr k hk.1, hk.2⟩), t⟩
/-- What a reply that may be is. -/
theorem sound_is {a : RpV} (h : rpSound a.code a.time a.t a.fired.length a.dead = true) (hid : a.t.id < 18446744073709551616) (hn : a.notice < 18446744073709551616) (hf : ∀ n ∈ a.fired, n < 256 ^ 8) :
    ∃ (code tm : Nat) (t : TkN) (dead : Nat), a = ⟨code, tm, t.v, a.fired, a.notice, dead⟩ ∧ (RepN.mk code tm t a.fired a.notice dead).Ok tm := by
  obtain ⟨code, time, t, fired, notice, dead⟩ := a
  simp only at h hid hn hf
  have h' := h
  rw [rpSound, Bool.and_eq_true, Bool.or_eq_true, decide_eq_true_eq] at h
  obtain ⟨⟨h1, h2, h3, h4, h5, h6, h7⟩, ht⟩ := h
  obtain ⟨c, rfl⟩ := Int.eq_ofNat_of_zero_le h1
  obtain ⟨tm, rfl⟩ := Int.eq_ofNat_of_zero_le h3
  obtain ⟨d, rfl⟩ := Int.eq_ofNat_of_zero_le h6
  obtain ⟨tn, htn⟩ : ∃ tn : TkN, t = tn.v := by
    rcases ht with ht | ht
    · refine ⟨tkZero, ?_⟩
      obtain ⟨a1, a2, a3, a4, a5, a6, a7, a8, a9⟩ := t
      have := of_decide_eq_true ht
      simp only at this
      obtain ⟨rfl, rfl, rfl, rfl, rfl, rfl, rfl, rfl, rfl⟩ := this
      rfl
    · obtain ⟨n, hn, _⟩ := tkSound_N ht
      exact ⟨n, hn⟩
  subst htn
  refine ⟨c, tm, tn, d, rfl, ?_⟩
  have := of_rpSound (r := ⟨c, tm, tn, fired, notice, d⟩) h' hid hn hf
  simpa using this
def RpV.okp (a : RpV) : Prop := a.t.ok ∧ a.t.id < 18446744073709551616 ∧ a.notice < 18446744073709551616 ∧ ∀ n ∈ a.fired, n < 256 ^ 8
theorem walk_ReplyWrites {w : World} (a : RpV) (hk : a.okp) (A : Option Addr) (c : Nat) (hr : Rd w (fun k => k < w.heap.size) A a.fired.length (a.fired.map U64))
    (A1 : Option Addr) (n1 c1 : Nat) (l1 : List UInt8) (e1 : l1.length = n1) (g1 : A1 = none → c1 = 0) (u1 : n1 ≤ c1) (m1 : c1 ≤ maxLen) (s1 : Rd w (fun k => k < w.heap.size) A1 n1 (l1.map B8)) :
    Calls Try.prog 7 #[.agg #[.int .i64 a.code, .int .i64 a.time, .int .u64 a.t.id, .int .i64 a.t.contract, .int .i64 a.t.state, .int .i64 a.t.level, .int .u64 a.t.gen, .int .i64 a.t.from_, .int .i64 a.t.left, .int .i64 a.t.due, .int .i64 a.t.told, .slice A a.fired.length c, .int .u64 a.notice, .int .i64 a.dead], .slice A1 n1 c1] w fun e w' => e = .returned (.bool true) ∧ Below w.heap.size w w' := by
  subst e1
  have HT := Lib.hid ((Touch.refl (fun _ => False) w).alloc (.cells #[.int .i64 a.code, .int .i64 a.time, .int .u64 a.t.id, .int .i64 a.t.contract, .int .i64 a.t.state, .int .i64 a.t.level, .int .u64 a.t.gen, .int .i64 a.t.from_, .int .i64 a.t.left, .int .i64 a.t.due, .int .i64 a.t.told, .slice A a.fired.length c, .int .u64 a.notice, .int .i64 a.dead] 51))
  have HB := Lib.hid (Blk.new w 51 #[.int .i64 a.code, .int .i64 a.time, .int .u64 a.t.id, .int .i64 a.t.contract, .int .i64 a.t.state, .int .i64 a.t.level, .int .u64 a.t.gen, .int .i64 a.t.from_, .int .i64 a.t.left, .int .i64 a.t.due, .int .i64 a.t.told, .slice A a.fired.length c, .int .u64 a.notice, .int .i64 a.dead])
  by_cases hbig : ¬ (a.fired.length ≤ 200 ∧ l1.length ≤ 1000)
  · by_cases h2 : a.fired.length ≤ 200
    · have hm : (1000 : Int) < l1.length := by omega
      have hd : decide (a.fired.length ≤ 200) = true := by simpa using h2
      clear hbig h2 hr s1
      go_enter Try.func7, Try.ntmps7
      go_wp2_with (first
        | (go_at_call 39; go_must (refine (light_any a A _ c _).mono ?_); rintro e wl ⟨rfl, tl⟩; rw [hd]; have HT := Lib.hid (HT.out.trans tl (fun _ _ e => e)); clear tl)
        | (go_at_call 40; go_must (refine (lives19_any _).mono ?_); rintro e wl ⟨rfl, tl⟩; have HT := Lib.hid (HT.out.trans tl (fun _ _ e => e)); clear tl))
      go_ret
      exact ⟨rfl, HT.out.below⟩
    · have hd : decide (a.fired.length ≤ 200) = false := by simpa using h2
      clear hbig h2 hr s1
      go_enter Try.func7, Try.ntmps7
      go_wp2_with (first
        | (go_at_call 39; go_must (refine (light_any a A _ c _).mono ?_); rintro e wl ⟨rfl, tl⟩; rw [hd]; have HT := Lib.hid (HT.out.trans tl (fun _ _ e => e)); clear tl)
        | (go_at_call 40; go_must (refine (lives19_any _).mono ?_); rintro e wl ⟨rfl, tl⟩; have HT := Lib.hid (HT.out.trans tl (fun _ _ e => e)); clear tl))
      go_ret
      exact ⟨rfl, HT.out.below⟩
  have hb1 : a.fired.length ≤ 200 := by omega
  have hb2 : ¬ (1000 : Int) < l1.length := by omega
  have hb3 : l1.length ≤ 1000 := by omega
  have hd : decide (a.fired.length ≤ 200) = true := by simpa using hb1
  clear hbig
  obtain ⟨hk1, hk2, hk3, hk4⟩ := hk
  cases hs : rpSound a.code a.time a.t a.fired.length a.dead
  · have HBy := Lib.hid (fun w1 => rbytes_no a A a.fired.length c w1 hk1 hs)
    have HSo := Lib.hid (fun w1 => rsoundR_any a.code a.time a.t A a.fired.length c a.notice a.dead w1 hk1)
    rw [hs] at HSo
    clear hs hk1 hk2 hk3 hk4 hr s1
    go_enter Try.func7, Try.ntmps7
    go_wp2_with (first
      | (go_at_call 39; go_must (refine (light_any a A _ c _).mono ?_); rintro e wl ⟨rfl, tl⟩; rw [hd]; have HT := Lib.hid (HT.out.trans tl (fun _ _ e => e)); have hb := tl.blk HB.out (fun e => e); have HB := Lib.hid hb; have q0 := hb.cell 0; have q1 := hb.cell 1; have q2 := hb.cell 2; have q3 := hb.cell 3; have q4 := hb.cell 4; have q5 := hb.cell 5; have q6 := hb.cell 6; have q7 := hb.cell 7; have q8 := hb.cell 8; have q9 := hb.cell 9; have q10 := hb.cell 10; have q11 := hb.cell 11; have q12 := hb.cell 12; have q13 := hb.cell 13; simp at q0 q1 q2 q3 q4 q5 q6 q7 q8 q9 q10 q11 q12 q13; clear tl hb)
      | (go_at_call 41; go_must (refine (HBy.out _).mono ?_); rintro e wl ⟨rfl, tl⟩; have HT := Lib.hid (HT.out.trans tl (fun _ _ e => e)); have hb := tl.blk HB.out (fun e => e); have HB := Lib.hid hb; have q0 := hb.cell 0; have q1 := hb.cell 1; have q2 := hb.cell 2; have q3 := hb.cell 3; have q4 := hb.cell 4; have q5 := hb.cell 5; have q6 := hb.cell 6; have q7 := hb.cell 7; have q8 := hb.cell 8; have q9 := hb.cell 9; have q10 := hb.cell 10; have q11 := hb.cell 11; have q12 := hb.cell 12; have q13 := hb.cell 13; simp at q0 q1 q2 q3 q4 q5 q6 q7 q8 q9 q10 q11 q12 q13; clear tl hb)
      | (go_at_call 42; go_must (refine (HSo.out _).mono ?_); rintro e wl ⟨rfl, tl⟩; have HT := Lib.hid (HT.out.trans tl (fun _ _ e => e)); clear tl)
      | (go_at_call 40; go_must (refine (lives19_any _).mono ?_); rintro e wl ⟨rfl, tl⟩; have HT := Lib.hid (HT.out.trans tl (fun _ _ e => e)); clear tl))
    go_ret
    exact ⟨rfl, HT.out.below⟩
  · obtain ⟨code, tm, t, dead, ha, hOk⟩ := sound_is hs hk2 hk3 hk4
    obtain ⟨coa, tia, ta, fired, notice, dea⟩ := a
    simp only [RpV.mk.injEq] at ha
    obtain ⟨rfl, rfl, rfl, -, -, rfl⟩ := ha
    simp only at hs hk1 hk2 hk3 hk4 hOk hb1 hd hr HT HB
    have HOk := Lib.hid hOk
    have HSo := Lib.hid (fun w1 => rsoundR_any code tm t.v A fired.length c notice dead w1 hk1)
    rw [hs] at HSo
    simp only [TkN.v] at HSo HT HB ⊢
    have HLi := Lib.hid (fun w1 => light_any ⟨code, tm, t.v, fired, notice, dead⟩ A fired.length c w1)
    rw [hd] at HLi
    simp only [TkN.v] at HLi
    have HRa := Lib.hid hr
    have HRm := Lib.hid s1
    have hel := encR_len (code := code) (tm := tm) (t := t) (notice := notice) (dead := dead) hOk.fl
    have HRead := Lib.hid (show rpRes (rdRep (false, encR code tm t fired notice dead ++ l1)) = (⟨code, tm, t, fired, notice, dead⟩, false, l1) ∧ rpGood (rdRep (false, encR code tm t fired notice dead ++ l1)) = true from by
      have h1 := rdRep_write hOk l1
      simp only [RepN.bytes, Int.toNat_natCast] at h1
      have h2 := rpGood_of hOk l1
      rw [h1]
      exact ⟨by rw [rpRes, if_pos h2], h2⟩)
    have HBy := Lib.hid (fun F w1 h1 h2 => rbytes_yes code tm t fired notice dead F A c w1 hOk h1 h2)
    have HPut := Lib.hid (fun w1 g (hw : WAt w1 g none []) (hr1 : Rd w1 (fun k => k < w.heap.size) A fired.length (fired.map U64)) (hg : w.heap.size ≤ g) (hg2 : g < w1.heap.size) => rput_any g none [] code tm t (fun k => k < w.heap.size) A c fired notice dead w1 hw hr1 (fun k hk => ⟨by omega, by simp⟩) (fun k hk => by omega) hOk.ok hOk.bd hOk.code hOk.t1 hOk.fl hOk.fs hOk.no hOk.de (by simp))
    simp only [List.nil_append] at HPut
    have HFp := Lib.hid (fun w1 (hr1 : Rd w1 (fun k => k < w.heap.size) A fired.length (fired.map U64)) => fput_any code tm t (fun k => k < w.heap.size) A c fired notice dead w1 hr1 hOk.ok hOk.bd hOk.code hOk.t1 hOk.fl hOk.fs hOk.no hOk.de)
    have hpos : 0 < (encR code tm t fired notice dead).length := by rw [encR_eq, List.length_append]; have := encN_pos 0 dead; omega
    have hfl := hOk.fl
    generalize encR code tm t fired notice dead = E at *
    clear hs hk1 hk2 hk3 hk4 hr s1 hOk hd hb1
    go_enter Try.func7, Try.ntmps7
    go_wp2_with (first
      | (go_at_call 39; go_must (refine (HLi.out _).mono ?_); rintro e w1 ⟨rfl, tl⟩; have HT := Lib.hid (HT.out.trans tl (fun _ _ e => e)); have hb := tl.blk HB.out (fun e => e); have HB := Lib.hid hb; have q0 := hb.cell 0; have q1 := hb.cell 1; have q2 := hb.cell 2; have q3 := hb.cell 3; have q4 := hb.cell 4; have q5 := hb.cell 5; have q6 := hb.cell 6; have q7 := hb.cell 7; have q8 := hb.cell 8; have q9 := hb.cell 9; have q10 := hb.cell 10; have q11 := hb.cell 11; have q12 := hb.cell 12; have q13 := hb.cell 13; simp at q0 q1 q2 q3 q4 q5 q6 q7 q8 q9 q10 q11 q12 q13; clear tl hb)
      | (go_at_call 41; go_must (refine (HBy.out (fun k => k < w.heap.size) _ (by exact HRa.out.touch HT.out (fun _ _ e => e)) (by have := HT.out.size; intro k hk; omega)).mono ?_); rintro e w2 ⟨A2, c2, rfl, x1, x2, hr2, tl⟩; have HT := Lib.hid (HT.out.trans tl (fun _ _ e => e)); have hz1 := HT.out.size; have HR2 := Lib.hid hr2; have hb := tl.blk HB.out (fun e => e); have HB := Lib.hid hb; have q0 := hb.cell 0; have q1 := hb.cell 1; have q2 := hb.cell 2; have q3 := hb.cell 3; have q4 := hb.cell 4; have q5 := hb.cell 5; have q6 := hb.cell 6; have q7 := hb.cell 7; have q8 := hb.cell 8; have q9 := hb.cell 9; have q10 := hb.cell 10; have q11 := hb.cell 11; have q12 := hb.cell 12; have q13 := hb.cell 13; simp at q0 q1 q2 q3 q4 q5 q6 q7 q8 q9 q10 q11 q12 q13; clear tl hb hr2 x1 x2)
      | (go_at_call 42; go_must (refine (HSo.out _).mono ?_); rintro e w3 ⟨rfl, tl⟩; have hzs := tl.size; have HT := Lib.hid (HT.out.trans tl (fun _ _ e => e)); have HR2 := Lib.hid (HR2.out.touch tl (fun _ _ e => e)); have hb := tl.blk HB.out (fun e => e); have HB := Lib.hid hb; have hz3 := hb.lt; have hne3 : ¬ w.heap.size = w3.heap.size := by omega
         have q0 : (w3.alloc (.cells #[.slice none 0 0] 55)).cell? ⟨w.heap.size, 0, none⟩ = some (.int .i64 code) := (hb.alloc _).cell 0; have q1 : (w3.alloc (.cells #[.slice none 0 0] 55)).cell? ⟨w.heap.size, 1, none⟩ = some (.int .i64 tm) := (hb.alloc _).cell 1; have q2 : (w3.alloc (.cells #[.slice none 0 0] 55)).cell? ⟨w.heap.size, 2, none⟩ = some (.int .u64 t.id) := (hb.alloc _).cell 2; have q3 : (w3.alloc (.cells #[.slice none 0 0] 55)).cell? ⟨w.heap.size, 3, none⟩ = some (.int .i64 t.contract) := (hb.alloc _).cell 3; have q4 : (w3.alloc (.cells #[.slice none 0 0] 55)).cell? ⟨w.heap.size, 4, none⟩ = some (.int .i64 t.state) := (hb.alloc _).cell 4; have q5 : (w3.alloc (.cells #[.slice none 0 0] 55)).cell? ⟨w.heap.size, 5, none⟩ = some (.int .i64 t.level) := (hb.alloc _).cell 5; have q6 : (w3.alloc (.cells #[.slice none 0 0] 55)).cell? ⟨w.heap.size, 6, none⟩ = some (.int .u64 t.gen) := (hb.alloc _).cell 6; have q7 : (w3.alloc (.cells #[.slice none 0 0] 55)).cell? ⟨w.heap.size, 7, none⟩ = some (.int .i64 t.from_) := (hb.alloc _).cell 7; have q8 : (w3.alloc (.cells #[.slice none 0 0] 55)).cell? ⟨w.heap.size, 8, none⟩ = some (.int .i64 t.left) := (hb.alloc _).cell 8; have q9 : (w3.alloc (.cells #[.slice none 0 0] 55)).cell? ⟨w.heap.size, 9, none⟩ = some (.int .i64 t.due) := (hb.alloc _).cell 9; have q10 : (w3.alloc (.cells #[.slice none 0 0] 55)).cell? ⟨w.heap.size, 10, none⟩ = some (.int .i64 t.told) := (hb.alloc _).cell 10; have q11 : (w3.alloc (.cells #[.slice none 0 0] 55)).cell? ⟨w.heap.size, 11, none⟩ = some (.slice A fired.length c) := (hb.alloc _).cell 11; have q12 : (w3.alloc (.cells #[.slice none 0 0] 55)).cell? ⟨w.heap.size, 12, none⟩ = some (.int .u64 notice) := (hb.alloc _).cell 12; have q13 : (w3.alloc (.cells #[.slice none 0 0] 55)).cell? ⟨w.heap.size, 13, none⟩ = some (.int .i64 dead) := (hb.alloc _).cell 13
         have HW0 : WAt (w3.alloc (.cells #[.slice none 0 0] 55)) w3.heap.size none [] := ⟨by simp, _, Blk.new w3 55 #[.slice none 0 0], Own.nil _ _ _⟩
         have HW0 := Lib.hid HW0
         clear tl hb))
    have HAl := Lib.hid ((Touch.refl (fun _ => False) w3).alloc (.cells #[.slice none 0 0] 55))
    refine (HPut.out _ w3.heap.size (by exact HW0.out) (by exact HRa.out.touch (HT.out.trans HAl.out (fun _ _ e => e)) (fun _ _ e => e)) (by omega) (by simp)).mono ?_
    rintro e w5 ⟨rfl, r5, hw5, t5, hf5⟩
    have hz5 : w3.heap.size + 1 ≤ w5.heap.size := by have := t5.size; simpa using this
    have T35 : Touch (fun _ => False) w3 w5 := HAl.out.trans (S := fun _ => False) t5 (by rintro k hk (e | e); omega; cases e)
    have HW5 := Lib.hid hw5
    have HT := Lib.hid (HT.out.trans T35 (fun _ _ e => e))
    have HR2 := Lib.hid (HR2.out.touch T35 (fun _ _ e => e))
    have HB := Lib.hid (T35.blk HB.out (fun e => e))
    have HX5 := Lib.hid (OwnX.lit0 w5)
    have HL5 := Lib.hid ((Touch.refl (fun _ => False) w5).alloc (.cells #[] 5))
    clear hw5 t5 hf5 T35 HW0 HAl q0 q1 q2 q3 q4 q5 q6 q7 q8 q9 q10 q11 q12 q13
    go_wp2_with (first
      | (at_builtin
         have M9 := M1
         go_must (refine append_src rfl _ _ rfl E l1 v7 (.slice A1 l1.length c1) rfl rfl (by exact HX7.out) (by exact (HRm.out.touch (HT.out.trans HX7.out.touch (fun _ _ e => e)) (fun _ _ e => e)).src g1) (by omega) ?_)
         intro v8 w8 h8
         obtain ⟨A8, n8, c8, rfl, hn8, hc8, hm8, hr8, t8⟩ := h8.reads
         have HN8 := Lib.hid hn8
         have HR8 := Lib.hid hr8
         have HT8 := Lib.hid t8
         clear h8 hn8 hr8 t8)
      | (at_builtin
         go_must (refine append_src rfl _ _ rfl [] E _ (.slice A2 E.length c2) rfl rfl (by exact HX5.out) (by exact (HR2.out.touch HL5.out (fun _ _ e => e)).src (HR2.out.has hpos)) (by simp; omega) ?_)
         intro v7 w7 h7
         have HX7 := Lib.hid (show OwnX w5 w7 E v7 from h7)
         have M1 := Lib.hid trivial
         clear h7)
      | (go_at_call 44; go_must (refine (open_any _ _ _ _).mono ?_); rintro e w9 ⟨rfl, rfl⟩))
    have hz8 : w5.heap.size ≤ w8.heap.size := HT8.out.size
    have HAl := Lib.hid ((Touch.refl (fun _ => False) w8).alloc (.cells #[.slice A8 n8 c8, .bool false] 129))
    have HD := Lib.hid (show RdAt (w8.alloc (.cells #[.slice A8 n8 c8, .bool false] 129)) w8.heap.size (fun k => w5.heap.size ≤ k ∧ k < w8.heap.size) (E ++ l1) false from ⟨by omega, A8, c8, by rw [HN8.out]; exact hc8, hm8, by rw [HN8.out]; exact Blk.new _ _ _, by rw [HN8.out]; exact HR8.out.touch HAl.out (fun _ _ e => e)⟩)
    refine (RdOut.of HRead.out.1 HRead.out.2 w8.heap.size (fun k => w5.heap.size ≤ k ∧ k < w8.heap.size) _ (by exact HD.out) (by simp) (by intro k hk; simp; omega)).mono ?_
    rintro e w10 ⟨Ax, cx, rfl, hrx, hdx, t10⟩
    have hz10 : w8.heap.size + 1 ≤ w10.heap.size := by have := t10.size; simpa using this
    have T8x : Touch (fun _ => False) w8 w10 := HAl.out.trans (S := fun _ => False) t10 (by intro k hk e; omega)
    have T5x : Touch (fun _ => False) w5 w10 := HT8.out.trans T8x (fun _ _ e => e)
    obtain ⟨wx, hwx⟩ : ∃ wx, wx = w10.alloc (.cells #[.int .i64 code, .int .i64 tm, .int .u64 t.id, .int .i64 t.contract, .int .i64 t.state, .int .i64 t.level, .int .u64 t.gen, .int .i64 t.from_, .int .i64 t.left, .int .i64 t.due, .int .i64 t.told, .slice Ax fired.length cx, .int .u64 notice, .int .i64 dead] 51) := ⟨_, rfl⟩
    have Tx : Touch (fun _ => False) w10 wx := hwx ▸ ((Touch.refl (fun _ => False) w10).alloc (.cells #[.int .i64 code, .int .i64 tm, .int .u64 t.id, .int .i64 t.contract, .int .i64 t.state, .int .i64 t.level, .int .u64 t.gen, .int .i64 t.from_, .int .i64 t.left, .int .i64 t.due, .int .i64 t.told, .slice Ax fired.length cx, .int .u64 notice, .int .i64 dead] 51))
    have HBx := Lib.hid (show Blk wx w10.heap.size 51 #[.int .i64 code, .int .i64 tm, .int .u64 t.id, .int .i64 t.contract, .int .i64 t.state, .int .i64 t.level, .int .u64 t.gen, .int .i64 t.from_, .int .i64 t.left, .int .i64 t.due, .int .i64 t.told, .slice Ax fired.length cx, .int .u64 notice, .int .i64 dead] from hwx ▸ Blk.new w10 51 _)
    have HRx := Lib.hid (hrx.touch Tx (fun _ _ e => e))
    have HDx := Lib.hid (rdAt_touch hdx Tx (fun e => e) (fun _ _ e => e))
    have HW := Lib.hid (HW5.out.touch (T5x.trans Tx (fun _ _ e => e)) (fun e => e) (fun _ _ e => e))
    have HT := Lib.hid (HT.out.trans (T5x.trans Tx (fun _ _ e => e)) (fun _ _ e => e))
    have HR2 := Lib.hid (HR2.out.touch (T5x.trans Tx (fun _ _ e => e)) (fun _ _ e => e))
    have HB := Lib.hid ((T5x.trans Tx (fun _ _ e => e)).blk HB.out (fun e => e))
    have HWX := Lib.hid hwx
    clear hwx hrx hdx t10 T8x T5x Tx HX5 HL5 HX7 HT8 HAl HD HR8 HW5
    go_wp2_with fail
    rw [← HWX.out]
    clear HWX
    have HDr := Lib.hid ((Touch.refl (fun _ => False) wx).drew)
    have q0 := HB.out.cell 0; have q1 := HB.out.cell 1; have q2 := HB.out.cell 2; have q3 := HB.out.cell 3; have q4 := HB.out.cell 4; have q5 := HB.out.cell 5; have q6 := HB.out.cell 6; have q7 := HB.out.cell 7; have q8 := HB.out.cell 8; have q9 := HB.out.cell 9; have q10 := HB.out.cell 10; have q11 := HB.out.cell 11; have q12 := HB.out.cell 12; have q13 := HB.out.cell 13; simp at q0 q1 q2 q3 q4 q5 q6 q7 q8 q9 q10 q11 q12 q13
    refine wp_region_plan [(0, 0), (0, 1), (0, 2), (0, 5), (1, 3), (1, 4), (2, 6), (0, 7), (0, 8), (0, 9), (0, 10), (1, 13), (1, 14), (2, 11), (0, 12), (0, 15), (0, 16), (0, 17), (0, 18), (0, 19), (0, 20), (0, 21), (0, 22), (2, 23), (0, 24), (0, 25), (0, 26), (0, 27), (0, 28), (0, 29), (0, 30), (0, 31), (0, 32), (2, 33), (0, 34), (0, 35)] (fun _ => False) (by kernel_rfl) (by kernel_rfl) (fun c a d v w h => by cases d <;> exact h) ?_
    iterate 4
      first
        | (refine plan_s1 rfl (by rfl) (fun Kc hKc => ?_)
           go_simp
           first
             | (refine hKc _ ?_)
           clear hKc Kc)
        | (refine plan_s0 rfl (by rfl) ?_; go_frame)
    iterate 2
      first
        | (apply plan_h
           · rfl
           · rfl
           · intro wh hT
             have hf0 := Rd.str (n := E.length) ((HR2.out.touch HDr.out (fun _ _ e => e)).touch hT (fun _ _ e => e)) c2
             go_simp
             try rfl
           go_frame)
        | (refine plan_hn rfl (by rfl) ?_; go_frame)
    refine plan_a1 rfl (by rfl) (fun Kc hKc => ?_)
    go_simp
    refine (HFp.out _ (by exact HRa.out.touch (HT.out.trans HDr.out (fun _ _ e => e)) (fun _ _ e => e))).mono ?_
    rintro e wp ⟨vp, kp, rfl, hop, hkp, tp⟩
    obtain ⟨Ap, cp, rfl, -, -, -, hrp⟩ := hop.rd
    have hsp := Rd.str (n := E.length) hrp cp
    refine hKc _ _ ⟨tp, ?_⟩
    clear hKc Kc
    have Tp : Touch (fun _ => False) wx wp := HDr.out.trans tp (fun _ _ e => e)
    have HT := Lib.hid (HT.out.trans Tp (fun _ _ e => e))
    have HR2 := Lib.hid (HR2.out.touch Tp (fun _ _ e => e))
    have HB := Lib.hid (Tp.blk HB.out (fun e => e))
    have HBx := Lib.hid (Tp.blk HBx.out (fun e => e))
    have HRx := Lib.hid (HRx.out.touch Tp (fun _ _ e => e))
    have HDx := Lib.hid (rdAt_touch HDx.out Tp (fun e => e) (fun _ _ e => e))
    have HW := Lib.hid (HW.out.touch Tp (fun e => e) (fun _ _ e => e))
    clear hop hrp tp Tp hkp q0 q1 q2 q3 q4 q5 q6 q7 q8 q9 q10 q11 q12 q13
    iterate 4
      first
        | (refine plan_s1 rfl (by rfl) (fun Kc hKc => ?_)
           go_simp
           first
             | (refine hKc _ ?_)
           clear hKc Kc)
        | (refine plan_s0 rfl (by rfl) ?_; go_frame)
    clear hsp
    iterate 2
      first
        | (apply plan_h
           · rfl
           · rfl
           · intro wh hT
             have hf0 := Rd.str (n := E.length) (HR2.out.touch hT (fun _ _ e => e)) c2
             go_simp
             try rfl
           go_frame)
        | (refine plan_hn rfl (by rfl) ?_; go_frame)
    refine plan_a1 rfl (by rfl) (fun Kc hKc => ?_)
    go_simp
    refine (wbytes_any w3.heap.size r5 E _ (by exact HW.out) (by omega)).mono ?_
    rintro e wq ⟨Aq, cq, rfl, y1, y2, hrq, tq⟩
    rw [List.length_map] at y1 hrq ⊢
    have hsq := Rd.str (n := E.length) hrq cq
    refine hKc _ _ ⟨tq, ?_⟩
    clear hKc Kc
    have HT := Lib.hid (HT.out.trans tq (fun _ _ e => e))
    have HRx := Lib.hid (HRx.out.touch tq (fun _ _ e => e))
    have HDx := Lib.hid (rdAt_touch HDx.out tq (fun e => e) (fun _ _ e => e))
    have hb := tq.blk HB.out (fun e => e)
    have hbx := tq.blk HBx.out (fun e => e)
    have q0 := hb.cell 0; have q1 := hb.cell 1; have q2 := hb.cell 2; have q3 := hb.cell 3; have q4 := hb.cell 4; have q5 := hb.cell 5; have q6 := hb.cell 6; have q7 := hb.cell 7; have q8 := hb.cell 8; have q9 := hb.cell 9; have q10 := hb.cell 10; have q11 := hb.cell 11; have q12 := hb.cell 12; have q13 := hb.cell 13; simp at q0 q1 q2 q3 q4 q5 q6 q7 q8 q9 q10 q11 q12 q13
    have p0 := hbx.cell 0; have p1 := hbx.cell 1; have p2 := hbx.cell 2; have p3 := hbx.cell 3; have p4 := hbx.cell 4; have p5 := hbx.cell 5; have p6 := hbx.cell 6; have p7 := hbx.cell 7; have p8 := hbx.cell 8; have p9 := hbx.cell 9; have p10 := hbx.cell 10; have p11 := hbx.cell 11; have p12 := hbx.cell 12; have p13 := hbx.cell 13; simp at p0 p1 p2 p3 p4 p5 p6 p7 p8 p9 p10 p11 p12 p13
    clear hrq tq hb hbx y1 y2
    iterate 9
      first
        | (refine plan_s1 rfl (by rfl) (fun Kc hKc => ?_)
           go_simp
           first
             | (refine hKc _ ?_)
           clear hKc Kc)
        | (refine plan_s0 rfl (by rfl) ?_; go_frame)
    refine plan_a1 rfl (by rfl) (fun Kc hKc => ?_)
    go_simp
    refine (rsameR_any _ _ Ax A cx c ⟨code, tm, t.v, fired, notice, dead⟩ ⟨code, tm, t.v, fired, notice, dead⟩ _ (by exact HRx.out) (by exact HRa.out.touch HT.out (fun _ _ e => e)) (by simp only; omega)).mono ?_
    rintro e wf ⟨rfl, tf⟩
    rw [rpSame_refl]
    refine hKc _ _ ⟨tf, ?_⟩
    clear hKc Kc
    have HT := Lib.hid (HT.out.trans tf (fun _ _ e => e))
    have HDx := Lib.hid (rdAt_touch HDx.out tf (fun e => e) (fun _ _ e => e))
    clear tf q0 p0 q1 p1 q2 p2 q3 p3 q4 p4 q5 p5 q6 p6 q7 p7 q8 p8 q9 p9 q10 p10 q11 p11 q12 p12 q13 p13 hsq
    iterate 9
      first
        | (refine plan_s1 rfl (by rfl) (fun Kc hKc => ?_)
           go_simp
           first
             | (refine hKc _ ?_)
             | (refine ⟨_, calls_flip (left_st w8.heap.size (fun k => w5.heap.size ≤ k ∧ k < w8.heap.size) l1 false _ (by exact HDx.out)), hKc _ ?_⟩)
           clear hKc Kc)
        | (refine plan_s0 rfl (by rfl) ?_; go_frame)
    refine plan_a1 rfl (by rfl) (fun Kc hKc => ?_)
    go_simp
    refine (lives19_any _).mono ?_
    rintro e wh ⟨rfl, th⟩
    refine hKc _ _ ⟨th, ?_⟩
    clear hKc Kc
    have HT := Lib.hid (HT.out.trans th (fun _ _ e => e))
    clear th
    iterate 2
      first
        | (refine plan_s1 rfl (by rfl) (fun Kc hKc => ?_)
           go_simp
           first
             | (refine hKc _ ?_)
           clear hKc Kc)
        | (refine plan_s0 rfl (by rfl) ?_; go_frame)
    refine plan_done ?_
    go_wp2
    go_ret
    exact ⟨rfl, HT.out.below⟩
end Go.Proofs.Ytecmbmfcooonnaa
