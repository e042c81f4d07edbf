/- What reply.Bytes and reply.Refused do; law19.lives. The walk of ReplyReads. The walk of ReplyWrites. What reply.Copy does. -/
import Derived.Test.YtlcefchbfjfifaaVRdY
import Derived.Test.YtlcefchbfjfifaaVRepO
import Derived.OwnWalk
import Derived.Laws.CopyOwn
section
namespace Go.Proofs.Ytlcefchbfjfifaa
open Go.RowKit
set_option maxHeartbeats 4000000
set_option maxRecDepth 100000
set_option linter.unusedVariables false

/-- New bytes, and an error's number. -/
def TwoB (w : World) (xs : List UInt8) (n : Int) (e : Ending) (w' : World) : Prop :=
  ∃ A c, e = .returned (.tuple #[.slice A xs.length c, .int .i64 n]) ∧ xs.length ≤ c ∧ c ≤ maxLen ∧ Rd w' (fun k => w.heap.size ≤ k ∧ k < w'.heap.size) A xs.length (xs.map B8) ∧ Touch (fun _ => False) w w'
theorem Rd.inside {w : World} {F : Nat → Prop} {A : Option Addr} {n : Nat} {xs : List Value} (h : Rd w F A n xs) : Rd w (fun k => F k ∧ k < w.heap.size) A n xs :=
  ⟨h.1, fun hn => by obtain ⟨g, off, e, hl, hf, hc⟩ := h.2 hn; exact ⟨g, off, e, hl, ⟨hf, hl⟩, hc⟩⟩
theorem Rd.has {w : World} {F : Nat → Prop} {A : Option Addr} {n c : Nat} {xs : List Value} (h : Rd w F A n xs) (hn : 0 < n) : A = none → c = 0 := by
  obtain ⟨g, off, e, _⟩ := h.2 hn
  intro e'; rw [e'] at e; cases e
theorem encR_len {code tm : Nat} {t : TkN} {fired : List Nat} {notice dead : Nat} (hf : fired.length ≤ 64) : (encR code tm t fired notice dead).length ≤ 1000 := by
  have h1 := encs_len [code]; have h2 := encIs_len [(tm : Int)]; have h3 := encFs_len [!tkNone t.v]; have h4 := encTk_len t; have h5 := encs_len [fired.length]; have h6 := encs_len fired; have h7 := encs_len [notice, dead]
  simp only [encR, List.length_append]
  simp only [List.length_cons, List.length_nil] at *
  omega
theorem lv_ok : (RepN.mk 31 0 tkZero [] 0 0).Ok 0 := ⟨rfl, by decide, by decide, .inl (by decide), zero_ok.1, zero_ok.2, by decide, (fun n h => by cases h), by decide, by decide⟩
theorem lv_enc : encR 31 0 tkZero [] 0 0 = [1, 31, 0, 0, 0, 0, 0] := by decide +kernel
theorem lv_rd : rdRep (false, [1, 31, 0, 0, 0, 0, 0]) = (RepN.mk 31 0 tkZero [] 0 0, false, []) := by
  have := rdRep_write lv_ok []
  rw [List.append_nil] at this
  rw [← lv_enc]; exact this
theorem lv_res : rpRes (rdRep (false, [1, 31, 0, 0, 0, 0, 0])) = (RepN.mk 31 0 tkZero [] 0 0, false, []) ∧ rpGood (rdRep (false, [1, 31, 0, 0, 0, 0, 0])) = true := by
  have h : rpGood (rdRep (false, [1, 31, 0, 0, 0, 0, 0])) = true := by rw [lv_rd]; exact rpGood_of lv_ok []
  exact ⟨by rw [rpRes, if_pos h, lv_rd], h⟩
end Go.Proofs.Ytlcefchbfjfifaa
end

section
namespace Go.Proofs.Ytlcefchbfjfifaa
open Go.RowKit
set_option maxHeartbeats 4000000
set_option maxRecDepth 100000
set_option linter.unusedVariables false

def RdOut (code : Nat) (time : Int) (t : TkN) (fired : List Nat) (notice dead : Nat) (ok bd : Bool) (l' : List UInt8) (w : World) (g : Nat) (F : Nat → Prop) (e : Ending) (w' : World) : Prop :=
  ∃ A c, e = .returned (.tuple #[.agg #[.int .i64 code, .int .i64 time, .int .u64 t.id, .int .i64 t.contract, .int .i64 t.state, .int .i64 t.level, .int .u64 t.gen, .int .i64 t.from_, .int .i64 t.left, .int .i64 t.due, .int .i64 t.told, .slice A fired.length c, .int .u64 notice, .int .i64 dead], .bool ok]) ∧ Rd w' (fun k => w.heap.size ≤ k ∧ k < w'.heap.size) A fired.length (fired.map U64) ∧ RdAt w' g F l' bd ∧ Touch (fun k => k = g) w w'
def RfOut (code : Nat) (time : Int) (t : TkN) (fired : List Nat) (notice dead : Nat) (ok bd : Bool) (l' : List UInt8) (w : World) (g : Nat) (F : Nat → Prop) (e : Ending) (w' : World) : Prop :=
  ∃ A c, e = .returned (.tuple #[.agg #[.int .i64 code, .int .i64 time, .int .u64 t.id, .int .i64 t.contract, .int .i64 t.state, .int .i64 t.level, .int .u64 t.gen, .int .i64 t.from_, .int .i64 t.left, .int .i64 t.due, .int .i64 t.told, .slice A fired.length c, .int .u64 notice, .int .i64 dead], .bool ok]) ∧ Rd w' (fun k => w.heap.size ≤ k ∧ k < w'.heap.size) A fired.length (fired.map U64) ∧ RfAt w' g F l' bd ∧ Touch (fun k => k = g) w w'
theorem left_st (g : Nat) (F : Nat → Prop) (l : List UInt8) (bad : Bool) (w : World) (h : RdAt w g F l bad) :
    Calls Try.prog 92 #[.pointer (some ⟨g, 0, none⟩)] w fun e w' => e = .returned (.int .i64 l.length) ∧ w = w' := by
  obtain ⟨_, A, cap, _, _, hb, _⟩ := h
  exact left_any g A l.length cap bad w hb
theorem bad_st (g : Nat) (F : Nat → Prop) (l : List UInt8) (bad : Bool) (w : World) (h : RdAt w g F l bad) :
    Calls Try.prog 84 #[.pointer (some ⟨g, 0, none⟩)] w fun e w' => e = .returned (.bool bad) ∧ w = w' := by
  obtain ⟨_, A, cap, _, _, hb, _⟩ := h
  exact bad_any g A l.length cap bad w hb
/-- What a reply that is read can be. -/
theorem read_what (l : List UInt8) : ∃ (code : Nat) (time : Int) (t : TkN) (fired : List Nat) (notice dead : Nat) (bd : Bool) (l' : List UInt8) (ok : Bool), rpRes (rdRep (false, l)) = (⟨code, time, t, fired, notice, dead⟩, bd, l') ∧ rpGood (rdRep (false, l)) = ok ∧ fired.length ≤ 64 ∧ l'.length ≤ l.length ∧
    (ok = true → bd = false ∧ ∃ tm : Nat, time = tm ∧ (RepN.mk code tm t fired notice dead).Ok tm ∧ l = encR code tm t fired notice dead ++ l') := by
  obtain ⟨r, hr⟩ : ∃ r, r = rdRep (false, l) := ⟨_, rfl⟩
  cases hok : rpGood r
  · refine ⟨0, 0, tkZero, [], 0, 0, true, [], false, ?_, by rw [← hr]; exact hok, by simp, by simp, fun h => by cases h⟩
    rw [← hr, rpRes, hok]; rfl
  · have hg := hok
    rw [hr] at hg
    obtain ⟨h1, h2⟩ := rpGood_ok hg
    rw [← hr] at h1 h2
    obtain ⟨⟨code, time, t, fired, notice, dead⟩, bd, l'⟩ := r
    simp only at h1 h2
    subst h1
    have ht := h2.time
    simp only at ht
    have hsp := rdRep_split hr.symm (by simp only; rw [ht]; omega)
    have h2' := h2
    rw [RepN.bytes] at hsp
    simp only at hsp
    refine ⟨code, time, t, fired, notice, dead, false, l', true, by rw [← hr, rpRes, if_pos hok], by rw [← hr]; exact hok, h2.fl, by rw [hsp]; simp, fun _ => ⟨rfl, time.toNat, ht, ?_, hsp⟩⟩
    rw [← ht]; exact h2
end Go.Proofs.Ytlcefchbfjfifaa
end

section
namespace Go.Proofs.Ytlcefchbfjfifaa
open Go.RowKit
set_option maxHeartbeats 4000000
set_option maxRecDepth 100000
set_option linter.unusedVariables false

theorem append_src {ops : Array Oper} {rest : List Oper} {o : Oper} {a : Act} {Q : Exit → Act → World → Prop} {w w0 : World} (hgd : o.guard = none) (s x : Operand)
    (ho : o.op = .call { callee := .builtin .append, args := #[s, x], argTypes := #[58, 58] })
    (l m : List UInt8) (v xv : Value) (hsv : a.eval s = v) (hx : a.eval x = xv) (h1 : OwnX w0 w l v) (h2 : Src Try.prog 1 58 xv m.length (m.map B8) w) (hsm : l.length + m.length ≤ 1000000)
    (h : ∀ v' w', OwnX w0 w' (l ++ m) v' → wpList Try.prog ops Q rest (a.put o.dst v') w') : wpList Try.prog ops Q (o :: rest) a w := by
  obtain ⟨i0, hi, hz0, hz1, hz2⟩ := info_parts info8
  obtain ⟨r, ho1, hr, t0⟩ := h1
  refine wpList_own_append hgd s x 58 58 ho 5 i0 (.int .u8 0) 1 1 Try.underlying58 hi hz0 hz1 hz2 rfl v r l.length (l.map B8) hsv ho1 xv m.length (m.map B8) hx h2 (by simp only [maxLen]; omega) (by omega) ?_
  intro v1 r1 w2 ho2 ht2 hr2
  exact h v1 w2 (OwnX.app hr t0 ho2 ht2 hr2)
theorem OwnX.lit0 (w : World) : OwnX w (w.alloc (.cells #[] 5)) [] (.slice (some ⟨w.heap.size, 0, none⟩) 0 0) :=
  ⟨some w.heap.size, Own.lit w 5 1 #[] 0 (by simp) rfl, fun q e => by injection e with e; omega, (Touch.refl _ w).alloc _⟩
theorem OwnX.reads {w0 w : World} {l : List UInt8} {v : Value} (h : OwnX w0 w l v) : ∃ A n c, v = .slice A n c ∧ l.length = n ∧ n ≤ c ∧ c ≤ maxLen ∧ Rd w (fun k => w0.heap.size ≤ k ∧ k < w.heap.size) A n (l.map B8) ∧ Touch (fun _ => False) w0 w := by
  obtain ⟨r, ho, hr, t⟩ := h
  obtain ⟨A, c, hv, h1, h2, -, hrd⟩ := ho.rd
  exact ⟨A, _, c, hv, rfl, h1, h2, hrd.inside.mono (fun k hk => ⟨hr k hk.1, hk.2⟩), t⟩
/-- What a reply that may be is. -/
theorem sound_is {a : RpV} (h : rpSound a.code a.time a.t a.fired.length a.dead = true) (hid : a.t.id < 18446744073709551616) (hn : a.notice < 18446744073709551616) (hf : ∀ n ∈ a.fired, n < 256 ^ 8) :
    ∃ (code tm : Nat) (t : TkN) (dead : Nat), a = ⟨code, tm, t.v, a.fired, a.notice, dead⟩ ∧ (RepN.mk code tm t a.fired a.notice dead).Ok tm := by
  obtain ⟨code, time, t, fired, notice, dead⟩ := a
  simp only at h hid hn hf
  have h' := h
  rw [rpSound, Bool.and_eq_true, Bool.or_eq_true, decide_eq_true_eq] at h
  obtain ⟨⟨h1, h2, h3, h4, h5, h6, h7⟩, ht⟩ := h
  obtain ⟨c, rfl⟩ := Int.eq_ofNat_of_zero_le h1
  obtain ⟨tm, rfl⟩ := Int.eq_ofNat_of_zero_le h3
  obtain ⟨d, rfl⟩ := Int.eq_ofNat_of_zero_le h6
  obtain ⟨tn, htn⟩ : ∃ tn : TkN, t = tn.v := by
    rcases ht with ht | ht
    · refine ⟨tkZero, ?_⟩
      obtain ⟨a1, a2, a3, a4, a5, a6, a7, a8, a9⟩ := t
      have := of_decide_eq_true ht
      simp only at this
      obtain ⟨rfl, rfl, rfl, rfl, rfl, rfl, rfl, rfl, rfl⟩ := this
      rfl
    · obtain ⟨n, hn, _⟩ := tkSound_N ht
      exact ⟨n, hn⟩
  subst htn
  refine ⟨c, tm, tn, d, rfl, ?_⟩
  have := of_rpSound (r := ⟨c, tm, tn, fired, notice, d⟩) h' hid hn hf
  simpa using this
def RpV.okp (a : RpV) : Prop := a.t.ok ∧ a.t.id < 18446744073709551616 ∧ a.notice < 18446744073709551616 ∧ ∀ n ∈ a.fired, n < 256 ^ 8
end Go.Proofs.Ytlcefchbfjfifaa
end

section
namespace Go.Proofs.Ytlcefchbfjfifaa
open Go.RowKit
set_option maxHeartbeats 4000000
set_option maxRecDepth 100000
set_option linter.unusedVariables false

theorem U64_one (l : List Nat) : ∀ u ∈ l.map U64, u.oneCell' = true := by
  intro u hu
  obtain ⟨c, _, rfl⟩ := List.mem_map.1 hu
  rfl
/-- What 'make' made, whole. -/
theorem Blk.of_full {w : World} {base : Nat} {e : TypeId} {g n : Nat} {xs : List Value} (h : w.ownsRow base e 1 (.slice (some ⟨g, 0, none⟩) n n) n xs) : Blk w g e xs.toArray := by
  rcases h.2 with ⟨e, _⟩ | ⟨g', cap, cur, e, _, hg, hn, hc, hs, ht⟩
  · cases e
  · injection e with e1 e2 e3
    injection e1 with e1
    injection e1 with e1
    subst e1 e3
    rw [List.take_of_length_le (by simp; omega)] at ht
    rw [← ht]
    exact hg
theorem splice_all (cur cs : List Value) (h : cur.length = cs.length) : splice cur 0 cs = cs := by
  simp [splice, h]
theorem Touch.below_trans {S : Nat → Prop} {w w1 w2 : World} {B : Nat} (h : Touch S w w1) (hb : Below B w1 w2) (hB : w.heap.size ≤ B) : Touch S w w2 :=
  ⟨hb.os.trans h.os, hb.tape.trans h.tape, hb.output.trans h.output, Nat.le_trans h.size hb.size, fun k hk hn => (hb.block k (Nat.lt_of_lt_of_le hk hB)).trans (h.block k hk hn)⟩
def CopyPost (a : RpV) (w : World) (e : Ending) (w' : World) : Prop :=
  ∃ g, e = .returned (.agg #[.int .i64 a.code, .int .i64 a.time, .int .u64 a.t.id, .int .i64 a.t.contract, .int .i64 a.t.state, .int .i64 a.t.level, .int .u64 a.t.gen, .int .i64 a.t.from_, .int .i64 a.t.left, .int .i64 a.t.due, .int .i64 a.t.told, .slice (some ⟨g, 0, none⟩) a.fired.length a.fired.length, .int .u64 a.notice, .int .i64 a.dead]) ∧ Blk w' g 27 (a.fired.map U64).toArray ∧ w.heap.size ≤ g ∧ Touch (fun _ => False) w w'
theorem copy_any (a : RpV) (A : Option Addr) (c : Nat) (w : World) (hr : Rd w (fun k => k < w.heap.size) A a.fired.length (a.fired.map U64)) (hsm : a.fired.length ≤ 1000) :
    Calls Try.prog 28 #[.agg #[.int .i64 a.code, .int .i64 a.time, .int .u64 a.t.id, .int .i64 a.t.contract, .int .i64 a.t.state, .int .i64 a.t.level, .int .u64 a.t.gen, .int .i64 a.t.from_, .int .i64 a.t.left, .int .i64 a.t.due, .int .i64 a.t.told, .slice A a.fired.length c, .int .u64 a.notice, .int .i64 a.dead]] w (CopyPost a w) := by
  obtain ⟨i0, hi, hz0, hz1, hz2⟩ := info_parts infoU
  obtain ⟨W, hW⟩ : ∃ W, W = (w.alloc (.cells #[.int .i64 a.code, .int .i64 a.time, .int .u64 a.t.id, .int .i64 a.t.contract, .int .i64 a.t.state, .int .i64 a.t.level, .int .u64 a.t.gen, .int .i64 a.t.from_, .int .i64 a.t.left, .int .i64 a.t.due, .int .i64 a.t.told, .slice A a.fired.length c, .int .u64 a.notice, .int .i64 a.dead] 45)).alloc (.cells #[.int .i64 0, .int .i64 0, .int .u64 0, .int .i64 0, .int .i64 0, .int .i64 0, .int .u64 0, .int .i64 0, .int .i64 0, .int .i64 0, .int .i64 0, .slice none 0 0, .int .u64 0, .int .i64 0] 45) := ⟨_, rfl⟩
  have HT0 := Lib.hid (show Touch (fun _ => False) w W from hW ▸ ((Touch.refl _ w).alloc _).alloc _)
  have HB0 := Lib.hid (show Blk W w.heap.size 45 #[.int .i64 a.code, .int .i64 a.time, .int .u64 a.t.id, .int .i64 a.t.contract, .int .i64 a.t.state, .int .i64 a.t.level, .int .u64 a.t.gen, .int .i64 a.t.from_, .int .i64 a.t.left, .int .i64 a.t.due, .int .i64 a.t.told, .slice A a.fired.length c, .int .u64 a.notice, .int .i64 a.dead] from hW ▸ (Blk.new w 45 _).alloc _)
  have HB1 := Lib.hid (show Blk W (w.heap.size + 1) 45 #[.int .i64 0, .int .i64 0, .int .u64 0, .int .i64 0, .int .i64 0, .int .i64 0, .int .u64 0, .int .i64 0, .int .i64 0, .int .i64 0, .int .i64 0, .slice none 0 0, .int .u64 0, .int .i64 0] from hW ▸ (by simpa using Blk.new (w.alloc (.cells #[.int .i64 a.code, .int .i64 a.time, .int .u64 a.t.id, .int .i64 a.t.contract, .int .i64 a.t.state, .int .i64 a.t.level, .int .u64 a.t.gen, .int .i64 a.t.from_, .int .i64 a.t.left, .int .i64 a.t.due, .int .i64 a.t.told, .slice A a.fired.length c, .int .u64 a.notice, .int .i64 a.dead] 45)) 45 #[.int .i64 0, .int .i64 0, .int .u64 0, .int .i64 0, .int .i64 0, .int .i64 0, .int .u64 0, .int .i64 0, .int .i64 0, .int .i64 0, .int .i64 0, .slice none 0 0, .int .u64 0, .int .i64 0]))
  have hWs : w.heap.size + 2 ≤ W.heap.size := by rw [hW]; simp
  have HW := Lib.hid hW
  have HR := Lib.hid hr
  clear hW hr
  go_enter Try.func28, Try.ntmps28
  go_wp2_with (first
    | (refine wpList_make_full _ rfl _ _ 43 rfl 0 27 i0 (.int .u64 0) 1 Try.underlying43 hi hz0 hz1 .i64 .i64 a.fired.length a.fired.length a.fired.length rfl rfl rfl rfl (by rw [hz2]; omega) (by simp only [maxLen]; omega) (Nat.zero_le _) ?_
       rw [← HW.out]
       intro w2 hown hgr
       have hL := hown.1
       have hbk := Blk.of_full hown
       have hzg := hbk.lt
       have HG := Lib.hid (Touch.of_grown hgr |>.mono (S' := fun _ => False) (fun q hq e => by cases e))
       have hb := HG.out.blk HB0.out (fun e => e)
       have q11 := hb.cell 11
       simp at q11
       generalize (madeCells (Value.int .u64 0).cells (a.fired.length * 1)).toList = L at hL hbk
       have HO := Lib.hid hbk
       have HL := Lib.hid hL
       clear hown hgr hb hL hbk)
    | (refine wpList_copy_splice (o := ⟨some 11, _, _, _, _, _⟩) rfl (.tmp 8) (.tmp 10) 43 43 rfl 27 Try.underlying43 (by kernel_rfl) (some ⟨W.heap.size, 0, none⟩) A a.fired.length a.fired.length a.fired.length c rfl rfl W.heap.size 0 L 27 (by exact HO.out) (a.fired.map U64) (by simp) (fun hp => ⟨rfl, by obtain ⟨g, off, e, _⟩ := HR.out.2 (by simpa using hp); exact ⟨⟨g, off, none⟩, e, by have hq := (HR.out.touch (HT0.out.trans HG.out (fun _ _ e => e)) (fun _ _ e => e)); rw [e] at hq; exact hq.add⟩⟩) (by have := HL.out; simp; omega) (U64_one _) W.heap.size w2 (Below.refl _ _) (Nat.le_refl _) ?_
       intro w3 hw3 hb3
       have hb3' := HG.out.below_trans hb3 (Nat.le_refl _)
       have HT3 := Lib.hid hb3'
       have HO3 := Lib.hid (show Blk w3 W.heap.size 27 (a.fired.map U64).toArray from by have := hw3.out; rw [splice_all _ _ (by have := HL.out; simp; omega)] at this; exact this)
       have hx := hb3'.blk HB0.out (fun e => e)
       have hy := hb3'.blk HB1.out (fun e => e)
       have q0 := hx.cell 0; have q1 := hx.cell 1; have q2 := hx.cell 2; have q3 := hx.cell 3; have q4 := hx.cell 4; have q5 := hx.cell 5; have q6 := hx.cell 6; have q7 := hx.cell 7; have q8 := hx.cell 8; have q9 := hx.cell 9; have q10 := hx.cell 10; have q11 := hx.cell 11; have q12 := hx.cell 12; have q13 := hx.cell 13; simp at q0 q1 q2 q3 q4 q5 q6 q7 q8 q9 q10 q11 q12 q13
       have d0 := hy.cell 0; have d1 := hy.cell 1; have d2 := hy.cell 2; have d3 := hy.cell 3; have d4 := hy.cell 4; have d5 := hy.cell 5; have d6 := hy.cell 6; have d7 := hy.cell 7; have d8 := hy.cell 8; have d9 := hy.cell 9; have d10 := hy.cell 10; have d11 := hy.cell 11; have d12 := hy.cell 12; have d13 := hy.cell 13; simp at d0 d1 d2 d3 d4 d5 d6 d7 d8 d9 d10 d11 d12 d13
       have f11 := hx.frozen 11
       have f0y := hy.frozen 0; have f1y := hy.frozen 1; have f2y := hy.frozen 2; have f3y := hy.frozen 3; have f4y := hy.frozen 4; have f5y := hy.frozen 5; have f6y := hy.frozen 6; have f7y := hy.frozen 7; have f8y := hy.frozen 8; have f9y := hy.frozen 9; have f10y := hy.frozen 10; have f11y := hy.frozen 11; have f12y := hy.frozen 12; have f13y := hy.frozen 13
       clear hw3 hb3 hb3' hx hy))
  have t3 : Touch (fun k => k = w.heap.size ∨ k = w.heap.size + 1) w3 ((w3.setCell ⟨w.heap.size, 11, none⟩ (.slice (some ⟨W.heap.size, 0, none⟩) a.fired.length a.fired.length)).setCells (w.heap.size + 1) 0 [.int .i64 a.code, .int .i64 a.time, .int .u64 a.t.id, .int .i64 a.t.contract, .int .i64 a.t.state, .int .i64 a.t.level, .int .u64 a.t.gen, .int .i64 a.t.from_, .int .i64 a.t.left, .int .i64 a.t.due, .int .i64 a.t.told, .slice (some ⟨W.heap.size, 0, none⟩) a.fired.length a.fired.length, .int .u64 a.notice, .int .i64 a.dead]) :=
    Touch.setCells _ _ _ ((Touch.refl _ w3).set (fun _ => .inl rfl) _) (fun _ => .inr rfl)
  refine bodyPost_ret (v := .agg #[.int .i64 a.code, .int .i64 a.time, .int .u64 a.t.id, .int .i64 a.t.contract, .int .i64 a.t.state, .int .i64 a.t.level, .int .u64 a.t.gen, .int .i64 a.t.from_, .int .i64 a.t.left, .int .i64 a.t.due, .int .i64 a.t.told, .slice (some ⟨W.heap.size, 0, none⟩) a.fired.length a.fired.length, .int .u64 a.notice, .int .i64 a.dead]) (by simp [results, Try.results28, go_sem, d0, d1, d2, d3, d4, d5, d6, d7, d8, d9, d10, d11, d12, d13]) rfl ⟨W.heap.size, rfl, ?_, by omega, ?_⟩
  · exact t3.blk HO3.out (by omega)
  · exact (HT0.out.trans HT3.out (fun _ _ e => e)).trans t3 (fun k hk e => by omega)
end Go.Proofs.Ytlcefchbfjfifaa
end
