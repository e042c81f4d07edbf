/- What reply.Bytes and reply.Refused do; law19.lives. The walk of ReplyReads. The walk of ReplyWrites. -/
import Derived.Test.YtmgmjehebbggaaaVRepK
import Derived.Test.YtmgmjehebbggaaaVRepM
import Derived.Test.YtmgmjehebbggaaaVRepO
import Derived.Test.YtmgmjehebbggaaaVRepL
section
namespace Go.Proofs.Ytmgmjehebbggaaa
open Go.RowKit
set_option maxHeartbeats 4000000
set_option maxRecDepth 100000
set_option linter.unusedVariables false

/-- New bytes, and an error's number. -/
def TwoB (w : World) (xs : List UInt8) (n : Int) (e : Ending) (w' : World) : Prop :=
  ∃ A c, e = .returned (.tuple #[.slice A xs.length c, .int .i64 n]) ∧ xs.length ≤ c ∧ c ≤ maxLen ∧ Rd w' (fun k => w.heap.size ≤ k ∧ k < w'.heap.size) A xs.length (xs.map B8) ∧ Touch (fun _ => False) w w'
theorem Rd.inside {w : World} {F : Nat → Prop} {A : Option Addr} {n : Nat} {xs : List Value} (h : Rd w F A n xs) : Rd w (fun k => F k ∧ k < w.heap.size) A n xs :=
  ⟨h.1, fun hn => by obtain ⟨g, off, e, hl, hf, hc⟩ := h.2 hn; exact ⟨g, off, e, hl, ⟨hf, hl⟩, hc⟩⟩
theorem Rd.has {w : World} {F : Nat → Prop} {A : Option Addr} {n c : Nat} {xs : List Value} (h : Rd w F A n xs) (hn : 0 < n) : A = none → c = 0 := by
  obtain ⟨g, off, e, _⟩ := h.2 hn
  intro e'; rw [e'] at e; cases e
theorem encR_len {code tm : Nat} {t : TkN} {fired : List Nat} {notice dead : Nat} (hf : fired.length ≤ 64) : (encR code tm t fired notice dead).length ≤ 1000 := by
  have h1 := encs_len [code]; have h2 := encIs_len [(tm : Int)]; have h3 := encFs_len [!tkNone t.v]; have h4 := encTk_len t; have h5 := encs_len [fired.length]; have h6 := encs_len fired; have h7 := encs_len [notice, dead]
  simp only [encR, List.length_append]
  simp only [List.length_cons, List.length_nil] at *
  omega
theorem lv_ok : (RepN.mk 31 0 tkZero [] 0 0).Ok 0 := ⟨rfl, by decide, by decide, .inl (by decide), zero_ok.1, zero_ok.2, by decide, (fun n h => by cases h), by decide, by decide⟩
theorem lv_enc : encR 31 0 tkZero [] 0 0 = [1, 31, 0, 0, 0, 0, 0] := by decide +kernel
theorem lv_rd : rdRep (false, [1, 31, 0, 0, 0, 0, 0]) = (RepN.mk 31 0 tkZero [] 0 0, false, []) := by
  have := rdRep_write lv_ok []
  rw [List.append_nil] at this
  rw [← lv_enc]; exact this
theorem lv_res : rpRes (rdRep (false, [1, 31, 0, 0, 0, 0, 0])) = (RepN.mk 31 0 tkZero [] 0 0, false, []) ∧ rpGood (rdRep (false, [1, 31, 0, 0, 0, 0, 0])) = true := by
  have h : rpGood (rdRep (false, [1, 31, 0, 0, 0, 0, 0])) = true := by rw [lv_rd]; exact rpGood_of lv_ok []
  exact ⟨by rw [rpRes, if_pos h, lv_rd], h⟩
end Go.Proofs.Ytmgmjehebbggaaa
end

section
namespace Go.Proofs.Ytmgmjehebbggaaa
open Go.RowKit
set_option maxHeartbeats 4000000
set_option maxRecDepth 100000
set_option linter.unusedVariables false

def RdOut (code : Nat) (time : Int) (t : TkN) (fired : List Nat) (notice dead : Nat) (ok bd : Bool) (l' : List UInt8) (w : World) (g : Nat) (F : Nat → Prop) (e : Ending) (w' : World) : Prop :=
  ∃ A c, e = .returned (.tuple #[.agg #[.int .i64 code, .int .i64 time, .int .u64 t.id, .int .i64 t.contract, .int .i64 t.state, .int .i64 t.level, .int .u64 t.gen, .int .i64 t.from_, .int .i64 t.left, .int .i64 t.due, .int .i64 t.told, .slice A fired.length c, .int .u64 notice, .int .i64 dead], .bool ok]) ∧ Rd w' (fun k => w.heap.size ≤ k ∧ k < w'.heap.size) A fired.length (fired.map U64) ∧ RdAt w' g F l' bd ∧ Touch (fun k => k = g) w w'
theorem RdOut.of {l l' : List UInt8} {b bd ok : Bool} {code : Nat} {time : Int} {t : TkN} {fired : List Nat} {notice dead : Nat} (hR : rpRes (rdRep (b, l)) = (⟨code, time, t, fired, notice, dead⟩, bd, l')) (hok : rpGood (rdRep (b, l)) = ok)
    (g : Nat) (F : Nat → Prop) (w : World) (h : RdAt w g F l b) (hg : g < w.heap.size) (hF : ∀ k, F k → k < w.heap.size) :
    Calls Try.prog 38 #[.pointer (some ⟨g, 0, none⟩)] w (RdOut code time t fired notice dead ok bd l' w g F) := by
  refine (rrread_any g F b l w h hg hF).mono fun e w' ⟨⟨v, he, hu⟩, hr, ht⟩ => ?_
  rw [hR] at he hu hr
  rw [hok] at he
  obtain ⟨q, ho, hq⟩ := hu
  obtain ⟨A, c, hv, -, -, -, hrd⟩ := ho.rd
  subst hv
  exact ⟨A, c, he, hrd.inside.mono (fun k hk => ⟨hq k hk.1, hk.2⟩), hr, ht⟩

def RfOut (code : Nat) (time : Int) (t : TkN) (fired : List Nat) (notice dead : Nat) (ok bd : Bool) (l' : List UInt8) (w : World) (g : Nat) (F : Nat → Prop) (e : Ending) (w' : World) : Prop :=
  ∃ A c, e = .returned (.tuple #[.agg #[.int .i64 code, .int .i64 time, .int .u64 t.id, .int .i64 t.contract, .int .i64 t.state, .int .i64 t.level, .int .u64 t.gen, .int .i64 t.from_, .int .i64 t.left, .int .i64 t.due, .int .i64 t.told, .slice A fired.length c, .int .u64 notice, .int .i64 dead], .bool ok]) ∧ Rd w' (fun k => w.heap.size ≤ k ∧ k < w'.heap.size) A fired.length (fired.map U64) ∧ RfAt w' g F l' bd ∧ Touch (fun k => k = g) w w'
theorem RfOut.of {l l' : List UInt8} {b bd ok : Bool} {code : Nat} {time : Int} {t : TkN} {fired : List Nat} {notice dead : Nat} (hR : rpRes (rdRep (b, l)) = (⟨code, time, t, fired, notice, dead⟩, bd, l')) (hok : rpGood (rdRep (b, l)) = ok)
    (g : Nat) (F : Nat → Prop) (w : World) (h : RfAt w g F l b) (hg : g < w.heap.size) (hF : ∀ k, F k → k < w.heap.size) :
    Calls Try.prog 41 #[.pointer (some ⟨g, 0, none⟩)] w (RfOut code time t fired notice dead ok bd l' w g F) := by
  refine (rrreadR_any g F b l w h hg hF).mono fun e w' ⟨⟨v, he, hu⟩, hr, ht⟩ => ?_
  rw [hR] at he hu hr
  rw [hok] at he
  obtain ⟨q, ho, hq⟩ := hu
  obtain ⟨A, c, hv, -, -, -, hrd⟩ := ho.rd
  subst hv
  exact ⟨A, c, he, hrd.inside.mono (fun k hk => ⟨hq k hk.1, hk.2⟩), hr, ht⟩

theorem left_st (g : Nat) (F : Nat → Prop) (l : List UInt8) (bad : Bool) (w : World) (h : RdAt w g F l bad) :
    Calls Try.prog 21 #[.pointer (some ⟨g, 0, none⟩)] w fun e w' => e = .returned (.int .i64 l.length) ∧ w = w' := by
  obtain ⟨_, A, cap, _, _, hb, _⟩ := h
  exact left_any g A l.length cap bad w hb
theorem bad_st (g : Nat) (F : Nat → Prop) (l : List UInt8) (bad : Bool) (w : World) (h : RdAt w g F l bad) :
    Calls Try.prog 22 #[.pointer (some ⟨g, 0, none⟩)] w fun e w' => e = .returned (.bool bad) ∧ w = w' := by
  obtain ⟨_, A, cap, _, _, hb, _⟩ := h
  exact bad_any g A l.length cap bad w hb
/-- What a reply that is read can be. -/
theorem read_what (l : List UInt8) : ∃ (code : Nat) (time : Int) (t : TkN) (fired : List Nat) (notice dead : Nat) (bd : Bool) (l' : List UInt8) (ok : Bool), rpRes (rdRep (false, l)) = (⟨code, time, t, fired, notice, dead⟩, bd, l') ∧ rpGood (rdRep (false, l)) = ok ∧ fired.length ≤ 64 ∧ l'.length ≤ l.length ∧
    (ok = true → bd = false ∧ ∃ tm : Nat, time = tm ∧ (RepN.mk code tm t fired notice dead).Ok tm ∧ l = encR code tm t fired notice dead ++ l') := by
  obtain ⟨r, hr⟩ : ∃ r, r = rdRep (false, l) := ⟨_, rfl⟩
  cases hok : rpGood r
  · refine ⟨0, 0, tkZero, [], 0, 0, true, [], false, ?_, by rw [← hr]; exact hok, by simp, by simp, fun h => by cases h⟩
    rw [← hr, rpRes, hok]; rfl
  · have hg := hok
    rw [hr] at hg
    obtain ⟨h1, h2⟩ := rpGood_ok hg
    rw [← hr] at h1 h2
    obtain ⟨⟨code, time, t, fired, notice, dead⟩, bd, l'⟩ := r
    simp only at h1 h2
    subst h1
    have ht := h2.time
    simp only at ht
    have hsp := rdRep_split hr.symm (by simp only; rw [ht]; omega)
    have h2' := h2
    rw [RepN.bytes] at hsp
    simp only at hsp
    refine ⟨code, time, t, fired, notice, dead, false, l', true, by rw [← hr, rpRes, if_pos hok], by rw [← hr]; exact hok, h2.fl, by rw [hsp]; simp, fun _ => ⟨rfl, time.toNat, ht, ?_, hsp⟩⟩
    rw [← ht]; exact h2
end Go.Proofs.Ytmgmjehebbggaaa
end

section
namespace Go.Proofs.Ytmgmjehebbggaaa
open Go.RowKit
set_option maxHeartbeats 4000000
set_option maxRecDepth 100000
set_option linter.unusedVariables false

theorem append_src {ops : Array Oper} {rest : List Oper} {o : Oper} {a : Act} {Q : Exit → Act → World → Prop} {w w0 : World} (hgd : o.guard = none) (s x : Operand)
    (ho : o.op = .call { callee := .builtin .append, args := #[s, x], argTypes := #[52, 52] })
    (l m : List UInt8) (v xv : Value) (hsv : a.eval s = v) (hx : a.eval x = xv) (h1 : OwnX w0 w l v) (h2 : Src Try.prog 1 52 xv m.length (m.map B8) w) (hsm : l.length + m.length ≤ 1000000)
    (h : ∀ v' w', OwnX w0 w' (l ++ m) v' → wpList Try.prog ops Q rest (a.put o.dst v') w') : wpList Try.prog ops Q (o :: rest) a w := by
  obtain ⟨i0, hi, hz0, hz1, hz2⟩ := info_parts info8
  obtain ⟨r, ho1, hr, t0⟩ := h1
  refine wpList_own_append hgd s x 52 52 ho 5 i0 (.int .u8 0) 1 1 Try.underlying52 hi hz0 hz1 hz2 rfl v r l.length (l.map B8) hsv ho1 xv m.length (m.map B8) hx h2 (by simp only [maxLen]; omega) (by omega) ?_
  intro v1 r1 w2 ho2 ht2 hr2
  exact h v1 w2 (OwnX.app hr t0 ho2 ht2 hr2)
theorem OwnX.lit0 (w : World) : OwnX w (w.alloc (.cells #[] 5)) [] (.slice (some ⟨w.heap.size, 0, none⟩) 0 0) :=
  ⟨some w.heap.size, Own.lit w 5 1 #[] 0 (by simp) rfl, fun q e => by injection e with e; omega, (Touch.refl _ w).alloc _⟩
theorem OwnX.reads {w0 w : World} {l : List UInt8} {v : Value} (h : OwnX w0 w l v) : ∃ A n c, v = .slice A n c ∧ l.length = n ∧ n ≤ c ∧ c ≤ maxLen ∧ Rd w (fun k => w0.heap.size ≤ k ∧ k < w.heap.size) A n (l.map B8) ∧ Touch (fun _ => False) w0 w := by
  obtain ⟨r, ho, hr, t⟩ := h
  obtain ⟨A, c, hv, h1, h2, -, hrd⟩ := ho.rd
  exact ⟨A, _, c, hv, rfl, h1, h2, hrd.inside.mono (fun k hk => ⟨hr k hk.1, hk.2⟩), t⟩
/-- What a reply that may be is. -/
theorem sound_is {a : RpV} (h : rpSound a.code a.time a.t a.fired.length a.dead = true) (hid : a.t.id < 18446744073709551616) (hn : a.notice < 18446744073709551616) (hf : ∀ n ∈ a.fired, n < 256 ^ 8) :
    ∃ (code tm : Nat) (t : TkN) (dead : Nat), a = ⟨code, tm, t.v, a.fired, a.notice, dead⟩ ∧ (RepN.mk code tm t a.fired a.notice dead).Ok tm := by
  obtain ⟨code, time, t, fired, notice, dead⟩ := a
  simp only at h hid hn hf
  have h' := h
  rw [rpSound, Bool.and_eq_true, Bool.or_eq_true, decide_eq_true_eq] at h
  obtain ⟨⟨h1, h2, h3, h4, h5, h6, h7⟩, ht⟩ := h
  obtain ⟨c, rfl⟩ := Int.eq_ofNat_of_zero_le h1
  obtain ⟨tm, rfl⟩ := Int.eq_ofNat_of_zero_le h3
  obtain ⟨d, rfl⟩ := Int.eq_ofNat_of_zero_le h6
  obtain ⟨tn, htn⟩ : ∃ tn : TkN, t = tn.v := by
    rcases ht with ht | ht
    · refine ⟨tkZero, ?_⟩
      obtain ⟨a1, a2, a3, a4, a5, a6, a7, a8, a9⟩ := t
      have := of_decide_eq_true ht
      simp only at this
      obtain ⟨rfl, rfl, rfl, rfl, rfl, rfl, rfl, rfl, rfl⟩ := this
      rfl
    · obtain ⟨n, hn, _⟩ := tkSound_N ht
      exact ⟨n, hn⟩
  subst htn
  refine ⟨c, tm, tn, d, rfl, ?_⟩
  have := of_rpSound (r := ⟨c, tm, tn, fired, notice, d⟩) h' hid hn hf
  simpa using this
def RpV.okp (a : RpV) : Prop := a.t.ok ∧ a.t.id < 18446744073709551616 ∧ a.notice < 18446744073709551616 ∧ ∀ n ∈ a.fired, n < 256 ^ 8
end Go.Proofs.Ytmgmjehebbggaaa
end
