/- The walk of ReplyWrites. -/
import Derived.Test.YtmgmjehebbggaaaRepP
namespace Go.Proofs.Ytmgmjehebbggaaa
open Go.RowKit
set_option maxHeartbeats 4000000
set_option maxRecDepth 100000
set_option linter.unusedVariables false

theorem append_src {ops : Array Oper} {rest : List Oper} {o : Oper} {a : Act} {Q : Exit → Act → World → Prop} {w w0 : World} (hgd : o.guard = none) (s x : Operand)
    (ho : o.op = .call { callee := .builtin .append, args := #[s, x], argTypes := #[52, 52] })
    (l m : List UInt8) (v xv : Value) (hsv : a.eval s = v) (hx : a.eval x = xv) (h1 : OwnX w0 w l v) (h2 : Src Try.prog 1 52 xv m.length (m.map B8) w) (hsm : l.length + m.length ≤ 1000000)
    (h : ∀ v' w', OwnX w0 w' (l ++ m) v' → wpList Try.prog ops Q rest (a.put o.dst v') w') : wpList Try.prog ops Q (o :: rest) a w := by
  obtain ⟨i0, hi, hz0, hz1, hz2⟩ := info_parts info8
  obtain ⟨r, ho1, hr, t0⟩ := h1
  refine wpList_own_append hgd s x 52 52 ho 5 i0 (.int .u8 0) 1 1 Try.underlying52 hi hz0 hz1 hz2 rfl v r l.length (l.map B8) hsv ho1 xv m.length (m.map B8) hx h2 (by simp only [maxLen]; omega) (by omega) ?_
  intro v1 r1 w2 ho2 ht2 hr2
  exact h v1 w2 (OwnX.app hr t0 ho2 ht2 hr2)
theorem OwnX.lit0 (w : World) : OwnX w (w.alloc (.cells #[] 5)) [] (.slice (some ⟨w.heap.size, 0, none⟩) 0 0) :=
  ⟨some w.heap.size, Own.lit w 5 1 #[] 0 (by simp) rfl, fun q e => by injection e with e; omega, (Touch.refl _ w).alloc _⟩
theorem OwnX.reads {w0 w : World} {l : List UInt8} {v : Value} (h : OwnX w0 w l v) : ∃ A n c, v = .slice A n c ∧ l.length = n ∧ n ≤ c ∧ c ≤ maxLen ∧ Rd w (fun k => w0.heap.size ≤ k ∧ k < w.heap.size) A n (l.map B8) ∧ Touch (fun _ => False) w0 w := by
  obtain ⟨r, ho, hr, t⟩ := h
  obtain ⟨A, c, hv, h1, h2, -, hrd⟩ := ho.rd
  exact ⟨A, _, c, hv, rfl, h1, h2, hrd.inside.mono (fun k hk => ⟨hr k hk.1, hk.2⟩), t⟩
/-- What a reply that may be is. -/
theorem sound_is {a : RpV} (h : rpSound a.code a.time a.t a.fired.length a.dead = true) (hid : a.t.id < 18446744073709551616) (hn : a.notice < 18446744073709551616) (hf : ∀ n ∈ a.fired, n < 256 ^ 8) :
    ∃ (code tm : Nat) (t : TkN) (dead : Nat), a = ⟨code, tm, t.v, a.fired, a.notice, dead⟩ ∧ (RepN.mk code tm t a.fired a.notice dead).Ok tm := by
  obtain ⟨code, time, t, fired, notice, dead⟩ := a
  simp only at h hid hn hf
  have h' := h
  rw [rpSound, Bool.and_eq_true, Bool.or_eq_true, decide_eq_true_eq] at h
  obtain ⟨⟨h1, h2, h3, h4, h5, h6, h7⟩, ht⟩ := h
  obtain ⟨c, rfl⟩ := Int.eq_ofNat_of_zero_le h1
  obtain ⟨tm, rfl⟩ := Int.eq_ofNat_of_zero_le h3
  obtain ⟨d, rfl⟩ := Int.eq_ofNat_of_zero_le h6
  obtain ⟨tn, htn⟩ : ∃ tn : TkN, t = tn.v := by
    rcases ht with ht | ht
    · refine ⟨tkZero, ?_⟩
      obtain ⟨a1, a2, a3, a4, a5, a6, a7, a8, a9⟩ := t
      have := of_decide_eq_true ht
      simp only at this
      obtain ⟨rfl, rfl, rfl, rfl, rfl, rfl, rfl, rfl, rfl⟩ := this
      rfl
    · obtain ⟨n, hn, _⟩ := tkSound_N ht
      exact ⟨n, hn⟩
  subst htn
  refine ⟨c, tm, tn, d, rfl, ?_⟩
  have := of_rpSound (r := ⟨c, tm, tn, fired, notice, d⟩) h' hid hn hf
  simpa using this
def RpV.okp (a : RpV) : Prop := a.t.ok ∧ a.t.id < 18446744073709551616 ∧ a.notice < 18446744073709551616 ∧ ∀ n ∈ a.fired, n < 256 ^ 8
end Go.Proofs.Ytmgmjehebbggaaa
