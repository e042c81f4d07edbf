/- What ref16.Put and ref19.Put write: the same bytes. -/
import Derived.Test.YtmgmjehebbggaaaRepF
import Derived.Test.YtmgmjehebbggaaaPlan
namespace Go.Proofs.Ytmgmjehebbggaaa
open Go.RowKit
set_option maxHeartbeats 4000000
set_option maxRecDepth 100000
set_option linter.unusedVariables false

/-- v is a row with the bytes l, of the call's own since w0. -/
def OwnX (w0 w : World) (l : List UInt8) (v : Value) : Prop :=
  ∃ r, Own w 5 1 v r l.length (l.map B8) ∧ (∀ q, r = some q → w0.heap.size ≤ q) ∧ Touch (fun _ => False) w0 w
theorem OwnX.start {w0 w : World} (t : Touch (fun _ => False) w0 w) : OwnX w0 w [] (.slice none 0 0) := ⟨none, Own.nil _ _ _, (fun _ e => by cases e), t⟩
theorem OwnX.far {w0 w w1 : World} {l : List UInt8} {v : Value} (h : OwnX w0 w l v) (t : Touch (fun _ => False) w w1) : OwnX w0 w1 l v := by
  obtain ⟨r, ho, hr, t0⟩ := h
  exact ⟨r, ho.touch t (fun _ _ e => e), hr, t0.trans t (fun _ _ e => e)⟩
theorem OwnX.of {w0 w w1 : World} {l : List UInt8} {e : Ending} (t : Touch (fun _ => False) w0 w) (h : NewOwn w l e w1) : ∃ v, e = .returned v ∧ OwnX w0 w1 l v := by
  obtain ⟨v, k, he, ho, hk, t1⟩ := h
  exact ⟨v, he, some k, ho, fun q e => by injection e with e; have := t.size; omega, t.trans t1 (fun _ _ e => e)⟩
theorem OwnX.new {w0 w : World} {l : List UInt8} {v : Value} (h : OwnX w0 w l v) (hl : 0 < l.length) : NewOwn w0 l (.returned v) w := by
  obtain ⟨r, ho, hr, t0⟩ := h
  obtain ⟨g, cap, cur, e, -⟩ := ho.2.resolve_left (fun ⟨_, hn, _⟩ => by omega)
  subst e
  exact ⟨v, g, rfl, ho, hr g rfl, t0⟩
/-- Behind an append. -/
theorem OwnX.app {w0 w w2 : World} {l m : List UInt8} {v1 : Value} {r r1 : Option Nat} (hr : ∀ q, r = some q → w0.heap.size ≤ q) (t0 : Touch (fun _ => False) w0 w) (ho1 : Own w2 5 1 v1 r1 (l.length + m.length) (l.map B8 ++ m.map B8)) (ht1 : Touch (fun k => r = some k) w w2) (hr1 : r1 = r ∨ ∃ k, r1 = some k ∧ w.heap.size ≤ k) : OwnX w0 w2 (l ++ m) v1 := by
  have hs := t0.size
  refine ⟨r1, by rw [List.length_append, List.map_append]; exact ho1, fun q e => ?_, t0.trans ht1 (fun q hq e => by have := hr q e; omega)⟩
  rcases hr1 with e' | ⟨q', e', hq'⟩
  · exact hr q (e'.symm.trans e)
  · rw [e'] at e; injection e with e; omega

theorem NewOwn.before {w w1 w2 : World} {l : List UInt8} {e : Ending} (t : Touch (fun _ => False) w w1) (h : NewOwn w1 l e w2) : NewOwn w l e w2 := by
  obtain ⟨v, k, he, ho, hk, t1⟩ := h
  exact ⟨v, k, he, ho, Nat.le_trans t.size hk, t.trans t1 (fun _ _ e => e)⟩
theorem Rd.litB (w : World) (g : Nat) (hg : w.heap.size = g) (t : TypeId) (cs : List Value) (n : Nat) (hn : cs.length = n) : Rd (w.alloc (.cells cs.toArray t)) (fun k => k = g) (some ⟨g, 0, none⟩) n cs := by
  subst hg; exact Rd.lit w t cs n hn
theorem own_append_list {ops : Array Oper} {rest : List Oper} {o : Oper} {a : Act} {Q : Exit → Act → World → Prop} {w w0 wx : World} (hgd : o.guard = none) (s x : Operand)
    (ho : o.op = .call { callee := .builtin .append, args := #[s, x], argTypes := #[52, 52] })
    (l m : List UInt8) (v xv : Value) (hsv : a.eval s = v) (hx : a.eval x = xv) (h1 : OwnX w0 w l v) (h2 : OwnX wx w m xv) (hsm : l.length + m.length ≤ 1000000)
    (h : ∀ v' w', OwnX w0 w' (l ++ m) v' → Touch (fun q => w0.heap.size ≤ q) w w' → wpList Try.prog ops Q rest (a.put o.dst v') w') : wpList Try.prog ops Q (o :: rest) a w := by
  obtain ⟨i0, hi, hz0, hz1, hz2⟩ := info_parts info8
  obtain ⟨r, ho1, hr, t0⟩ := h1
  obtain ⟨rx, hox, hrx, tx⟩ := h2
  refine wpList_own_append hgd s x 52 52 ho 5 i0 (.int .u8 0) 1 1 Try.underlying52 hi hz0 hz1 hz2 rfl v r l.length (l.map B8) hsv ho1 xv m.length (m.map B8) hx hox.src (by simp only [maxLen]; omega) (by omega) ?_
  intro v1 r1 w2 ho2 ht2 hr2
  exact h v1 w2 (OwnX.app hr t0 ho2 ht2 hr2) (ht2.mono (fun q _ e => hr q e))
theorem own_append_op {o : Oper} {a : Act} {K : Act → World → Prop} {Q : Exit → Act → World → Prop} {w w0 wx : World} (s x : Operand)
    (ho : o.op = .call { callee := .builtin .append, args := #[s, x], argTypes := #[52, 52] })
    (l m : List UInt8) (v xv : Value) (hsv : a.eval s = v) (hx : a.eval x = xv) (h1 : OwnX w0 w l v) (h2 : OwnX wx w m xv) (hsm : l.length + m.length ≤ 1000000)
    (h : ∀ v' w', OwnX w0 w' (l ++ m) v' → Touch (fun q => w0.heap.size ≤ q) w w' → K (a.put o.dst v') w') : o.wp Try.prog a w K Q := by
  obtain ⟨i0, hi, hz0, hz1, hz2⟩ := info_parts info8
  obtain ⟨r, ho1, hr, t0⟩ := h1
  obtain ⟨rx, hox, hrx, tx⟩ := h2
  refine wp_own_append s x 52 52 ho 5 i0 (.int .u8 0) 1 1 Try.underlying52 hi hz0 hz1 hz2 rfl v r l.length (l.map B8) hsv ho1 xv m.length (m.map B8) hx hox.src (by simp only [maxLen]; omega) (by omega) ?_
  intro v1 r1 w2 ho2 ht2 hr2
  exact h v1 w2 (OwnX.app hr t0 ho2 ht2 hr2) (ht2.mono (fun q _ e => hr q e))

theorem ftk_any (t : TkN) (w : World) (ht : t.ok) (hb : t.bd) :
    Calls Try.prog 54 #[.agg #[.int .u64 t.id, .int .i64 t.contract, .int .i64 t.state, .int .i64 t.level, .int .u64 t.gen, .int .i64 t.from_, .int .i64 t.left, .int .i64 t.due, .int .i64 t.told]] w (NewOwn w (encs t.nums)) := by
  have hel : 0 < (encs t.nums).length := by simp [encs, TkN.nums, encN]
  have hnl : t.nums.length = 9 := rfl
  obtain ⟨id, con, st, lev, gen, fr, le, du, to_⟩ := t
  obtain ⟨b1, b2, b3, b4, b5, b6, b7, b8⟩ := hb
  have HK := Lib.hid (fun j (hj : j < (TkN.nums ⟨id, con, st, lev, gen, fr, le, du, to_⟩).length) => ht _ (List.getElem_mem hj))
  simp only at b1 b2 b3 b4 b5 b6 b7 b8 ⊢
  obtain ⟨W1, hW1⟩ : ∃ W1, W1 = ((w.alloc (.cells #[.int .u64 id, .int .i64 con, .int .i64 st, .int .i64 lev, .int .u64 gen, .int .i64 fr, .int .i64 le, .int .i64 du, .int .i64 to_] 32)).alloc (.cells #[.int .u64 id, .int .u64 con, .int .u64 st, .int .u64 lev, .int .u64 gen, .int .u64 fr, .int .u64 le, .int .u64 du, .int .u64 to_] 29)) := ⟨_, rfl⟩
  have HT0 := Lib.hid (show Touch (fun _ => False) w W1 from hW1 ▸ (((Touch.refl (fun _ => False) w).alloc _).alloc _))
  have HRd := Lib.hid (show Rd W1 (fun k => k = w.heap.size + 1) (some ⟨w.heap.size + 1, 0, none⟩) 9 ((TkN.nums ⟨id, con, st, lev, gen, fr, le, du, to_⟩).map U64) from hW1 ▸ Rd.litB (w.alloc (.cells #[.int .u64 id, .int .i64 con, .int .i64 st, .int .i64 lev, .int .u64 gen, .int .i64 fr, .int .i64 le, .int .i64 du, .int .i64 to_] 32)) _ (by simp) 29 ((TkN.nums ⟨id, con, st, lev, gen, fr, le, du, to_⟩).map U64) 9 rfl)
  have HW1 := Lib.hid hW1
  clear ht hW1
  generalize (TkN.nums ⟨id, con, st, lev, gen, fr, le, du, to_⟩) = N at *
  go_enter Try.func54, Try.ntmps54
  go_wp2_with fail
  rw [← HW1.out]
  clear HW1
  go_loopw [3, 33] (fun b i wr => ∃ j : Nat, j ≤ 9 ∧ i = .int .i64 j ∧ OwnX W1 wr (encs (N.take j)) b) (fun _ i _ => 9 - (intOf i).toNat)
  case atStart => exact ⟨0, by omega, rfl, by simpa [encs] using OwnX.start (Touch.refl _ W1)⟩
  case round =>
    obtain ⟨j, hj, rfl, hM⟩ := hrel
    have HM := Lib.hid hM
    clear hM
    by_cases hjk : j < 9
    · obtain ⟨_, _, _, tm⟩ := HM.out
      obtain ⟨a, off, ea, _, _, hc⟩ := (HRd.out.touch tm (fun _ _ e => e)).2 (by omega)
      injection ea with ea
      injection ea with ea1 ea2
      subst ea1 ea2
      have hcj := hc j (U64 (N.getD j 0)) (by simp [List.getD, List.getElem?_eq_getElem (show j < N.length by omega)])
      simp only [U64, Nat.zero_add] at hcj
      have HE := Lib.hid (encs_take N j (by omega))
      have hnj : N.getD j 0 < 18446744073709551616 := by rw [List.getD, List.getElem?_eq_getElem (show j < N.length by omega)]; exact HK.out j (by omega)
      have hl1 := encs_len (N.take j)
      have hl3 : (N.take j).length ≤ 9 := by simp; omega
      have hl2 := encN_len 0 (N.getD j 0)
      clear hc tm
      generalize N.getD j 0 = n at *
      go_wp2_with (first
        | (go_at_call 35
           go_must (refine (fnum_any n _ (by omega)).mono ?_)
           rintro e w2 h2
           have hm2 := HM.out.far h2.choose_spec.choose_spec.2.2.2
           obtain ⟨x, rfl, hx2⟩ := OwnX.of (Touch.refl _ _) h2
           have HM2 := Lib.hid hm2
           have HX2 := Lib.hid hx2
           clear h2 hm2 hx2)
        | (at_builtin
           go_must (refine own_append_list rfl _ _ rfl _ _ _ _ rfl rfl HM2.out HX2.out (by omega) ?_)
           intro v3 w3 h3 t3
           have HM3 := Lib.hid h3
           clear h3 t3))
      go_roundw
      case rel => exact ⟨j + 1, by omega, by go_num, by rw [HE.out]; exact HM3.out⟩
      case measure => simp [intOf]; omega
    · obtain rfl : j = 9 := by omega
      go_wp2
      go_ret
      exact NewOwn.before HT0.out (OwnX.new (by have := HM.out; rwa [List.take_of_length_le (by omega)] at this) hel)
end Go.Proofs.Ytmgmjehebbggaaa
