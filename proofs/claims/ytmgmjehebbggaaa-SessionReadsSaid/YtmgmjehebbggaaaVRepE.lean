/- A writer's calls on literals; a row of bytes of the call's own, appended to. What Writer's calls do on literal lists; what ticket.Put and reply.Put write. -/
import Derived.Test.YtmgmjehebbggaaaVQuillZ
import Derived.Test.YtmgmjehebbggaaaPlan
import Derived.Test.YtmgmjehebbggaaaVRepD
section
namespace Go.Proofs.Ytmgmjehebbggaaa
open Go.RowKit
set_option maxHeartbeats 4000000
set_option maxRecDepth 100000
set_option linter.unusedVariables false

theorem WGo.far {w w1 w2 : World} {g : Nat} {r : Option Nat} {l : List UInt8} (h : WGo w g r l w1) (t : Touch (fun _ => False) w1 w2) : WGo w g r l w2 := by
  obtain ⟨r1, hw, t1, hf⟩ := h
  exact ⟨r1, hw.touch t (fun e => e) (fun _ _ e => e), t1.trans t (fun _ _ e => e.elim), hf⟩
theorem WGo.blk {w w1 : World} {g : Nat} {r : Option Nat} {l : List UInt8} (h : WGo w g r l w1) {b : Nat} {T : TypeId} {cs : Array Value} (hb : Blk w b T cs) (h1 : b ≠ g) (h2 : r ≠ some b) : Blk w1 b T cs := by
  obtain ⟨_, _, t, _⟩ := h
  exact t.blk hb (by rintro (e | e); exact h1 e; exact h2 e)
theorem WGo.start2 {w w1 : World} {g : Nat} {r : Option Nat} {l : List UInt8} (h : WAt w g r l) (t : Touch (fun _ => False) w w1) : WGo w g r l w1 := (WGo.start h).far t
theorem WAt.ltr {w : World} {g : Nat} {r : Option Nat} {l : List UInt8} (h : WAt w g r l) : ∀ k, r = some k → k < w.heap.size := by
  obtain ⟨_, v, _, ho⟩ := h
  exact fun k e => ho.lt k e
theorem wnum_lit {w w1 : World} {g : Nat} {r : Option Nat} {l : List UInt8} (h : WGo w g r l w1) (ns : List Nat) (p : Nat) (hp : w1.heap.size = p) (cs : Array Value) (hcs : cs = (ns.map U64).toArray) (n c : Nat) (hn : n = ns.length)
    (hns : ∀ n ∈ ns, n < 256 ^ 8) (hsm : l.length + 9 * ns.length ≤ 1000000) :
    Calls Try.prog 47 #[.pointer (some ⟨g, 0, none⟩), .slice (some ⟨p, 0, none⟩) n c] (w1.alloc (.cells cs 29)) fun e w2 => e = .returned (.tuple #[]) ∧ WGo w g r (l ++ encs ns) w2 := by
  subst hp hcs hn
  obtain ⟨r1, hw1, t1, hf1⟩ := h
  have hgl := hw1.lt
  have hrl := hw1.ltr
  refine (wnum_any g r1 l (fun k => k = w1.heap.size) _ c ns _ (hw1.touch ((Touch.refl (fun _ => False) w1).alloc _) (fun e => e) (fun _ _ e => e)) (Rd.lit w1 29 (ns.map U64) _ (by simp)) (fun k hk => ⟨by omega, fun e => by have := hrl k e; omega⟩) hns hsm).mono ?_
  rintro e w2 ⟨rfl, h2⟩
  exact ⟨rfl, WGo.next (t1.alloc _) hf1 h2⟩
theorem wint_lit {w w1 : World} {g : Nat} {r : Option Nat} {l : List UInt8} (h : WGo w g r l w1) (ns : List Int) (p : Nat) (hp : w1.heap.size = p) (cs : Array Value) (hcs : cs = (ns.map I64).toArray) (n c : Nat) (hn : n = ns.length)
    (hns : ∀ n ∈ ns, -9223372036854775808 ≤ n ∧ n ≤ 9223372036854775807) (hsm : l.length + 9 * ns.length ≤ 1000000) :
    Calls Try.prog 70 #[.pointer (some ⟨g, 0, none⟩), .slice (some ⟨p, 0, none⟩) n c] (w1.alloc (.cells cs 2)) fun e w2 => e = .returned (.tuple #[]) ∧ WGo w g r (l ++ encIs ns) w2 := by
  subst hp hcs hn
  obtain ⟨r1, hw1, t1, hf1⟩ := h
  have hgl := hw1.lt
  have hrl := hw1.ltr
  refine (wint_any g r1 l (fun k => k = w1.heap.size) _ c ns _ (hw1.touch ((Touch.refl (fun _ => False) w1).alloc _) (fun e => e) (fun _ _ e => e)) (Rd.lit w1 2 (ns.map I64) _ (by simp)) (fun k hk => ⟨by omega, fun e => by have := hrl k e; omega⟩) hns hsm).mono ?_
  rintro e w2 ⟨rfl, h2⟩
  exact ⟨rfl, WGo.next (t1.alloc _) hf1 h2⟩
def OwnX (w0 w : World) (l : List UInt8) (v : Value) : Prop :=
  ∃ r, Own w 5 1 v r l.length (l.map B8) ∧ (∀ q, r = some q → w0.heap.size ≤ q) ∧ Touch (fun _ => False) w0 w
theorem OwnX.start {w0 w : World} (t : Touch (fun _ => False) w0 w) : OwnX w0 w [] (.slice none 0 0) := ⟨none, Own.nil _ _ _, (fun _ e => by cases e), t⟩
theorem OwnX.far {w0 w w1 : World} {l : List UInt8} {v : Value} (h : OwnX w0 w l v) (t : Touch (fun _ => False) w w1) : OwnX w0 w1 l v := by
  obtain ⟨r, ho, hr, t0⟩ := h
  exact ⟨r, ho.touch t (fun _ _ e => e), hr, t0.trans t (fun _ _ e => e)⟩
theorem OwnX.of {w0 w w1 : World} {l : List UInt8} {e : Ending} (t : Touch (fun _ => False) w0 w) (h : NewOwn w l e w1) : ∃ v, e = .returned v ∧ OwnX w0 w1 l v := by
  obtain ⟨v, k, he, ho, hk, t1⟩ := h
  exact ⟨v, he, some k, ho, fun q e => by injection e with e; have := t.size; omega, t.trans t1 (fun _ _ e => e)⟩
theorem OwnX.new {w0 w : World} {l : List UInt8} {v : Value} (h : OwnX w0 w l v) (hl : 0 < l.length) : NewOwn w0 l (.returned v) w := by
  obtain ⟨r, ho, hr, t0⟩ := h
  obtain ⟨g, cap, cur, e, -⟩ := ho.2.resolve_left (fun ⟨_, hn, _⟩ => by omega)
  subst e
  exact ⟨v, g, rfl, ho, hr g rfl, t0⟩
theorem OwnX.app {w0 w w2 : World} {l m : List UInt8} {v1 : Value} {r r1 : Option Nat} (hr : ∀ q, r = some q → w0.heap.size ≤ q) (t0 : Touch (fun _ => False) w0 w) (ho1 : Own w2 5 1 v1 r1 (l.length + m.length) (l.map B8 ++ m.map B8)) (ht1 : Touch (fun k => r = some k) w w2) (hr1 : r1 = r ∨ ∃ k, r1 = some k ∧ w.heap.size ≤ k) : OwnX w0 w2 (l ++ m) v1 := by
  have hs := t0.size
  refine ⟨r1, by rw [List.length_append, List.map_append]; exact ho1, fun q e => ?_, t0.trans ht1 (fun q hq e => by have := hr q e; omega)⟩
  rcases hr1 with e' | ⟨q', e', hq'⟩
  · exact hr q (e'.symm.trans e)
  · rw [e'] at e; injection e with e; omega
theorem NewOwn.before {w w1 w2 : World} {l : List UInt8} {e : Ending} (t : Touch (fun _ => False) w w1) (h : NewOwn w1 l e w2) : NewOwn w l e w2 := by
  obtain ⟨v, k, he, ho, hk, t1⟩ := h
  exact ⟨v, k, he, ho, Nat.le_trans t.size hk, t.trans t1 (fun _ _ e => e)⟩
theorem Rd.litB (w : World) (g : Nat) (hg : w.heap.size = g) (t : TypeId) (cs : List Value) (n : Nat) (hn : cs.length = n) : Rd (w.alloc (.cells cs.toArray t)) (fun k => k = g) (some ⟨g, 0, none⟩) n cs := by
  subst hg; exact Rd.lit w t cs n hn
theorem own_append_list {ops : Array Oper} {rest : List Oper} {o : Oper} {a : Act} {Q : Exit → Act → World → Prop} {w w0 wx : World} (hgd : o.guard = none) (s x : Operand)
    (ho : o.op = .call { callee := .builtin .append, args := #[s, x], argTypes := #[52, 52] })
    (l m : List UInt8) (v xv : Value) (hsv : a.eval s = v) (hx : a.eval x = xv) (h1 : OwnX w0 w l v) (h2 : OwnX wx w m xv) (hsm : l.length + m.length ≤ 1000000)
    (h : ∀ v' w', OwnX w0 w' (l ++ m) v' → Touch (fun q => w0.heap.size ≤ q) w w' → wpList Try.prog ops Q rest (a.put o.dst v') w') : wpList Try.prog ops Q (o :: rest) a w := by
  obtain ⟨i0, hi, hz0, hz1, hz2⟩ := info_parts info8
  obtain ⟨r, ho1, hr, t0⟩ := h1
  obtain ⟨rx, hox, hrx, tx⟩ := h2
  refine wpList_own_append hgd s x 52 52 ho 5 i0 (.int .u8 0) 1 1 Try.underlying52 hi hz0 hz1 hz2 rfl v r l.length (l.map B8) hsv ho1 xv m.length (m.map B8) hx hox.src (by simp only [maxLen]; omega) (by omega) ?_
  intro v1 r1 w2 ho2 ht2 hr2
  exact h v1 w2 (OwnX.app hr t0 ho2 ht2 hr2) (ht2.mono (fun q _ e => hr q e))
theorem own_append_op {o : Oper} {a : Act} {K : Act → World → Prop} {Q : Exit → Act → World → Prop} {w w0 wx : World} (s x : Operand)
    (ho : o.op = .call { callee := .builtin .append, args := #[s, x], argTypes := #[52, 52] })
    (l m : List UInt8) (v xv : Value) (hsv : a.eval s = v) (hx : a.eval x = xv) (h1 : OwnX w0 w l v) (h2 : OwnX wx w m xv) (hsm : l.length + m.length ≤ 1000000)
    (h : ∀ v' w', OwnX w0 w' (l ++ m) v' → Touch (fun q => w0.heap.size ≤ q) w w' → K (a.put o.dst v') w') : o.wp Try.prog a w K Q := by
  obtain ⟨i0, hi, hz0, hz1, hz2⟩ := info_parts info8
  obtain ⟨r, ho1, hr, t0⟩ := h1
  obtain ⟨rx, hox, hrx, tx⟩ := h2
  refine wp_own_append s x 52 52 ho 5 i0 (.int .u8 0) 1 1 Try.underlying52 hi hz0 hz1 hz2 rfl v r l.length (l.map B8) hsv ho1 xv m.length (m.map B8) hx hox.src (by simp only [maxLen]; omega) (by omega) ?_
  intro v1 r1 w2 ho2 ht2 hr2
  exact h v1 w2 (OwnX.app hr t0 ho2 ht2 hr2) (ht2.mono (fun q _ e => hr q e))
theorem OwnX.blk {w0 w : World} {l : List UInt8} {v : Value} (h : OwnX w0 w l v) {b : Nat} {T : TypeId} {cs : Array Value} (hb : Blk w0 b T cs) : Blk w b T cs := by
  obtain ⟨_, _, _, t⟩ := h
  exact t.blk hb (fun e => e)
theorem NewOwn.touch {w w1 : World} {l : List UInt8} {e : Ending} (h : NewOwn w l e w1) : Touch (fun _ => False) w w1 := by obtain ⟨_, _, _, _, _, t⟩ := h; exact t
theorem OwnX.touch {w0 w : World} {l : List UInt8} {v : Value} (h : OwnX w0 w l v) : Touch (fun _ => False) w0 w := by obtain ⟨_, _, _, t⟩ := h; exact t
end Go.Proofs.Ytmgmjehebbggaaa
end

section
namespace Go.Proofs.Ytmgmjehebbggaaa
open Go.RowKit
set_option maxHeartbeats 4000000
set_option maxRecDepth 100000
set_option linter.unusedVariables false

theorem wflag_lit {w w1 : World} {g : Nat} {r : Option Nat} {l : List UInt8} (h : WGo w g r l w1) (ns : List Bool) (p : Nat) (hp : w1.heap.size = p) (cs : Array Value) (hcs : cs = (ns.map F8).toArray) (n c : Nat) (hn : n = ns.length)
    (hsm : l.length + 9 * ns.length ≤ 1000000) :
    Calls Try.prog 71 #[.pointer (some ⟨g, 0, none⟩), .slice (some ⟨p, 0, none⟩) n c] (w1.alloc (.cells cs 4)) fun e w2 => e = .returned (.tuple #[]) ∧ WGo w g r (l ++ encFs ns) w2 := by
  subst hp hcs hn
  obtain ⟨r1, hw1, t1, hf1⟩ := h
  have hgl := hw1.lt
  have hrl := hw1.ltr
  refine (wflag_any g r1 l (fun k => k = w1.heap.size) _ c ns _ (hw1.touch ((Touch.refl (fun _ => False) w1).alloc _) (fun e => e) (fun _ _ e => e)) (Rd.lit w1 4 (ns.map F8) _ (by simp)) (fun k hk => ⟨by omega, fun e => by have := hrl k e; omega⟩) hsm).mono ?_
  rintro e w2 ⟨rfl, h2⟩
  exact ⟨rfl, WGo.next (t1.alloc _) hf1 h2⟩

/-- A ticket's numbers, all natural. -/
structure TkN where
  id : Nat
  contract : Nat
  state : Nat
  level : Nat
  gen : Nat
  from_ : Nat
  left : Nat
  due : Nat
  told : Nat
def TkN.v (t : TkN) : TkV := ⟨t.id, t.contract, t.state, t.level, t.gen, t.from_, t.left, t.due, t.told⟩
def TkN.nums (t : TkN) : List Nat := [t.id, t.contract, t.state, t.level, t.gen, t.from_, t.left, t.due, t.told]
def TkN.ok (t : TkN) : Prop := ∀ n ∈ t.nums, n < 18446744073709551616
theorem tkSound_N {t : TkV} (h : tkSound t = true) : ∃ n : TkN, t = n.v ∧ (t.id < 18446744073709551616 → n.ok) ∧ n.contract < 16 ∧ n.state ≤ 4 ∧ n.level < 6 ∧ n.gen ≤ 1152921504606846976 ∧ n.from_ ≤ 1125899906842624 ∧ n.left ≤ 1125899906842624 ∧ n.due ≤ 1125899906842624 ∧ n.told ≤ 2147483648 := by
  obtain ⟨id, con, st, lev, gen, fr, le, du, to_⟩ := t
  have h1 : (0 ≤ con ∧ con < 16 ∧ 0 ≤ lev ∧ lev < 6 ∧ 0 ≤ to_ ∧ to_ ≤ 2147483648 ∧ gen ≤ 1152921504606846976) ∧ (0 ≤ st ∧ st ≤ 4 ∧ 0 ≤ fr ∧ fr ≤ 1125899906842624 ∧ 0 ≤ le ∧ le ≤ 1125899906842624 ∧ 0 ≤ du ∧ du ≤ 1125899906842624) := by
    rw [tkSound, Bool.and_eq_true] at h
    obtain ⟨h1, h2⟩ := h
    have h1 : 0 ≤ con ∧ con < 16 ∧ 0 ≤ lev ∧ lev < 6 ∧ 0 ≤ to_ ∧ to_ ≤ 2147483648 ∧ gen ≤ 1152921504606846976 := of_decide_eq_true h1
    refine ⟨h1, ?_⟩
    simp only at h2
    split at h2
    · have h2 : gen ≠ 0 ∧ 1 ≤ le ∧ 0 ≤ fr ∧ du ≤ 1125899906842624 ∧ fr ≤ du ∧ le ≤ du - fr := of_decide_eq_true h2
      omega
    · split at h2
      · have h2 : gen = 0 ∧ du = 0 ∧ 1 ≤ le ∧ le ≤ 1125899906842624 ∧ 0 ≤ fr ∧ fr ≤ 1125899906842624 := of_decide_eq_true h2
        omega
      · rw [Bool.and_eq_true, decide_eq_true_eq] at h2
        obtain ⟨h3, h2⟩ := h2
        have h2 : gen = 0 ∧ fr = 0 ∧ le = 0 ∧ du = 0 := of_decide_eq_true h2
        omega
  obtain ⟨⟨a1, a2, a3, a4, a5, a6, a7⟩, b1, b2, b3, b4, b5, b6, b7, b8⟩ := h1
  refine ⟨⟨id, con.toNat, st.toNat, lev.toNat, gen, fr.toNat, le.toNat, du.toNat, to_.toNat⟩, ?_, ?_, ?_⟩
  · simp only [TkN.v, Int.toNat_of_nonneg a1, Int.toNat_of_nonneg a3, Int.toNat_of_nonneg a5, Int.toNat_of_nonneg b1, Int.toNat_of_nonneg b3, Int.toNat_of_nonneg b5, Int.toNat_of_nonneg b7]
  · intro hid n hn
    simp only [TkN.nums, List.mem_cons, List.not_mem_nil, or_false] at hn
    simp only at hid
    omega
  · simp only; omega

theorem tput_any (g : Nat) (r : Option Nat) (l : List UInt8) (t : TkN) (w w0 : World) (h : WGo w0 g r l w) (ht : t.ok) (hb : t.contract < 16 ∧ t.state ≤ 4 ∧ t.level < 6 ∧ t.gen ≤ 1152921504606846976 ∧ t.from_ ≤ 1125899906842624 ∧ t.left ≤ 1125899906842624 ∧ t.due ≤ 1125899906842624 ∧ t.told ≤ 2147483648) (hsm : l.length + 81 ≤ 1000000) :
    Calls Try.prog 72 #[.pointer (some ⟨g, 0, none⟩), .agg #[.int .u64 t.id, .int .i64 t.contract, .int .i64 t.state, .int .i64 t.level, .int .u64 t.gen, .int .i64 t.from_, .int .i64 t.left, .int .i64 t.due, .int .i64 t.told]] w fun e w' => e = .returned (.tuple #[]) ∧ WGo w0 g r (l ++ encs t.nums) w' := by
  obtain ⟨id, con, st, lev, gen, fr, le, du, to_⟩ := t
  obtain ⟨b1, b2, b3, b4, b5, b6, b7, b8⟩ := hb
  simp only at b1 b2 b3 b4 b5 b6 b7 b8 ⊢
  have HK := Lib.hid ht
  have HG := Lib.hid (h.far ((Touch.refl (fun _ => False) w).alloc (.cells #[.int .u64 id, .int .i64 con, .int .i64 st, .int .i64 lev, .int .u64 gen, .int .i64 fr, .int .i64 le, .int .i64 du, .int .i64 to_] 32)))
  clear h ht
  go_enter Try.func72, Try.ntmps72
  go_wp2_with (
    go_at_call 47
    go_must (refine (wnum_lit HG.out [id, con, st, lev, gen, fr, le, du, to_] _ (by simp) _ rfl 9 9 rfl HK.out (by simp; omega)).mono ?_)
    rintro e w2 ⟨rfl, h2⟩
    have H2 := Lib.hid h2
    clear h2)
  go_end0
  exact ⟨rfl, H2.out⟩
end Go.Proofs.Ytmgmjehebbggaaa
end
