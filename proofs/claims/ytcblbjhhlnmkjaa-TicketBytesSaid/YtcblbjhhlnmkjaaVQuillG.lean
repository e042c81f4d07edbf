/- What Writer's calls do on literal lists; what ticket.Put and reply.Put write. What reply.Put writes. What ref16.Put and ref19.Put write: the same bytes. What ref19.Put writes: the same bytes. What the calls of the reference's Reader do (chapter 1): they read just as quill's do. The reference's Reader, on: Num, Int, Flag, Raw, Text, End: told by the same Lean functions as quill's. -/
import Derived.Test.YtcblbjhhlnmkjaaVQuillZ
import Derived.Test.YtcblbjhhlnmkjaaPlan
import Derived.Test.YtcblbjhhlnmkjaaVQuillY
section
namespace Go.Proofs.Ytcblbjhhlnmkjaa
open Go.RowKit
set_option maxHeartbeats 4000000
set_option maxRecDepth 100000
set_option linter.unusedVariables false

theorem WGo.far {w w1 w2 : World} {g : Nat} {r : Option Nat} {l : List UInt8} (h : WGo w g r l w1) (t : Touch (fun _ => False) w1 w2) : WGo w g r l w2 := by
  obtain ⟨r1, hw, t1, hf⟩ := h
  exact ⟨r1, hw.touch t (fun e => e) (fun _ _ e => e), t1.trans t (fun _ _ e => e.elim), hf⟩
theorem WGo.blk {w w1 : World} {g : Nat} {r : Option Nat} {l : List UInt8} (h : WGo w g r l w1) {b : Nat} {T : TypeId} {cs : Array Value} (hb : Blk w b T cs) (h1 : b ≠ g) (h2 : r ≠ some b) : Blk w1 b T cs := by
  obtain ⟨_, _, t, _⟩ := h
  exact t.blk hb (by rintro (e | e); exact h1 e; exact h2 e)
theorem WGo.start2 {w w1 : World} {g : Nat} {r : Option Nat} {l : List UInt8} (h : WAt w g r l) (t : Touch (fun _ => False) w w1) : WGo w g r l w1 := (WGo.start h).far t
theorem WAt.ltr {w : World} {g : Nat} {r : Option Nat} {l : List UInt8} (h : WAt w g r l) : ∀ k, r = some k → k < w.heap.size := by
  obtain ⟨_, v, _, ho⟩ := h
  exact fun k e => ho.lt k e

theorem wnum_lit {w w1 : World} {g : Nat} {r : Option Nat} {l : List UInt8} (h : WGo w g r l w1) (ns : List Nat) (p : Nat) (hp : w1.heap.size = p) (cs : Array Value) (hcs : cs = (ns.map U64).toArray) (n c : Nat) (hn : n = ns.length)
    (hns : ∀ n ∈ ns, n < 256 ^ 8) (hsm : l.length + 9 * ns.length ≤ 1000000) :
    Calls Try.prog 57 #[.pointer (some ⟨g, 0, none⟩), .slice (some ⟨p, 0, none⟩) n c] (w1.alloc (.cells cs 22)) fun e w2 => e = .returned (.tuple #[]) ∧ WGo w g r (l ++ encs ns) w2 := by
  subst hp hcs hn
  obtain ⟨r1, hw1, t1, hf1⟩ := h
  have hgl := hw1.lt
  have hrl := hw1.ltr
  refine (wnum_any g r1 l (fun k => k = w1.heap.size) _ c ns _ (hw1.touch ((Touch.refl (fun _ => False) w1).alloc _) (fun e => e) (fun _ _ e => e)) (Rd.lit w1 22 (ns.map U64) _ (by simp)) (fun k hk => ⟨by omega, fun e => by have := hrl k e; omega⟩) hns hsm).mono ?_
  rintro e w2 ⟨rfl, h2⟩
  exact ⟨rfl, WGo.next (t1.alloc _) hf1 h2⟩
theorem wint_lit {w w1 : World} {g : Nat} {r : Option Nat} {l : List UInt8} (h : WGo w g r l w1) (ns : List Int) (p : Nat) (hp : w1.heap.size = p) (cs : Array Value) (hcs : cs = (ns.map I64).toArray) (n c : Nat) (hn : n = ns.length)
    (hns : ∀ n ∈ ns, -9223372036854775808 ≤ n ∧ n ≤ 9223372036854775807) (hsm : l.length + 9 * ns.length ≤ 1000000) :
    Calls Try.prog 60 #[.pointer (some ⟨g, 0, none⟩), .slice (some ⟨p, 0, none⟩) n c] (w1.alloc (.cells cs 2)) fun e w2 => e = .returned (.tuple #[]) ∧ WGo w g r (l ++ encIs ns) w2 := by
  subst hp hcs hn
  obtain ⟨r1, hw1, t1, hf1⟩ := h
  have hgl := hw1.lt
  have hrl := hw1.ltr
  refine (wint_any g r1 l (fun k => k = w1.heap.size) _ c ns _ (hw1.touch ((Touch.refl (fun _ => False) w1).alloc _) (fun e => e) (fun _ _ e => e)) (Rd.lit w1 2 (ns.map I64) _ (by simp)) (fun k hk => ⟨by omega, fun e => by have := hrl k e; omega⟩) hns hsm).mono ?_
  rintro e w2 ⟨rfl, h2⟩
  exact ⟨rfl, WGo.next (t1.alloc _) hf1 h2⟩
/-- A ticket's numbers, all natural. -/
structure TkN where
  id : Nat
  contract : Nat
  state : Nat
  level : Nat
  gen : Nat
  from_ : Nat
  left : Nat
  due : Nat
  told : Nat
def TkN.v (t : TkN) : TkV := ⟨t.id, t.contract, t.state, t.level, t.gen, t.from_, t.left, t.due, t.told⟩
def TkN.nums (t : TkN) : List Nat := [t.id, t.contract, t.state, t.level, t.gen, t.from_, t.left, t.due, t.told]
def TkN.ok (t : TkN) : Prop := ∀ n ∈ t.nums, n < 18446744073709551616
theorem tkSound_N {t : TkV} (h : tkSound t = true) : ∃ n : TkN, t = n.v ∧ (t.id < 18446744073709551616 → n.ok) ∧ n.contract < 16 ∧ n.state ≤ 4 ∧ n.level < 6 ∧ n.gen ≤ 1152921504606846976 ∧ n.from_ ≤ 1125899906842624 ∧ n.left ≤ 1125899906842624 ∧ n.due ≤ 1125899906842624 ∧ n.told ≤ 2147483648 := by
  obtain ⟨id, con, st, lev, gen, fr, le, du, to_⟩ := t
  have h1 : (0 ≤ con ∧ con < 16 ∧ 0 ≤ lev ∧ lev < 6 ∧ 0 ≤ to_ ∧ to_ ≤ 2147483648 ∧ gen ≤ 1152921504606846976) ∧ (0 ≤ st ∧ st ≤ 4 ∧ 0 ≤ fr ∧ fr ≤ 1125899906842624 ∧ 0 ≤ le ∧ le ≤ 1125899906842624 ∧ 0 ≤ du ∧ du ≤ 1125899906842624) := by
    rw [tkSound, Bool.and_eq_true] at h
    obtain ⟨h1, h2⟩ := h
    have h1 : 0 ≤ con ∧ con < 16 ∧ 0 ≤ lev ∧ lev < 6 ∧ 0 ≤ to_ ∧ to_ ≤ 2147483648 ∧ gen ≤ 1152921504606846976 := of_decide_eq_true h1
    refine ⟨h1, ?_⟩
    simp only at h2
    split at h2
    · have h2 : gen ≠ 0 ∧ 1 ≤ le ∧ 0 ≤ fr ∧ du ≤ 1125899906842624 ∧ fr ≤ du ∧ le ≤ du - fr := of_decide_eq_true h2
      omega
    · split at h2
      · have h2 : gen = 0 ∧ du = 0 ∧ 1 ≤ le ∧ le ≤ 1125899906842624 ∧ 0 ≤ fr ∧ fr ≤ 1125899906842624 := of_decide_eq_true h2
        omega
      · rw [Bool.and_eq_true, decide_eq_true_eq] at h2
        obtain ⟨h3, h2⟩ := h2
        have h2 : gen = 0 ∧ fr = 0 ∧ le = 0 ∧ du = 0 := of_decide_eq_true h2
        omega
  obtain ⟨⟨a1, a2, a3, a4, a5, a6, a7⟩, b1, b2, b3, b4, b5, b6, b7, b8⟩ := h1
  refine ⟨⟨id, con.toNat, st.toNat, lev.toNat, gen, fr.toNat, le.toNat, du.toNat, to_.toNat⟩, ?_, ?_, ?_⟩
  · simp only [TkN.v, Int.toNat_of_nonneg a1, Int.toNat_of_nonneg a3, Int.toNat_of_nonneg a5, Int.toNat_of_nonneg b1, Int.toNat_of_nonneg b3, Int.toNat_of_nonneg b5, Int.toNat_of_nonneg b7]
  · intro hid n hn
    simp only [TkN.nums, List.mem_cons, List.not_mem_nil, or_false] at hn
    simp only at hid
    omega
  · simp only; omega

theorem tput_any (g : Nat) (r : Option Nat) (l : List UInt8) (t : TkN) (w w0 : World) (h : WGo w0 g r l w) (ht : t.ok) (hb : t.contract < 16 ∧ t.state ≤ 4 ∧ t.level < 6 ∧ t.gen ≤ 1152921504606846976 ∧ t.from_ ≤ 1125899906842624 ∧ t.left ≤ 1125899906842624 ∧ t.due ≤ 1125899906842624 ∧ t.told ≤ 2147483648) (hsm : l.length + 81 ≤ 1000000) :
    Calls Try.prog 40 #[.pointer (some ⟨g, 0, none⟩), .agg #[.int .u64 t.id, .int .i64 t.contract, .int .i64 t.state, .int .i64 t.level, .int .u64 t.gen, .int .i64 t.from_, .int .i64 t.left, .int .i64 t.due, .int .i64 t.told]] w fun e w' => e = .returned (.tuple #[]) ∧ WGo w0 g r (l ++ encs t.nums) w' := by
  obtain ⟨id, con, st, lev, gen, fr, le, du, to_⟩ := t
  obtain ⟨b1, b2, b3, b4, b5, b6, b7, b8⟩ := hb
  simp only at b1 b2 b3 b4 b5 b6 b7 b8 ⊢
  have HK := Lib.hid ht
  have HG := Lib.hid (h.far ((Touch.refl (fun _ => False) w).alloc (.cells #[.int .u64 id, .int .i64 con, .int .i64 st, .int .i64 lev, .int .u64 gen, .int .i64 fr, .int .i64 le, .int .i64 du, .int .i64 to_] 74)))
  clear h ht
  go_enter Try.func40, Try.ntmps40
  go_wp2_with (
    go_at_call 57
    go_must (refine (wnum_lit HG.out [id, con, st, lev, gen, fr, le, du, to_] _ (by simp) _ rfl 9 9 rfl HK.out (by simp; omega)).mono ?_)
    rintro e w2 ⟨rfl, h2⟩
    have H2 := Lib.hid h2
    clear h2)
  go_end0
  exact ⟨rfl, H2.out⟩
end Go.Proofs.Ytcblbjhhlnmkjaa
end

section
namespace Go.Proofs.Ytcblbjhhlnmkjaa
open Go.RowKit
set_option maxHeartbeats 4000000
set_option maxRecDepth 100000
set_option linter.unusedVariables false

theorem wnum_go {w w1 : World} {g : Nat} {r : Option Nat} {l : List UInt8} {F : Nat → Prop} {A : Option Addr} {c : Nat} {ns : List Nat} (h : WGo w g r l w1) (hr : Rd w F A ns.length (ns.map U64)) (hF : ∀ k, F k → k ≠ g ∧ r ≠ some k) (hF2 : ∀ k, F k → k < w.heap.size)
    (hns : ∀ n ∈ ns, n < 256 ^ 8) (hsm : l.length + 9 * ns.length ≤ 1000000) :
    Calls Try.prog 57 #[.pointer (some ⟨g, 0, none⟩), .slice A ns.length c] w1 fun e w2 => e = .returned (.tuple #[]) ∧ WGo w g r (l ++ encs ns) w2 := by
  have hrd := h.rd hr hF
  obtain ⟨r1, hw1, t1, hf1⟩ := h
  refine (wnum_any g r1 l F A c ns _ hw1 hrd (fun k hk => ⟨(hF k hk).1, fun e => ?_⟩) hns hsm).mono ?_
  · rcases hf1 with e' | ⟨q, e', hq⟩
    · exact (hF k hk).2 (e'.symm.trans e)
    · rw [e'] at e; injection e with e; have := hF2 k hk; omega
  rintro e w2 ⟨rfl, h2⟩
  exact ⟨rfl, WGo.next t1 hf1 h2⟩
def encTk (t : TkN) : List UInt8 := bif tkNone t.v then [] else encs t.nums
def encR (code time : Nat) (t : TkN) (fired : List Nat) (notice dead : Nat) : List UInt8 :=
  encs [code] ++ encIs [(time : Int)] ++ encFs [!tkNone t.v] ++ encTk t ++ encs [fired.length] ++ encs fired ++ encs [notice, dead]
theorem encTk_len (t : TkN) : (encTk t).length ≤ 81 := by
  unfold encTk
  cases tkNone t.v
  · have := encs_len t.nums; simpa [TkN.nums] using this
  · simp
def TkN.bd (t : TkN) : Prop := t.contract < 16 ∧ t.state ≤ 4 ∧ t.level < 6 ∧ t.gen ≤ 1152921504606846976 ∧ t.from_ ≤ 1125899906842624 ∧ t.left ≤ 1125899906842624 ∧ t.due ≤ 1125899906842624 ∧ t.told ≤ 2147483648

end Go.Proofs.Ytcblbjhhlnmkjaa
end

section
namespace Go.Proofs.Ytcblbjhhlnmkjaa
open Go.RowKit
set_option maxHeartbeats 4000000
set_option maxRecDepth 100000
set_option linter.unusedVariables false

/-- v is a row with the bytes l, of the call's own since w0. -/
def OwnX (w0 w : World) (l : List UInt8) (v : Value) : Prop :=
  ∃ r, Own w 5 1 v r l.length (l.map B8) ∧ (∀ q, r = some q → w0.heap.size ≤ q) ∧ Touch (fun _ => False) w0 w
theorem OwnX.start {w0 w : World} (t : Touch (fun _ => False) w0 w) : OwnX w0 w [] (.slice none 0 0) := ⟨none, Own.nil _ _ _, (fun _ e => by cases e), t⟩
theorem OwnX.far {w0 w w1 : World} {l : List UInt8} {v : Value} (h : OwnX w0 w l v) (t : Touch (fun _ => False) w w1) : OwnX w0 w1 l v := by
  obtain ⟨r, ho, hr, t0⟩ := h
  exact ⟨r, ho.touch t (fun _ _ e => e), hr, t0.trans t (fun _ _ e => e)⟩
theorem OwnX.of {w0 w w1 : World} {l : List UInt8} {e : Ending} (t : Touch (fun _ => False) w0 w) (h : NewOwn w l e w1) : ∃ v, e = .returned v ∧ OwnX w0 w1 l v := by
  obtain ⟨v, k, he, ho, hk, t1⟩ := h
  exact ⟨v, he, some k, ho, fun q e => by injection e with e; have := t.size; omega, t.trans t1 (fun _ _ e => e)⟩
theorem OwnX.new {w0 w : World} {l : List UInt8} {v : Value} (h : OwnX w0 w l v) (hl : 0 < l.length) : NewOwn w0 l (.returned v) w := by
  obtain ⟨r, ho, hr, t0⟩ := h
  obtain ⟨g, cap, cur, e, -⟩ := ho.2.resolve_left (fun ⟨_, hn, _⟩ => by omega)
  subst e
  exact ⟨v, g, rfl, ho, hr g rfl, t0⟩
/-- Behind an append. -/
theorem OwnX.app {w0 w w2 : World} {l m : List UInt8} {v1 : Value} {r r1 : Option Nat} (hr : ∀ q, r = some q → w0.heap.size ≤ q) (t0 : Touch (fun _ => False) w0 w) (ho1 : Own w2 5 1 v1 r1 (l.length + m.length) (l.map B8 ++ m.map B8)) (ht1 : Touch (fun k => r = some k) w w2) (hr1 : r1 = r ∨ ∃ k, r1 = some k ∧ w.heap.size ≤ k) : OwnX w0 w2 (l ++ m) v1 := by
  have hs := t0.size
  refine ⟨r1, by rw [List.length_append, List.map_append]; exact ho1, fun q e => ?_, t0.trans ht1 (fun q hq e => by have := hr q e; omega)⟩
  rcases hr1 with e' | ⟨q', e', hq'⟩
  · exact hr q (e'.symm.trans e)
  · rw [e'] at e; injection e with e; omega

theorem NewOwn.before {w w1 w2 : World} {l : List UInt8} {e : Ending} (t : Touch (fun _ => False) w w1) (h : NewOwn w1 l e w2) : NewOwn w l e w2 := by
  obtain ⟨v, k, he, ho, hk, t1⟩ := h
  exact ⟨v, k, he, ho, Nat.le_trans t.size hk, t.trans t1 (fun _ _ e => e)⟩
theorem Rd.litB (w : World) (g : Nat) (hg : w.heap.size = g) (t : TypeId) (cs : List Value) (n : Nat) (hn : cs.length = n) : Rd (w.alloc (.cells cs.toArray t)) (fun k => k = g) (some ⟨g, 0, none⟩) n cs := by
  subst hg; exact Rd.lit w t cs n hn
theorem own_append_list {ops : Array Oper} {rest : List Oper} {o : Oper} {a : Act} {Q : Exit → Act → World → Prop} {w w0 wx : World} (hgd : o.guard = none) (s x : Operand)
    (ho : o.op = .call { callee := .builtin .append, args := #[s, x], argTypes := #[33, 33] })
    (l m : List UInt8) (v xv : Value) (hsv : a.eval s = v) (hx : a.eval x = xv) (h1 : OwnX w0 w l v) (h2 : OwnX wx w m xv) (hsm : l.length + m.length ≤ 1000000)
    (h : ∀ v' w', OwnX w0 w' (l ++ m) v' → Touch (fun q => w0.heap.size ≤ q) w w' → wpList Try.prog ops Q rest (a.put o.dst v') w') : wpList Try.prog ops Q (o :: rest) a w := by
  obtain ⟨i0, hi, hz0, hz1, hz2⟩ := info_parts info8
  obtain ⟨r, ho1, hr, t0⟩ := h1
  obtain ⟨rx, hox, hrx, tx⟩ := h2
  refine wpList_own_append hgd s x 33 33 ho 5 i0 (.int .u8 0) 1 1 Try.underlying33 hi hz0 hz1 hz2 rfl v r l.length (l.map B8) hsv ho1 xv m.length (m.map B8) hx hox.src (by simp only [maxLen]; omega) (by omega) ?_
  intro v1 r1 w2 ho2 ht2 hr2
  exact h v1 w2 (OwnX.app hr t0 ho2 ht2 hr2) (ht2.mono (fun q _ e => hr q e))
theorem own_append_op {o : Oper} {a : Act} {K : Act → World → Prop} {Q : Exit → Act → World → Prop} {w w0 wx : World} (s x : Operand)
    (ho : o.op = .call { callee := .builtin .append, args := #[s, x], argTypes := #[33, 33] })
    (l m : List UInt8) (v xv : Value) (hsv : a.eval s = v) (hx : a.eval x = xv) (h1 : OwnX w0 w l v) (h2 : OwnX wx w m xv) (hsm : l.length + m.length ≤ 1000000)
    (h : ∀ v' w', OwnX w0 w' (l ++ m) v' → Touch (fun q => w0.heap.size ≤ q) w w' → K (a.put o.dst v') w') : o.wp Try.prog a w K Q := by
  obtain ⟨i0, hi, hz0, hz1, hz2⟩ := info_parts info8
  obtain ⟨r, ho1, hr, t0⟩ := h1
  obtain ⟨rx, hox, hrx, tx⟩ := h2
  refine wp_own_append s x 33 33 ho 5 i0 (.int .u8 0) 1 1 Try.underlying33 hi hz0 hz1 hz2 rfl v r l.length (l.map B8) hsv ho1 xv m.length (m.map B8) hx hox.src (by simp only [maxLen]; omega) (by omega) ?_
  intro v1 r1 w2 ho2 ht2 hr2
  exact h v1 w2 (OwnX.app hr t0 ho2 ht2 hr2) (ht2.mono (fun q _ e => hr q e))

theorem ftk_any (t : TkN) (w : World) (ht : t.ok) (hb : t.bd) :
    Calls Try.prog 44 #[.agg #[.int .u64 t.id, .int .i64 t.contract, .int .i64 t.state, .int .i64 t.level, .int .u64 t.gen, .int .i64 t.from_, .int .i64 t.left, .int .i64 t.due, .int .i64 t.told]] w (NewOwn w (encs t.nums)) := by
  have hel : 0 < (encs t.nums).length := by simp [encs, TkN.nums, encN]
  have hnl : t.nums.length = 9 := rfl
  obtain ⟨id, con, st, lev, gen, fr, le, du, to_⟩ := t
  obtain ⟨b1, b2, b3, b4, b5, b6, b7, b8⟩ := hb
  have HK := Lib.hid (fun j (hj : j < (TkN.nums ⟨id, con, st, lev, gen, fr, le, du, to_⟩).length) => ht _ (List.getElem_mem hj))
  simp only at b1 b2 b3 b4 b5 b6 b7 b8 ⊢
  obtain ⟨W1, hW1⟩ : ∃ W1, W1 = ((w.alloc (.cells #[.int .u64 id, .int .i64 con, .int .i64 st, .int .i64 lev, .int .u64 gen, .int .i64 fr, .int .i64 le, .int .i64 du, .int .i64 to_] 74)).alloc (.cells #[.int .u64 id, .int .u64 con, .int .u64 st, .int .u64 lev, .int .u64 gen, .int .u64 fr, .int .u64 le, .int .u64 du, .int .u64 to_] 22)) := ⟨_, rfl⟩
  have HT0 := Lib.hid (show Touch (fun _ => False) w W1 from hW1 ▸ (((Touch.refl (fun _ => False) w).alloc _).alloc _))
  have HRd := Lib.hid (show Rd W1 (fun k => k = w.heap.size + 1) (some ⟨w.heap.size + 1, 0, none⟩) 9 ((TkN.nums ⟨id, con, st, lev, gen, fr, le, du, to_⟩).map U64) from hW1 ▸ Rd.litB (w.alloc (.cells #[.int .u64 id, .int .i64 con, .int .i64 st, .int .i64 lev, .int .u64 gen, .int .i64 fr, .int .i64 le, .int .i64 du, .int .i64 to_] 74)) _ (by simp) 22 ((TkN.nums ⟨id, con, st, lev, gen, fr, le, du, to_⟩).map U64) 9 rfl)
  have HW1 := Lib.hid hW1
  clear ht hW1
  generalize (TkN.nums ⟨id, con, st, lev, gen, fr, le, du, to_⟩) = N at *
  go_enter Try.func44, Try.ntmps44
  go_wp2_with fail
  rw [← HW1.out]
  clear HW1
  go_loopw [3, 33] (fun b i wr => ∃ j : Nat, j ≤ 9 ∧ i = .int .i64 j ∧ OwnX W1 wr (encs (N.take j)) b) (fun _ i _ => 9 - (intOf i).toNat)
  case atStart => exact ⟨0, by omega, rfl, by simpa [encs] using OwnX.start (Touch.refl _ W1)⟩
  case round =>
    obtain ⟨j, hj, rfl, hM⟩ := hrel
    have HM := Lib.hid hM
    clear hM
    by_cases hjk : j < 9
    · obtain ⟨_, _, _, tm⟩ := HM.out
      obtain ⟨a, off, ea, _, _, hc⟩ := (HRd.out.touch tm (fun _ _ e => e)).2 (by omega)
      injection ea with ea
      injection ea with ea1 ea2
      subst ea1 ea2
      have hcj := hc j (U64 (N.getD j 0)) (by simp [List.getD, List.getElem?_eq_getElem (show j < N.length by omega)])
      simp only [U64, Nat.zero_add] at hcj
      have HE := Lib.hid (encs_take N j (by omega))
      have hnj : N.getD j 0 < 18446744073709551616 := by rw [List.getD, List.getElem?_eq_getElem (show j < N.length by omega)]; exact HK.out j (by omega)
      have hl1 := encs_len (N.take j)
      have hl3 : (N.take j).length ≤ 9 := by simp; omega
      have hl2 := encN_len 0 (N.getD j 0)
      clear hc tm
      generalize N.getD j 0 = n at *
      go_wp2_with (first
        | (go_at_call 61
           go_must (refine (fnum_any n _ (by omega)).mono ?_)
           rintro e w2 h2
           have hm2 := HM.out.far h2.choose_spec.choose_spec.2.2.2
           obtain ⟨x, rfl, hx2⟩ := OwnX.of (Touch.refl _ _) h2
           have HM2 := Lib.hid hm2
           have HX2 := Lib.hid hx2
           clear h2 hm2 hx2)
        | (at_builtin
           go_must (refine own_append_list rfl _ _ rfl _ _ _ _ rfl rfl HM2.out HX2.out (by omega) ?_)
           intro v3 w3 h3 t3
           have HM3 := Lib.hid h3
           clear h3 t3))
      go_roundw
      case rel => exact ⟨j + 1, by omega, by go_num, by rw [HE.out]; exact HM3.out⟩
      case measure => simp [intOf]; omega
    · obtain rfl : j = 9 := by omega
      go_wp2
      go_ret
      exact NewOwn.before HT0.out (OwnX.new (by have := HM.out; rwa [List.take_of_length_le (by omega)] at this) hel)
end Go.Proofs.Ytcblbjhhlnmkjaa
end

section
namespace Go.Proofs.Ytcblbjhhlnmkjaa
open Go.RowKit
set_option maxHeartbeats 4000000
set_option maxRecDepth 100000
set_option linter.unusedVariables false

theorem OwnX.blk {w0 w : World} {l : List UInt8} {v : Value} (h : OwnX w0 w l v) {b : Nat} {T : TypeId} {cs : Array Value} (hb : Blk w0 b T cs) : Blk w b T cs := by
  obtain ⟨_, _, _, t⟩ := h
  exact t.blk hb (fun e => e)
theorem NewOwn.touch {w w1 : World} {l : List UInt8} {e : Ending} (h : NewOwn w l e w1) : Touch (fun _ => False) w w1 := by obtain ⟨_, _, _, _, _, t⟩ := h; exact t
theorem OwnX.touch {w0 w : World} {l : List UInt8} {v : Value} (h : OwnX w0 w l v) : Touch (fun _ => False) w0 w := by obtain ⟨_, _, _, t⟩ := h; exact t
theorem OwnX.name {w0 w : World} {l Q R : List UInt8} {v : Value} (h : OwnX w0 w l v) (hq : Q = l ++ R) (hl : l.length ≤ 150) : ∃ X, OwnX w0 w X v ∧ Q = X ++ R ∧ X.length ≤ 150 := ⟨l, h, hq, hl⟩
theorem encN_pos (m n : Nat) : 0 < (encN m n).length := by simp [encN]
theorem encR_eq (code time : Nat) (t : TkN) (fired : List Nat) (notice dead : Nat) : encR code time t fired notice dead = (encN 0 code ++ encI time ++ encF (!tkNone t.v) ++ encTk t ++ encN 0 fired.length ++ encs fired) ++ encN 0 notice ++ encN 0 dead := by
  simp [encR, encs, encIs, encFs]

end Go.Proofs.Ytcblbjhhlnmkjaa
end

section
namespace Go.Proofs.Ytcblbjhhlnmkjaa
open Go.RowKit
set_option maxHeartbeats 2000000
set_option maxRecDepth 100000

/-- The reference's reader at block g. -/
def RfAt (w : World) (g : Nat) (F : Nat → Prop) (l : List UInt8) (bad : Bool) : Prop :=
  ¬ F g ∧ ∃ A cap, l.length ≤ cap ∧ cap ≤ maxLen ∧ Blk w g 88 #[.slice A l.length cap, .bool bad] ∧ Rd w F A l.length (l.map B8)
def FPost (v : Value) (l : List UInt8) (bad : Bool) (w : World) (g : Nat) (F : Nat → Prop) (e : Ending) (w' : World) : Prop :=
  e = .returned v ∧ RfAt w' g F l bad ∧ Touch (fun k => k = g) w w'

theorem rfAt_touch {w w' : World} {g : Nat} {F S : Nat → Prop} {l : List UInt8} {bad : Bool} (h : RfAt w g F l bad) (ht : Touch S w w') (hg : ¬ S g) (hF : ∀ k, F k → ¬ S k) : RfAt w' g F l bad := by
  obtain ⟨hgF, A, cap, hl, hm, hb, hr⟩ := h
  exact ⟨hgF, A, cap, hl, hm, ht.blk hb hg, hr.touch ht hF⟩

theorem rf_fail (g : Nat) (F : Nat → Prop) (l : List UInt8) (bad : Bool) (w : World) (h : RfAt w g F l bad) :
    Calls Try.prog 98 #[.pointer (some ⟨g, 0, none⟩)] w (FPost (.tuple #[]) [] true w g F) := by
  obtain ⟨hg, A, cap, hl, hm, hb, hr⟩ := h
  have h0 := hb.cell 0
  have h1 := hb.cell 1
  have f0 := hb.frozen 0
  have f1 := hb.frozen 1
  simp at h0 h1
  clear hr
  go_enter Try.func98, Try.ntmps98
  go_wp2
  go_end0
  refine ⟨rfl, ⟨hg, none, 0, by simp, by simp, ?_, Rd.nil _ _ _⟩, ((Touch.refl (fun k => k = g) w).set (fun _ => rfl) _).set (fun _ => rfl) _⟩
  have := (hb.set_ 0 (.slice none 0 0)).set_ 1 (.bool true)
  simpa using this

/-- The reader goes on behind k bytes. -/
theorem rf_skip {w : World} {g : Nat} {F : Nat → Prop} {l : List UInt8} {bad : Bool} {A : Option Addr} {cap k : Nat} (hg : ¬ F g) (hb : Blk w g 88 #[.slice A l.length cap, .bool bad])
    (hr : Rd w F A l.length (l.map B8)) (hl : l.length ≤ cap) (hm : cap ≤ maxLen) (hk : k ≤ l.length) (A' : Option Addr) (hA : A' = if cap = k then A else A.map (·.add k)) (n' : Nat) (hn : n' = l.length - k) (c' : Nat) (hc : c' = cap - k) :
    RfAt (w.setCell ⟨g, 0, none⟩ (.slice A' n' c')) g F (l.drop k) bad ∧ Touch (fun k => k = g) w (w.setCell ⟨g, 0, none⟩ (.slice A' n' c')) := by
  subst hA hn hc
  have ht := (Touch.refl (fun k => k = g) w).set (b := g) (o := 0) (fun _ => rfl) (.slice (if cap = k then A else A.map (·.add k)) (l.length - k) (cap - k))
  refine ⟨⟨hg, (if cap = k then A else A.map (·.add k)), cap - k, by simp; omega, by omega, ?_, ?_⟩, ht⟩
  · have := hb.set_ 0 (.slice (if cap = k then A else A.map (·.add k)) (l.length - k) (cap - k))
    simpa using this
  · have h1 := (hr.touch ht (fun k hk e => hg (by subst e; exact hk))).cut hk hl
    rw [← List.map_drop] at h1
    simpa using h1

theorem rf_first_nil (g : Nat) (F : Nat → Prop) (bad : Bool) (w : World) (h : RfAt w g F [] bad) :
    Calls Try.prog 106 #[.pointer (some ⟨g, 0, none⟩)] w fun e w' => e = .returned (.tuple #[.int .u8 0, .bool false]) ∧ w = w' := by
  obtain ⟨hg, A, cap, hl, hm, hb, hr⟩ := h
  have h0 := hb.cell 0
  simp at h0
  clear hr
  go_enter Try.func106, Try.ntmps106
  go_wp2
  go_ret2
  exact ⟨rfl, rfl⟩

theorem rf_first_cons (g : Nat) (F : Nat → Prop) (c : UInt8) (l : List UInt8) (bad : Bool) (w : World) (h : RfAt w g F (c :: l) bad) :
    Calls Try.prog 106 #[.pointer (some ⟨g, 0, none⟩)] w (FPost (.tuple #[.int .u8 (c.toNat : Int), .bool true]) l bad w g F) := by
  obtain ⟨hg, A, cap, hl, hm, hb, hr⟩ := h
  have h0 := hb.cell 0
  have f0 := hb.frozen 0
  simp at h0
  obtain ⟨a, off, rfl, hlt, hF, hc⟩ := hr.2 (by simp)
  have hc0 := hc 0 (B8 c) (by simp)
  simp only [B8, Nat.add_zero] at hc0
  have Hr := Lib.hid hr
  have hcm : cap ≤ 9223372036854775807 := by unfold maxLen at hm; omega
  have hl' : l.length + 1 ≤ cap := by simpa using hl
  clear hr hc
  go_enter Try.func106, Try.ntmps106
  go_wp2
  all_goals
    go_ret2
    exact ⟨rfl, (rf_skip (l := c :: l) (k := 1) hg hb Hr.out hl hm (by simp) _ (by simp [*, addr_add]) _ (by simp) _ (by simp [*]))⟩

def rfOk (n : Nat) (l : List UInt8) : Bool := decide (n ≤ 8) && decide (n ≤ l.length) && !(decide (0 < n) && l.head? == some 0)

theorem rf_number_no (g : Nat) (F : Nat → Prop) (n : Nat) (l : List UInt8) (bad : Bool) (w : World) (h : RfAt w g F l bad) (hn : n < 256) (hno : rfOk n l = false) :
    Calls Try.prog 107 #[.pointer (some ⟨g, 0, none⟩), .int .i64 n] w fun e w' => e = .returned (.tuple #[.int .u64 0, .bool false]) ∧ w = w' := by
  obtain ⟨hg, A, cap, hl, hm, hb, hr⟩ := h
  have h0 := hb.cell 0
  simp at h0
  by_cases h1 : 8 < n
  · clear hr hno
    go_enter Try.func107, Try.ntmps107
    go_wp2
    go_ret2
    exact ⟨rfl, rfl⟩
  by_cases h2 : l.length < n
  · clear hr hno
    go_enter Try.func107, Try.ntmps107
    go_wp2
    go_ret2
    exact ⟨rfl, rfl⟩
  rcases l with _ | ⟨d, t⟩
  · simp [rfOk] at hno h2; omega
  obtain ⟨a, off, rfl, hlt, hF, hc⟩ := hr.2 (by simp)
  have hc0 := hc 0 (B8 d) (by simp)
  simp only [B8, Nat.add_zero] at hc0
  clear hr hc
  simp only [List.length_cons] at h2 h0
  have h34 : 0 < n ∧ d = 0 := by
    simp [rfOk] at hno
    refine ⟨(hno (by omega) (by omega)).1, (hno (by omega) (by omega)).2⟩
  obtain ⟨h3, h4⟩ := h34
  have hd0 : ((d.toNat : Int) == 0) = true := by rw [h4]; rfl
  clear hno h4
  go_enter Try.func107, Try.ntmps107
  go_wp2
  go_ret2
  exact ⟨rfl, rfl⟩

theorem rf_number_yes (g : Nat) (F : Nat → Prop) (n : Nat) (l : List UInt8) (bad : Bool) (w : World) (h : RfAt w g F l bad) (hno : rfOk n l = true) :
    Calls Try.prog 107 #[.pointer (some ⟨g, 0, none⟩), .int .i64 n] w (FPost (.tuple #[.int .u64 (be (l.take n) : Nat), .bool true]) (l.drop n) bad w g F) := by
  obtain ⟨hg, A, cap, hl, hm, hb, hr⟩ := h
  have h0 := hb.cell 0
  have f0 := hb.frozen 0
  simp at h0
  have hcm : cap ≤ 9223372036854775807 := by unfold maxLen at hm; omega
  have Hr := Lib.hid hr
  simp [rfOk] at hno
  obtain ⟨⟨h1, h2⟩, h3⟩ := hno
  rcases Nat.eq_zero_or_pos n with rfl | hpos
  · clear h3 hr
    go_enter Try.func107, Try.ntmps107
    go_wp2_with fail
    go_loop [6, 7] (fun x i => i = .int .i64 0 ∧ x = .int .u64 0) (fun _ _ => 0)
    case atStart => exact ⟨rfl, rfl⟩
    case round =>
      obtain ⟨rfl, rfl⟩ := hrel
      go_wp2
      all_goals
        go_ret2
        refine ⟨rfl, rf_skip (k := 0) hg hb Hr.out hl hm (by omega) _ ?_ _ ?_ _ ?_⟩
        · cases A <;> simp [*, Addr.add]
        · simp [*]
        · simp [*]
  · rcases l with _ | ⟨d, t⟩
    · simp at h2; omega
    obtain ⟨a, off, rfl, hlt, hF, hc⟩ := hr.2 (by simp)
    have hc0 := hc 0 (B8 d) (by simp)
    simp only [B8, Nat.add_zero] at hc0
    have hd0 : ((d.toNat : Int) == 0) = false := by
      have h4 := h3.resolve_left (by omega)
      simp at h4
      simp only [beq_eq_false_iff_ne, ne_eq]
      intro e
      exact h4 (UInt8.toNat_inj.1 (by simpa using e))
    have Hc := Lib.hid hc
    clear hc hr h3
    generalize hL : d :: t = l at *
    have hlp : 0 < l.length := by subst hL; simp
    clear hL
    go_enter Try.func107, Try.ntmps107
    go_wp2_with fail
    go_loop [6, 7] (fun x i => ∃ k : Nat, k ≤ n ∧ i = .int .i64 k ∧ x = .int .u64 (be (l.take k) : Nat)) (fun _ i => n - (intOf i).toNat)
    case atStart => exact ⟨0, by omega, rfl, rfl⟩
    case round =>
      obtain ⟨k, hk, rfl, rfl⟩ := hrel
      by_cases hks : k < n
      · have hck : w.cell? ⟨a, off + k, none⟩ = some (.int .u8 ((l.getD k 0).toNat : Int)) :=
          Hc.out k (B8 (l.getD k 0)) (by simp [List.getD, List.getElem?_eq_getElem (show k < l.length by omega)])
        have hbl : be (l.take k) * 256 < 18446744073709551616 := be_take_lt _ _ (by omega)
        have HS := Lib.hid (show be (l.take (k + 1)) = be (l.take k) * 256 + (l.getD k 0).toNat by rw [take_getD _ _ (by omega), be_snoc])
        have hxl := B8_lt (l.getD k 0)
        have hbl2 : be (l.take k) * 256 + (l.getD k 0).toNat < 18446744073709551616 := by
          have e1 := be_lt (l.take k)
          have e2 : 256 ^ (l.take k).length ≤ 256 ^ 7 := Nat.pow_le_pow_right (by omega) (by rw [List.length_take]; omega)
          have e3 : (256 : Nat) ^ 7 = 72057594037927936 := by decide
          omega
        generalize be (l.take k) = bk at *
        generalize l.getD k 0 = x at *
        go_wp2
        go_round
        case rel => exact ⟨k + 1, by omega, by go_num, by rw [HS.out]; go_num⟩
        case measure => simp [intOf]; omega
      · obtain rfl : k = n := by omega
        generalize be (l.take k) = x at *
        go_wp2
        all_goals
          go_ret2
          refine ⟨rfl, rf_skip (k := k) hg hb Hr.out hl hm (by omega) _ ?_ _ ?_ _ ?_⟩
          · simp [*, addr_add]
          · simp [*]
          · simp [*]
end Go.Proofs.Ytcblbjhhlnmkjaa
end

section
namespace Go.Proofs.Ytcblbjhhlnmkjaa
open Go.RowKit
set_option maxHeartbeats 2000000
set_option maxRecDepth 100000

theorem rdNum_left_le (m : Nat) (mk b : Bool) (l : List UInt8) : (rdNum m mk b l).left.length ≤ l.length := by
  unfold rdNum
  split
  · simp [rdFail]
  · split
    · split
      · simp; omega
      · simp [rdFail]
    · simp [rdFail]

theorem rf_num (g : Nat) (F : Nat → Prop) (bad : Bool) (most : Nat) (l : List UInt8) (w : World) (h : RfAt w g F l bad) :
    Calls Try.prog 72 #[.pointer (some ⟨g, 0, none⟩), .int .u64 most] w
      (FPost (.int .u64 ((rdNum most false bad l).val : Int)) (rdNum most false bad l).left (rdNum most false bad l).bad w g F) := by
  rcases l with _ | ⟨c, t⟩
  · have HF := Lib.hid (rf_fail g F [] bad w h)
    have H1 := Lib.hid (rf_first_nil g F bad w h)
    clear h
    go_enter Try.func72, Try.ntmps72
    go_wp2_with (first
      | (go_at_call 106; refine H1.out.mono ?_; rintro e w' ⟨rfl, rfl⟩)
      | (go_at_call 98; refine HF.out.mono ?_; rintro e w' ⟨rfl, h1, h2⟩))
    go_ret
    exact ⟨rfl, h1, h2⟩
  have H1 := Lib.hid (rf_first_cons g F c t bad w h)
  have hcl := B8_lt c
  clear h
  by_cases hok : rfOk c.toNat t = true
  · by_cases hm : be (t.take c.toNat) ≤ most
    · have hX : rdNum most false bad (c :: t) = ⟨be (t.take c.toNat), false, t.drop c.toNat, bad⟩ := by
        have hk : rdOk false c t = true := hok
        simp [rdNum, hk, rdHead, rdMark, hm]
      rw [hX]
      clear hX
      go_enter Try.func72, Try.ntmps72
      go_wp2_with (first
        | (go_at_call 106; refine H1.out.mono ?_; rintro e w1 ⟨rfl, h1, h2⟩)
        | (go_at_call 107; go_must (refine (rf_number_yes g F c.toNat t bad _ h1 hok).mono ?_); rintro e w2 ⟨rfl, h3, h4⟩; generalize be (t.take c.toNat) = n at *))
      go_ret
      exact ⟨rfl, h3, h2.trans h4 (fun _ _ e => e)⟩
    · have hX : rdNum most false bad (c :: t) = rdFail := by
        simp [rdNum, rdHead, hm]
      rw [hX]
      clear hX
      go_enter Try.func72, Try.ntmps72
      go_wp2_with (first
        | (go_at_call 106; refine H1.out.mono ?_; rintro e w1 ⟨rfl, h1, h2⟩)
        | (go_at_call 107; go_must (refine (rf_number_yes g F c.toNat t bad _ h1 hok).mono ?_); rintro e w2 ⟨rfl, h3, h4⟩; generalize be (t.take c.toNat) = n at *)
        | (go_at_call 98; go_must (refine (rf_fail g F _ bad _ h3).mono ?_); rintro e w3 ⟨rfl, h5, h6⟩))
      go_ret
      exact ⟨rfl, h5, (h2.trans h4 (fun _ _ e => e)).trans h6 (fun _ _ e => e)⟩
  · have hok' : rfOk c.toNat t = false := by simpa using hok
    have hX : rdNum most false bad (c :: t) = rdFail := by
      have hk : rdOk false c t = false := hok'
      simp [rdNum, hk]
    rw [hX]
    clear hX hok
    go_enter Try.func72, Try.ntmps72
    go_wp2_with (first
      | (go_at_call 106; refine H1.out.mono ?_; rintro e w1 ⟨rfl, h1, h2⟩)
      | (go_at_call 107; go_must (refine (rf_number_no g F c.toNat t bad _ h1 hcl hok').mono ?_); rintro e w2 ⟨rfl, rfl⟩)
      | (go_at_call 98; go_must (refine (rf_fail g F _ bad _ h1).mono ?_); rintro e w3 ⟨rfl, h5, h6⟩))
    go_ret
    exact ⟨rfl, h5, h2.trans h6 (fun _ _ e => e)⟩

theorem rf_int (g : Nat) (F : Nat → Prop) (bad : Bool) (l : List UInt8) (w : World) (h : RfAt w g F l bad) :
    Calls Try.prog 75 #[.pointer (some ⟨g, 0, none⟩)] w
      (FPost (.int .i64 (rdInt bad l)) (rdNum 9223372036854775807 true bad l).left (rdNum 9223372036854775807 true bad l).bad w g F) := by
  rcases l with _ | ⟨c, t⟩
  · have HF := Lib.hid (rf_fail g F [] bad w h)
    have H1 := Lib.hid (rf_first_nil g F bad w h)
    clear h
    go_enter Try.func75, Try.ntmps75
    go_wp2_with (first
      | (go_at_call 106; refine H1.out.mono ?_; rintro e w' ⟨rfl, rfl⟩)
      | (go_at_call 98; refine HF.out.mono ?_; rintro e w' ⟨rfl, h1, h2⟩))
    go_ret
    exact ⟨rfl, h1, h2⟩
  have H1 := Lib.hid (rf_first_cons g F c t bad w h)
  have hcl := B8_lt c
  clear h
  by_cases hok : rfOk (c.toNat % 128) t = true
  · by_cases hm : be (t.take (c.toNat % 128)) ≤ 9223372036854775807
    · have hX : rdNum 9223372036854775807 true bad (c :: t) = ⟨be (t.take (c.toNat % 128)), decide (128 ≤ c.toNat), t.drop (c.toNat % 128), bad⟩ := by
        have hk : rdOk true c t = true := hok
        simp [rdNum, hk, rdHead, rdMark, hm]
      have hI : rdInt bad (c :: t) = if 128 ≤ c.toNat then -1 - (be (t.take (c.toNat % 128)) : Int) else (be (t.take (c.toNat % 128)) : Int) := by
        unfold rdInt; rw [hX]; simp
      rw [hX, hI]
      clear hX hI
      by_cases hc : 128 ≤ c.toNat
      · rw [if_pos hc]
        go_enter Try.func75, Try.ntmps75
        go_wp2_with (first
          | (go_at_call 106; refine H1.out.mono ?_; rintro e w1 ⟨rfl, h1, h2⟩)
          | (go_at_call 107; go_must (refine (rf_number_yes g F (c.toNat % 128) t bad _ h1 hok).mono ?_); rintro e w2 ⟨rfl, h3, h4⟩; generalize be (t.take (c.toNat % 128)) = n at *))
        go_ret
        exact ⟨rfl, h3, h2.trans h4 (fun _ _ e => e)⟩
      · rw [if_neg hc]
        go_enter Try.func75, Try.ntmps75
        go_wp2_with (first
          | (go_at_call 106; refine H1.out.mono ?_; rintro e w1 ⟨rfl, h1, h2⟩)
          | (go_at_call 107; go_must (refine (rf_number_yes g F (c.toNat % 128) t bad _ h1 hok).mono ?_); rintro e w2 ⟨rfl, h3, h4⟩; generalize be (t.take (c.toNat % 128)) = n at *))
        go_ret
        exact ⟨rfl, h3, h2.trans h4 (fun _ _ e => e)⟩
    · have hX : rdNum 9223372036854775807 true bad (c :: t) = rdFail := by
        simp [rdNum, rdHead, hm]
      have hI : rdInt bad (c :: t) = 0 := by
        unfold rdInt; rw [hX]; simp [rdFail]
      rw [hX, hI]
      clear hX hI
      go_enter Try.func75, Try.ntmps75
      go_wp2_with (first
        | (go_at_call 106; refine H1.out.mono ?_; rintro e w1 ⟨rfl, h1, h2⟩)
        | (go_at_call 107; go_must (refine (rf_number_yes g F (c.toNat % 128) t bad _ h1 hok).mono ?_); rintro e w2 ⟨rfl, h3, h4⟩; generalize be (t.take (c.toNat % 128)) = n at *)
        | (go_at_call 98; go_must (refine (rf_fail g F _ bad _ h3).mono ?_); rintro e w3 ⟨rfl, h5, h6⟩))
      go_ret
      exact ⟨rfl, h5, (h2.trans h4 (fun _ _ e => e)).trans h6 (fun _ _ e => e)⟩
  · have hok' : rfOk (c.toNat % 128) t = false := by simpa using hok
    have hX : rdNum 9223372036854775807 true bad (c :: t) = rdFail := by
      have hk : rdOk true c t = false := hok'
      simp [rdNum, hk]
    have hI : rdInt bad (c :: t) = 0 := by
      unfold rdInt; rw [hX]; simp [rdFail]
    rw [hX, hI]
    clear hX hok hI
    go_enter Try.func75, Try.ntmps75
    go_wp2_with (first
      | (go_at_call 106; refine H1.out.mono ?_; rintro e w1 ⟨rfl, h1, h2⟩)
      | (go_at_call 107; go_must (refine (rf_number_no g F (c.toNat % 128) t bad _ h1 (by omega) hok').mono ?_); rintro e w2 ⟨rfl, rfl⟩)
      | (go_at_call 98; go_must (refine (rf_fail g F _ bad _ h1).mono ?_); rintro e w3 ⟨rfl, h5, h6⟩))
    go_ret
    exact ⟨rfl, h5, h2.trans h6 (fun _ _ e => e)⟩

/-- What the reference's Raw hands back. -/
def FRaw (n : Nat) (xs l : List UInt8) (bad : Bool) (w : World) (g : Nat) (F : Nat → Prop) (e : Ending) (w' : World) : Prop :=
  ∃ A c, e = .returned (.slice A n c) ∧ n ≤ c ∧ c ≤ maxLen ∧ Rd w' (fun k => w.heap.size ≤ k) A n (xs.map B8) ∧ RfAt w' g F l bad ∧ Touch (fun k => k = g) w w'

theorem rf_end (g : Nat) (F : Nat → Prop) (bad : Bool) (l : List UInt8) (w : World) (h : RfAt w g F l bad) :
    Calls Try.prog 76 #[.pointer (some ⟨g, 0, none⟩)] w fun e w' => e = .returned (.int .i64 (if bad || !l.isEmpty then 20 else 0)) ∧ w = w' := by
  obtain ⟨hg, A, cap, hl, hm, hb, hr⟩ := h
  have h0 := hb.cell 0
  have h1 := hb.cell 1
  simp at h0 h1
  clear hr
  cases bad
  · rcases l with _ | ⟨c, l⟩
    · simp only [List.length_nil] at h0
      go_enter Try.func76, Try.ntmps76
      go_wp2
      go_ret
      simp
    · simp only [List.length_cons] at h0
      go_enter Try.func76, Try.ntmps76
      go_wp2
      go_ret
      simp
  · go_enter Try.func76, Try.ntmps76
    go_wp2
    go_ret
    simp
end Go.Proofs.Ytcblbjhhlnmkjaa
end
