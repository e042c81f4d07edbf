/- What the reference's Num, Int, Flag, Text write (chapter 1): the same bytes. A writer's calls on literals; a row of bytes of the call's own, appended to. -/
import Derived.Test.YtlcefchbfjfifaaGreatVQuillY
import Derived.Test.YtlcefchbfjfifaaGreatVPlan
section
namespace Go.Proofs.YtlcefchbfjfifaaGreat
open Go.RowKit
set_option maxHeartbeats 2000000
set_option maxRecDepth 100000

/-- A row of its own that is handed back. -/
def NewOwn (w : World) (xs : List UInt8) (e : Ending) (w' : World) : Prop :=
  ∃ v k, e = .returned v ∧ Own w' 5 1 v (some k) xs.length (xs.map B8) ∧ w.heap.size ≤ k ∧ Touch (fun _ => False) w w'

theorem Rd.src {w : World} {F : Nat → Prop} {A : Option Addr} {n c : Nat} {xs : List UInt8} (hr : Rd w F A n (xs.map B8)) (hA : A = none → c = 0) : Src Tryz.prog 1 25 (.slice A n c) n (xs.map B8) w := by
  have hn : n = xs.length := by have := hr.1; simpa using this.symm
  subst hn
  rcases A with _ | ad
  · have h0 : xs = [] := by
      rcases xs with _ | ⟨x, xs⟩
      · rfl
      · obtain ⟨_, _, e, _⟩ := hr.2 (by simp); cases e
    subst h0
    rw [hA rfl]
    exact Src.ofNil w Tryz.underlying25 0
  · exact Src.ofSlice w Tryz.underlying25 ad _ _ _ (by simp) hr.add (B8_one xs)
theorem Own.src {w : World} {v : Value} {r : Option Nat} {n : Nat} {xs : List UInt8} (h : Own w 5 1 v r n (xs.map B8)) : Src Tryz.prog 1 25 v n (xs.map B8) w := by
  obtain ⟨A, c, rfl, _, _, hA, hr⟩ := h.rd
  exact hr.src hA

def low (n : Nat) : Nat → List UInt8
  | 0 => []
  | k + 1 => UInt8.ofNat (n / 256 ^ k % 256) :: low n k
theorem low_length (n : Nat) : ∀ k, (low n k).length = k
  | 0 => rfl
  | k + 1 => by simp [low, low_length n k]
theorem low_getD (n : Nat) : ∀ k j, j < k → (low n k).getD j 0 = UInt8.ofNat (n / 256 ^ (k - 1 - j) % 256)
  | 0, j, h => by omega
  | k + 1, 0, _ => by simp [low]
  | k + 1, j + 1, h => by
    have := low_getD n k j (by omega)
    simp only [low, List.getD_cons_succ]
    rw [this]
    congr 4
    omega
theorem dig_low (n k : Nat) (hn : n < 256 ^ 8) (hk : (dig n).length = k) : low n k = dig n := by
  apply List.ext_getElem?
  intro j
  by_cases hj : j < k
  · have h1 := low_getD n k j hj
    have h2 := dig_getD n j hn (by omega)
    rw [hk] at h2
    rw [← h1] at h2
    simp only [List.getD_eq_getElem?_getD] at h2
    have a1 := List.getElem?_eq_getElem (l := low n k) (i := j) (by rw [low_length]; exact hj)
    have a2 := List.getElem?_eq_getElem (l := dig n) (i := j) (by rw [hk]; exact hj)
    rw [a1, a2] at h2
    simp at h2
    rw [a1, a2, h2]
  · rw [List.getElem?_eq_none (by rw [low_length]; omega), List.getElem?_eq_none (by omega)]

theorem fnum_any (n : Nat) (w : World) (hn : n < 256 ^ 8) :
    Calls Tryz.prog 46 #[.int .u64 n] w (NewOwn w (encN 0 n)) := by
  have hnb : n < 18446744073709551616 := by simpa using hn
  obtain ⟨i0, hi, hz0, hz1, hz2⟩ := info_parts info8
  have HN := Lib.hid hn
  clear hn
  go_enter Tryz.func46, Tryz.ntmps46
  go_wp2_with fail
  go_loopw [0, 3] (fun x s wr => ∃ k : Nat, k ≤ 8 ∧ x = .int .u64 (n / 256 ^ k : Nat) ∧ (k = 0 ∨ n / 256 ^ (k - 1) ≠ 0) ∧ (∃ r, Own wr 5 1 s r k ((low n k).map B8)) ∧ Touch (fun _ => False) w wr) (fun x _ _ => (intOf x).toNat)
  case atStart => exact ⟨0, by omega, by simp, .inl rfl, ⟨none, Own.nil _ _ _⟩, Touch.refl _ _⟩
  case round =>
    obtain ⟨k, hk, rfl, hk1, hM, hT⟩ := hrel
    have HM := Lib.hid hM
    have HT := Lib.hid hT
    obtain ⟨r, ho⟩ := hM
    obtain ⟨A0, c0, rfl, -, -⟩ := ho.form
    have HO := Lib.hid ho
    clear ho hT HM
    by_cases hx : n / 256 ^ k = 0
    · have HS := Lib.hid (dig_size n k HN.out hk hx hk1)
      clear hk1
      rw [hx]
      clear hx
      have HTl := Lib.hid ((Touch.refl (fun _ => False) wr).alloc (.cells #[.int .u8 (k : Int)] 5))
      have HOL := Lib.hid (Own.lit wr 5 1 #[.int .u8 (k : Int)] 1 (by unfold maxLen; omega) rfl)
      go_wp2_with (
        at_builtin
        go_must (refine wpList_own_append rfl _ _ 25 25 rfl 5 i0 (.int .u8 0) 1 1 Tryz.underlying25 hi hz0 hz1 hz2 rfl _ (some wr.heap.size) 1 [.int .u8 (k : Int)] rfl (by exact HOL.out) _ k ((low n k).map B8) rfl (by exact (HO.out.touch HTl.out (fun _ _ e => e)).src) (by simp only [maxLen]; omega) (by omega) ?_)
        intro v1 r1 w1 ho1 ht1 hr1
        have HR := Lib.hid (And.intro ho1 (And.intro ht1 hr1))
        clear ho1 ht1 hr1)
      go_ret
      obtain ⟨ho1, ht1, hr1⟩ := HR.out
      have hs := HT.out.size
      have hB : B8 (UInt8.ofNat (0 + k)) = .int .u8 (k : Int) := by
        rw [B8, UInt8.toNat_ofNat']; congr 1; omega
      have hx : [Value.int .u8 (k : Int)] ++ (low n k).map B8 = (encN 0 n).map B8 := by
        rw [encN, HS.out, List.map_cons, hB, dig_low n k HN.out HS.out]; rfl
      have hl : 1 + k = (encN 0 n).length := by rw [encN, List.length_cons, HS.out]; omega
      have tt : Touch (fun _ => False) w w1 := (HT.out.trans HTl.out (fun _ _ e => e)).trans ht1 (fun q hq e => by injection e with e; omega)
      rw [hx, hl] at ho1
      rcases hr1 with e | ⟨q, e, hq⟩
      · exact ⟨v1, wr.heap.size, rfl, by rw [← e]; exact ho1, hs, tt⟩
      · exact ⟨v1, q, rfl, by rw [← e]; exact ho1, by simp at hq; omega, tt⟩
    · have hk8 : k < 8 := by
        rcases Nat.lt_or_ge k 8 with h | h
        · exact h
        · exfalso
          have : k = 8 := by omega
          subst this
          exact hx (Nat.div_eq_of_lt HN.out)
      have HD := Lib.hid (show n / 256 ^ (k + 1) = n / 256 ^ k / 256 by rw [Nat.pow_succ, Nat.div_div_eq_div_mul])
      have hxp : 0 < n / 256 ^ k := Nat.pos_of_ne_zero hx
      have hxl : n / 256 ^ k < 18446744073709551616 := Nat.lt_of_le_of_lt (Nat.div_le_self _ _) hnb
      have HLow := Lib.hid (show (low n (k + 1)).map B8 = [.int .u8 ((n / 256 ^ k % 256 : Nat) : Int)] ++ (low n k).map B8 by
        rw [low, List.map_cons, B8, UInt8.toNat_ofNat']; simp)
      clear hx hk1
      generalize hxx : n / 256 ^ k = x at *
      have HX := Lib.hid hxx
      clear hxx
      have hx256 : x % 256 < 256 := Nat.mod_lt _ (by omega)
      have HTl := Lib.hid ((Touch.refl (fun _ => False) wr).alloc (.cells #[.int .u8 ((x : Int) % 256)] 5))
      have HOL := Lib.hid (Own.lit wr 5 1 #[.int .u8 ((x : Int) % 256)] 1 (by unfold maxLen; omega) rfl)
      go_wp2_with (
        at_builtin
        go_must (refine wpList_own_append rfl _ _ 25 25 rfl 5 i0 (.int .u8 0) 1 1 Tryz.underlying25 hi hz0 hz1 hz2 rfl _ (some wr.heap.size) 1 [.int .u8 ((x : Int) % 256)] rfl (by exact HOL.out) _ k ((low n k).map B8) rfl (by exact (HO.out.touch HTl.out (fun _ _ e => e)).src) (by simp only [maxLen]; omega) (by omega) ?_)
        intro v1 r1 w1 ho1 ht1 hr1
        have HR := Lib.hid (And.intro ho1 (And.intro ht1 hr1))
        clear ho1 ht1 hr1)
      go_roundw
      case rel =>
        obtain ⟨ho1, ht1, hr1⟩ := HR.out
        refine ⟨k + 1, by omega, by rw [HD.out]; go_num, .inr (by rw [Nat.add_sub_cancel, HX.out]; omega), ⟨r1, ?_⟩, (HT.out.trans HTl.out (fun _ _ e => e)).trans ht1 (fun q hq e => ?_)⟩
        · rw [HLow.out, Nat.add_comm k 1]; exact ho1
        · have := HT.out.size; injection e with e; omega
      case measure => simp [intOf]; omega

theorem Own.store0 {w : World} {e : TypeId} {g n : Nat} {v x : Value} {xs : List Value} (h : Own w e 1 v (some g) n (x :: xs)) (u : Value) : Own (w.setCell ⟨g, 0, none⟩ u) e 1 v (some g) n (u :: xs) := by
  obtain ⟨hl, h2⟩ := h
  refine ⟨by simpa using hl, ?_⟩
  rcases h2 with ⟨_, _, hr⟩ | ⟨g', cap, cur, hr, hv, hb, hn, hc, hs, ht⟩
  · cases hr
  · injection hr with hr; subst hr
    refine .inr ⟨g, cap, _, rfl, hv, hb.set_ 0 u, hn, hc, by simpa using hs, ?_⟩
    have hn0 : 0 < n := by simp at hl; omega
    obtain ⟨m, rfl⟩ : ∃ m, n = m + 1 := ⟨n - 1, by omega⟩
    simp only [Nat.mul_one] at *
    rw [Array.toList_setIfInBounds]
    rcases hcl : cur.toList with _ | ⟨y, ys⟩
    · rw [hcl] at ht; simp at ht
    · rw [hcl] at ht
      simp at ht ⊢
      exact ht.2

theorem fint_any (i : Int) (w : World) (h1 : -9223372036854775808 ≤ i) (h2 : i ≤ 9223372036854775807) :
    Calls Tryz.prog 91 #[.int .i64 i] w (NewOwn w (encI i)) := by
  by_cases hneg : i < 0
  · have HE2 := Lib.hid (show encI i = encN 128 (-1 - i).toNat by simp [encI, hneg])
    obtain ⟨m, hm⟩ := Int.eq_ofNat_of_zero_le (show 0 ≤ -1 - i by omega)
    have HMN := Lib.hid (show (-1 - i).toNat = m by omega)
    have HC := Lib.hid (fnum_any m w (by omega))
    have hdl := dig_le m
    go_enter Tryz.func91, Tryz.ntmps91
    go_wp2_with (
      go_at_call 46
      go_must (refine HC.out.mono ?_)
      rintro e w1 ⟨v, k, rfl, ho, hk, ht⟩
      obtain ⟨g, cap, cur, hr, hv, hb, hn, hc, hs, hx⟩ := ho.2.resolve_left (fun ⟨_, hn, hr⟩ => by cases hr)
      injection hr with hr
      subst hr hv
      have hf0 := hb.frozen 0
      have hc0 := ho.cellAt 0 (by simp [encN])
      have hen : (encN 0 m).length = (dig m).length + 1 := by simp [encN]
      have hbb : B8 (UInt8.ofNat (0 + (dig m).length)) = .int .u8 ((dig m).length : Int) := by
        rw [B8, UInt8.toNat_ofNat']; congr 1; omega
      rw [encN, List.map_cons, hbb] at hc0
      simp at hc0
      have HO := Lib.hid ho
      have HEN := Lib.hid hen
      have hnz : 0 < (encN 0 m).length := by omega
      clear ho hen hbb hx hs)
    go_ret
    have ho := HO.out
    have ho3 : Own w1 5 1 (.slice (some ⟨k, 0, none⟩) (encN 0 m).length cap) (some k) (encN 0 m).length ((B8 (UInt8.ofNat (0 + (dig m).length))) :: (dig m).map B8) := by
      rw [encN, List.map_cons] at ho; exact ho
    have ho4 := ho3.store0 (.int .u8 (((dig m).length : Int) + 128))
    have hbb : B8 (UInt8.ofNat (128 + (dig m).length)) = .int .u8 (((dig m).length : Int) + 128) := by
      rw [B8, UInt8.toNat_ofNat']; congr 1; omega
    have hl : (encI i).length = (encN 0 m).length := by rw [HE2.out, HMN.out]; simp [encN]
    have hx : (encI i).map B8 = .int .u8 (((dig m).length : Int) + 128) :: (dig m).map B8 := by rw [HE2.out, HMN.out, encN, List.map_cons, hbb]
    refine ⟨.slice (some ⟨k, 0, none⟩) (encN 0 m).length cap, k, rfl, ?_, hk, ht.set (fun hlt => by omega) _⟩
    rw [hl, hx]
    exact ho4
  · have HE2 := Lib.hid (show encI i = encN 0 i.toNat by simp [encI, hneg])
    obtain ⟨m, rfl⟩ := Int.eq_ofNat_of_zero_le (show 0 ≤ i by omega)
    have HC := Lib.hid (fnum_any m w (by omega))
    go_enter Tryz.func91, Tryz.ntmps91
    go_wp2_with (
      go_at_call 46
      go_must (refine HC.out.mono ?_)
      rintro e w1 ⟨v, k, rfl, ho, hk, ht⟩)
    go_ret
    rw [HE2.out, Int.toNat_natCast]
    exact ⟨v, k, rfl, ho, hk, ht⟩

theorem byteCells_eq (s : ByteArray) : Go.byteCells s = s.data.toList.map B8 := rfl

end Go.Proofs.YtlcefchbfjfifaaGreat
end

section
namespace Go.Proofs.YtlcefchbfjfifaaGreat
open Go.RowKit
set_option maxHeartbeats 4000000
set_option maxRecDepth 100000
set_option linter.unusedVariables false

theorem WGo.far {w w1 w2 : World} {g : Nat} {r : Option Nat} {l : List UInt8} (h : WGo w g r l w1) (t : Touch (fun _ => False) w1 w2) : WGo w g r l w2 := by
  obtain ⟨r1, hw, t1, hf⟩ := h
  exact ⟨r1, hw.touch t (fun e => e) (fun _ _ e => e), t1.trans t (fun _ _ e => e.elim), hf⟩
theorem WGo.blk {w w1 : World} {g : Nat} {r : Option Nat} {l : List UInt8} (h : WGo w g r l w1) {b : Nat} {T : TypeId} {cs : Array Value} (hb : Blk w b T cs) (h1 : b ≠ g) (h2 : r ≠ some b) : Blk w1 b T cs := by
  obtain ⟨_, _, t, _⟩ := h
  exact t.blk hb (by rintro (e | e); exact h1 e; exact h2 e)
theorem WGo.start2 {w w1 : World} {g : Nat} {r : Option Nat} {l : List UInt8} (h : WAt w g r l) (t : Touch (fun _ => False) w w1) : WGo w g r l w1 := (WGo.start h).far t
theorem WAt.ltr {w : World} {g : Nat} {r : Option Nat} {l : List UInt8} (h : WAt w g r l) : ∀ k, r = some k → k < w.heap.size := by
  obtain ⟨_, v, _, ho⟩ := h
  exact fun k e => ho.lt k e
theorem wnum_lit {w w1 : World} {g : Nat} {r : Option Nat} {l : List UInt8} (h : WGo w g r l w1) (ns : List Nat) (p : Nat) (hp : w1.heap.size = p) (cs : Array Value) (hcs : cs = (ns.map U64).toArray) (n c : Nat) (hn : n = ns.length)
    (hns : ∀ n ∈ ns, n < 256 ^ 8) (hsm : l.length + 9 * ns.length ≤ 1000000) :
    Calls Tryz.prog 41 #[.pointer (some ⟨g, 0, none⟩), .slice (some ⟨p, 0, none⟩) n c] (w1.alloc (.cells cs 99)) fun e w2 => e = .returned (.tuple #[]) ∧ WGo w g r (l ++ encs ns) w2 := by
  subst hp hcs hn
  obtain ⟨r1, hw1, t1, hf1⟩ := h
  have hgl := hw1.lt
  have hrl := hw1.ltr
  refine (wnum_any g r1 l (fun k => k = w1.heap.size) _ c ns _ (hw1.touch ((Touch.refl (fun _ => False) w1).alloc _) (fun e => e) (fun _ _ e => e)) (Rd.lit w1 99 (ns.map U64) _ (by simp)) (fun k hk => ⟨by omega, fun e => by have := hrl k e; omega⟩) hns hsm).mono ?_
  rintro e w2 ⟨rfl, h2⟩
  exact ⟨rfl, WGo.next (t1.alloc _) hf1 h2⟩
theorem wint_lit {w w1 : World} {g : Nat} {r : Option Nat} {l : List UInt8} (h : WGo w g r l w1) (ns : List Int) (p : Nat) (hp : w1.heap.size = p) (cs : Array Value) (hcs : cs = (ns.map I64).toArray) (n c : Nat) (hn : n = ns.length)
    (hns : ∀ n ∈ ns, -9223372036854775808 ≤ n ∧ n ≤ 9223372036854775807) (hsm : l.length + 9 * ns.length ≤ 1000000) :
    Calls Tryz.prog 117 #[.pointer (some ⟨g, 0, none⟩), .slice (some ⟨p, 0, none⟩) n c] (w1.alloc (.cells cs 2)) fun e w2 => e = .returned (.tuple #[]) ∧ WGo w g r (l ++ encIs ns) w2 := by
  subst hp hcs hn
  obtain ⟨r1, hw1, t1, hf1⟩ := h
  have hgl := hw1.lt
  have hrl := hw1.ltr
  refine (wint_any g r1 l (fun k => k = w1.heap.size) _ c ns _ (hw1.touch ((Touch.refl (fun _ => False) w1).alloc _) (fun e => e) (fun _ _ e => e)) (Rd.lit w1 2 (ns.map I64) _ (by simp)) (fun k hk => ⟨by omega, fun e => by have := hrl k e; omega⟩) hns hsm).mono ?_
  rintro e w2 ⟨rfl, h2⟩
  exact ⟨rfl, WGo.next (t1.alloc _) hf1 h2⟩
def OwnX (w0 w : World) (l : List UInt8) (v : Value) : Prop :=
  ∃ r, Own w 5 1 v r l.length (l.map B8) ∧ (∀ q, r = some q → w0.heap.size ≤ q) ∧ Touch (fun _ => False) w0 w
theorem OwnX.start {w0 w : World} (t : Touch (fun _ => False) w0 w) : OwnX w0 w [] (.slice none 0 0) := ⟨none, Own.nil _ _ _, (fun _ e => by cases e), t⟩
theorem OwnX.far {w0 w w1 : World} {l : List UInt8} {v : Value} (h : OwnX w0 w l v) (t : Touch (fun _ => False) w w1) : OwnX w0 w1 l v := by
  obtain ⟨r, ho, hr, t0⟩ := h
  exact ⟨r, ho.touch t (fun _ _ e => e), hr, t0.trans t (fun _ _ e => e)⟩
theorem OwnX.of {w0 w w1 : World} {l : List UInt8} {e : Ending} (t : Touch (fun _ => False) w0 w) (h : NewOwn w l e w1) : ∃ v, e = .returned v ∧ OwnX w0 w1 l v := by
  obtain ⟨v, k, he, ho, hk, t1⟩ := h
  exact ⟨v, he, some k, ho, fun q e => by injection e with e; have := t.size; omega, t.trans t1 (fun _ _ e => e)⟩
theorem OwnX.new {w0 w : World} {l : List UInt8} {v : Value} (h : OwnX w0 w l v) (hl : 0 < l.length) : NewOwn w0 l (.returned v) w := by
  obtain ⟨r, ho, hr, t0⟩ := h
  obtain ⟨g, cap, cur, e, -⟩ := ho.2.resolve_left (fun ⟨_, hn, _⟩ => by omega)
  subst e
  exact ⟨v, g, rfl, ho, hr g rfl, t0⟩
theorem OwnX.app {w0 w w2 : World} {l m : List UInt8} {v1 : Value} {r r1 : Option Nat} (hr : ∀ q, r = some q → w0.heap.size ≤ q) (t0 : Touch (fun _ => False) w0 w) (ho1 : Own w2 5 1 v1 r1 (l.length + m.length) (l.map B8 ++ m.map B8)) (ht1 : Touch (fun k => r = some k) w w2) (hr1 : r1 = r ∨ ∃ k, r1 = some k ∧ w.heap.size ≤ k) : OwnX w0 w2 (l ++ m) v1 := by
  have hs := t0.size
  refine ⟨r1, by rw [List.length_append, List.map_append]; exact ho1, fun q e => ?_, t0.trans ht1 (fun q hq e => by have := hr q e; omega)⟩
  rcases hr1 with e' | ⟨q', e', hq'⟩
  · exact hr q (e'.symm.trans e)
  · rw [e'] at e; injection e with e; omega
theorem NewOwn.before {w w1 w2 : World} {l : List UInt8} {e : Ending} (t : Touch (fun _ => False) w w1) (h : NewOwn w1 l e w2) : NewOwn w l e w2 := by
  obtain ⟨v, k, he, ho, hk, t1⟩ := h
  exact ⟨v, k, he, ho, Nat.le_trans t.size hk, t.trans t1 (fun _ _ e => e)⟩
theorem Rd.litB (w : World) (g : Nat) (hg : w.heap.size = g) (t : TypeId) (cs : List Value) (n : Nat) (hn : cs.length = n) : Rd (w.alloc (.cells cs.toArray t)) (fun k => k = g) (some ⟨g, 0, none⟩) n cs := by
  subst hg; exact Rd.lit w t cs n hn
theorem own_append_list {ops : Array Oper} {rest : List Oper} {o : Oper} {a : Act} {Q : Exit → Act → World → Prop} {w w0 wx : World} (hgd : o.guard = none) (s x : Operand)
    (ho : o.op = .call { callee := .builtin .append, args := #[s, x], argTypes := #[25, 25] })
    (l m : List UInt8) (v xv : Value) (hsv : a.eval s = v) (hx : a.eval x = xv) (h1 : OwnX w0 w l v) (h2 : OwnX wx w m xv) (hsm : l.length + m.length ≤ 1000000)
    (h : ∀ v' w', OwnX w0 w' (l ++ m) v' → Touch (fun q => w0.heap.size ≤ q) w w' → wpList Tryz.prog ops Q rest (a.put o.dst v') w') : wpList Tryz.prog ops Q (o :: rest) a w := by
  obtain ⟨i0, hi, hz0, hz1, hz2⟩ := info_parts info8
  obtain ⟨r, ho1, hr, t0⟩ := h1
  obtain ⟨rx, hox, hrx, tx⟩ := h2
  refine wpList_own_append hgd s x 25 25 ho 5 i0 (.int .u8 0) 1 1 Tryz.underlying25 hi hz0 hz1 hz2 rfl v r l.length (l.map B8) hsv ho1 xv m.length (m.map B8) hx hox.src (by simp only [maxLen]; omega) (by omega) ?_
  intro v1 r1 w2 ho2 ht2 hr2
  exact h v1 w2 (OwnX.app hr t0 ho2 ht2 hr2) (ht2.mono (fun q _ e => hr q e))
theorem own_append_op {o : Oper} {a : Act} {K : Act → World → Prop} {Q : Exit → Act → World → Prop} {w w0 wx : World} (s x : Operand)
    (ho : o.op = .call { callee := .builtin .append, args := #[s, x], argTypes := #[25, 25] })
    (l m : List UInt8) (v xv : Value) (hsv : a.eval s = v) (hx : a.eval x = xv) (h1 : OwnX w0 w l v) (h2 : OwnX wx w m xv) (hsm : l.length + m.length ≤ 1000000)
    (h : ∀ v' w', OwnX w0 w' (l ++ m) v' → Touch (fun q => w0.heap.size ≤ q) w w' → K (a.put o.dst v') w') : o.wp Tryz.prog a w K Q := by
  obtain ⟨i0, hi, hz0, hz1, hz2⟩ := info_parts info8
  obtain ⟨r, ho1, hr, t0⟩ := h1
  obtain ⟨rx, hox, hrx, tx⟩ := h2
  refine wp_own_append s x 25 25 ho 5 i0 (.int .u8 0) 1 1 Tryz.underlying25 hi hz0 hz1 hz2 rfl v r l.length (l.map B8) hsv ho1 xv m.length (m.map B8) hx hox.src (by simp only [maxLen]; omega) (by omega) ?_
  intro v1 r1 w2 ho2 ht2 hr2
  exact h v1 w2 (OwnX.app hr t0 ho2 ht2 hr2) (ht2.mono (fun q _ e => hr q e))
theorem OwnX.blk {w0 w : World} {l : List UInt8} {v : Value} (h : OwnX w0 w l v) {b : Nat} {T : TypeId} {cs : Array Value} (hb : Blk w0 b T cs) : Blk w b T cs := by
  obtain ⟨_, _, _, t⟩ := h
  exact t.blk hb (fun e => e)
theorem NewOwn.touch {w w1 : World} {l : List UInt8} {e : Ending} (h : NewOwn w l e w1) : Touch (fun _ => False) w w1 := by obtain ⟨_, _, _, _, _, t⟩ := h; exact t
theorem OwnX.touch {w0 w : World} {l : List UInt8} {v : Value} (h : OwnX w0 w l v) : Touch (fun _ => False) w0 w := by obtain ⟨_, _, _, t⟩ := h; exact t
end Go.Proofs.YtlcefchbfjfifaaGreat
end
