/- What reply.Read and ref19.Read do: the words; an append of a number that was read. What ref19.Read does. What reply.Read does. When two replies are the same: reply.Same, ref19.Same; reply.Refused; law19.Light. What was read, as bytes; what was written, read. -/
import Derived.Test.YtlcefchbfjfifaaVRepI
import Derived.Test.YtlcefchbfjfifaaVCcF
section
namespace Go.Proofs.Ytlcefchbfjfifaa
open Go.RowKit
set_option maxHeartbeats 4000000
set_option maxRecDepth 100000
set_option linter.unusedVariables false

structure RepN where
  code : Nat
  time : Int
  t : TkN
  fired : List Nat
  notice : Nat
  dead : Nat
def RepN.cells (r : RepN) (v : Value) : Array Value := #[.int .i64 r.code, .int .i64 r.time, .int .u64 r.t.id, .int .i64 r.t.contract, .int .i64 r.t.state, .int .i64 r.t.level, .int .u64 r.t.gen, .int .i64 r.t.from_, .int .i64 r.t.left, .int .i64 r.t.due, .int .i64 r.t.told, v, .int .u64 r.notice, .int .i64 r.dead]
def rdFired : Nat → Bool × List UInt8 → List Nat × Bool × List UInt8
  | 0, s => ([], s)
  | k + 1, s => ((rdFired k s).1 ++ [(rd3 18446744073709551615 (rdFired k s).2).1], (rd3 18446744073709551615 (rdFired k s).2).2)
theorem rdFired_len : ∀ k s, (rdFired k s).1.length = k
  | 0, _ => rfl
  | k + 1, s => by simp [rdFired, rdFired_len k s]
theorem rdFired_le : ∀ k s, ∀ n ∈ (rdFired k s).1, n < 256 ^ 8
  | 0, _ => fun n h => by cases h
  | k + 1, s => fun n h => by
    simp only [rdFired, List.mem_append, List.mem_singleton] at h
    rcases h with h | h
    · exact rdFired_le k s n h
    · have := rd3_le 18446744073709551615 (rdFired k s).2; rw [h]; omega
/-- A ticket, where there is one. -/
def rdTk1 (f : Nat × Bool × List UInt8) : TkN × Bool × List UInt8 := if f.1 = 1 then tkRes (rdTk f.2) else (tkZero, f.2)
/-- A reply read, sound or not. -/
def rdRep (s : Bool × List UInt8) : RepN × Bool × List UInt8 :=
  let a := rd3 99 s
  let i := rdI a.2
  let f := rd3 1 i.2
  let k := rdTk1 f
  let n := rd3 64 k.2
  let x := rdFired n.1 n.2
  let q := rd3 18446744073709551615 x.2
  let d := rd3 128 q.2
  (⟨a.1, i.1, k.1, x.1, q.1, d.1⟩, d.2)
def rpGood (r : RepN × Bool × List UInt8) : Bool := !r.2.1 && rpSound r.1.code r.1.time r.1.t.v r.1.fired.length r.1.dead
def rpZero : RepN := ⟨0, 0, tkZero, [], 0, 0⟩
def rpRes (r : RepN × Bool × List UInt8) : RepN × Bool × List UInt8 := if rpGood r = true then r else (rpZero, true, [])
/-- A row of numbers of the call's own. -/
def OwnU (w0 w : World) (xs : List Nat) (v : Value) : Prop := ∃ q, Own w 27 1 v q xs.length (xs.map U64) ∧ ∀ k, q = some k → w0.heap.size ≤ k
theorem OwnU.nil (w0 w : World) : OwnU w0 w [] (.slice none 0 0) := ⟨none, Own.nil _ _ _, fun _ e => by cases e⟩
theorem OwnU.touch {w0 w w' : World} {xs : List Nat} {v : Value} {S : Nat → Prop} (h : OwnU w0 w xs v) (t : Touch S w w') (hS : ∀ k, w0.heap.size ≤ k → ¬ S k) : OwnU w0 w' xs v := by
  obtain ⟨q, ho, hq⟩ := h
  exact ⟨q, ho.touch t (fun k e => hS k (hq k e)), hq⟩
theorem OwnU.before {w0 w1 w : World} {xs : List Nat} {v : Value} (h : OwnU w1 w xs v) (hs : w0.heap.size ≤ w1.heap.size) : OwnU w0 w xs v := by
  obtain ⟨q, ho, hq⟩ := h
  exact ⟨q, ho, fun k e => Nat.le_trans hs (hq k e)⟩
theorem OwnU.form {w0 w : World} {xs : List Nat} {v : Value} (h : OwnU w0 w xs v) : ∃ A c, v = .slice A xs.length c := by
  obtain ⟨q, ho, hq⟩ := h
  obtain ⟨A, c, e, _⟩ := ho.form
  exact ⟨A, c, e⟩
theorem OwnU.form3 {w0 w : World} {xs : List Nat} {v : Value} (h : OwnU w0 w xs v) : ∃ A n c, v = .slice A n c := by
  obtain ⟨A, c, e⟩ := h.form
  exact ⟨A, _, c, e⟩
theorem OwnU.len {w0 w : World} {xs : List Nat} {A : Option Addr} {n c : Nat} (h : OwnU w0 w xs (.slice A n c)) : xs.length = n := by
  obtain ⟨A', c', e⟩ := h.form
  injection e with _ e _
  exact e.symm
theorem OwnU.sets {w0 w : World} {xs : List Nat} {v : Value} (h : OwnU w0 w xs v) (b : Nat) (hb : b < w0.heap.size) (vs : List Value) : OwnU w0 (w.setCells b 0 vs) xs v :=
  h.touch (Touch.setCells (S := fun k => k = b) (g := b) vs 0 w (Touch.refl _ _) (fun _ => rfl)) (by intro k hk e; omega)
theorem OwnU.set {w0 w : World} {xs : List Nat} {v : Value} (h : OwnU w0 w xs v) (b i : Nat) (hb : b < w0.heap.size) (u : Value) : OwnU w0 (w.setCell ⟨b, i, none⟩ u) xs v :=
  h.touch (Touch.set (S := fun k => k = b) (Touch.refl _ w) (b := b) (o := i) (fun _ => rfl) u) (by intro k hk e; omega)
def RpPost (r : RepN × Bool × List UInt8) (w : World) (g : Nat) (F : Nat → Prop) (e : Ending) (w' : World) : Prop :=
  (∃ v, e = .returned (.tuple #[.agg ((rpRes r).1.cells v), .bool (rpGood r)]) ∧ OwnU w w' (rpRes r).1.fired v) ∧ RdAt w' g F (rpRes r).2.2 (rpRes r).2.1 ∧ Touch (fun k => k = g) w w'
def FRpPost (r : RepN × Bool × List UInt8) (w : World) (g : Nat) (F : Nat → Prop) (e : Ending) (w' : World) : Prop :=
  (∃ v, e = .returned (.tuple #[.agg ((rpRes r).1.cells v), .bool (rpGood r)]) ∧ OwnU w w' (rpRes r).1.fired v) ∧ RfAt w' g F (rpRes r).2.2 (rpRes r).2.1 ∧ Touch (fun k => k = g) w w'

theorem RpPost.no {r : RepN × Bool × List UInt8} {w w' : World} {g : Nat} {F : Nat → Prop} (h : rpGood r = false) (hr : RdAt w' g F [] true ∧ Touch (fun k => k = g) w w') : RpPost r w g F (.returned (.tuple #[.agg #[.int .i64 0, .int .i64 0, .int .u64 0, .int .i64 0, .int .i64 0, .int .i64 0, .int .u64 0, .int .i64 0, .int .i64 0, .int .i64 0, .int .i64 0, .slice none 0 0, .int .u64 0, .int .i64 0], .bool false])) w' := by
  have e : rpRes r = (rpZero, true, []) := by rw [rpRes, h]; rfl
  rw [RpPost, e, h]
  exact ⟨⟨_, rfl, OwnU.nil _ _⟩, hr.1, hr.2⟩
theorem RpPost.yes {r : RepN × Bool × List UInt8} {w w' : World} {g : Nat} {F : Nat → Prop} {v : Value} (h : rpGood r = true) (ho : OwnU w w' r.1.fired v) (hr : RdAt w' g F r.2.2 r.2.1 ∧ Touch (fun k => k = g) w w') : RpPost r w g F (.returned (.tuple #[.agg (r.1.cells v), .bool true])) w' := by
  have e : rpRes r = r := by rw [rpRes, h]; rfl
  rw [RpPost, e, h]
  exact ⟨⟨_, rfl, ho⟩, hr.1, hr.2⟩

theorem FRpPost.no {r : RepN × Bool × List UInt8} {w w' : World} {g : Nat} {F : Nat → Prop} (h : rpGood r = false) (hr : RfAt w' g F [] true ∧ Touch (fun k => k = g) w w') : FRpPost r w g F (.returned (.tuple #[.agg #[.int .i64 0, .int .i64 0, .int .u64 0, .int .i64 0, .int .i64 0, .int .i64 0, .int .u64 0, .int .i64 0, .int .i64 0, .int .i64 0, .int .i64 0, .slice none 0 0, .int .u64 0, .int .i64 0], .bool false])) w' := by
  have e : rpRes r = (rpZero, true, []) := by rw [rpRes, h]; rfl
  rw [FRpPost, e, h]
  exact ⟨⟨_, rfl, OwnU.nil _ _⟩, hr.1, hr.2⟩
theorem FRpPost.yes {r : RepN × Bool × List UInt8} {w w' : World} {g : Nat} {F : Nat → Prop} {v : Value} (h : rpGood r = true) (ho : OwnU w w' r.1.fired v) (hr : RfAt w' g F r.2.2 r.2.1 ∧ Touch (fun k => k = g) w w') : FRpPost r w g F (.returned (.tuple #[.agg (r.1.cells v), .bool true])) w' := by
  have e : rpRes r = r := by rw [rpRes, h]; rfl
  rw [FRpPost, e, h]
  exact ⟨⟨_, rfl, ho⟩, hr.1, hr.2⟩

theorem infoU : (Try.prog.info? 27).map (fun i => (i.zero, i.size, i.bytes)) = some (some (.int .u64 0), 1, 8) := by kernel_rfl
theorem own_append_u64 {o : Oper} {a : Act} {K : Act → World → Prop} {Q : Exit → Act → World → Prop} {w w0 : World} (s x : Operand)
    (ho : o.op = .call { callee := .builtin .append, args := #[s, x], argTypes := #[43, 43] })
    (xs : List Nat) (n g c : Nat) (v : Value) (hsv : a.eval s = v) (hx : a.eval x = .slice (some ⟨g, 0, none⟩) 1 c) (h1 : OwnU w0 w xs v) (hb : Blk w g 27 #[U64 n]) (hsm : xs.length + 1 ≤ 1000000)
    (h : ∀ v' w' r, OwnU w0 w' (xs ++ [n]) v' → Touch (fun k => r = some k) w w' → (∀ k, r = some k → w0.heap.size ≤ k) → K (a.put o.dst v') w') (hs0 : w0.heap.size ≤ w.heap.size) : o.wp Try.prog a w K Q := by
  obtain ⟨i0, hi, hz0, hz1, hz2⟩ := info_parts infoU
  obtain ⟨r, ho1, hr⟩ := h1
  refine wp_own_append s x 43 43 ho 27 i0 (.int .u64 0) 1 8 Try.underlying43 hi hz0 hz1 hz2 rfl v r xs.length (xs.map U64) hsv ho1 _ 1 [U64 n] hx
    (Src.lit Try.underlying43 g 1 c 27 #[U64 n] hb rfl (fun u hu => by simp at hu; subst hu; rfl)) (by simp only [maxLen]; omega) (by omega) ?_
  intro v1 r1 w2 ho2 ht2 hr2
  refine h v1 w2 r ⟨r1, by simpa using ho2, fun k e => ?_⟩ ht2 hr
  rcases hr2 with e' | ⟨q, e', hq⟩
  · exact hr k (e'.symm.trans e)
  · rw [e'] at e; injection e with e; omega
theorem rdFired_bad : ∀ k {s : Bool × List UInt8}, s.1 = true → (rdFired k s).2.1 = true
  | 0, _, h => h
  | k + 1, _, h => rd3_bad (rdFired_bad k h)
theorem rdTk_ok (s : Bool × List UInt8) : (rdTk s).1.v.ok := by
  have h := fun s => rd3_le 1125899906842624 s
  simp only [rdTk, TkN.v, TkV.ok]
  refine ⟨by omega, Int.le_trans (Int.ofNat_le.2 (h _)) (by decide), by omega, Int.le_trans (Int.ofNat_le.2 (h _)) (by decide), by omega, Int.le_trans (Int.ofNat_le.2 (h _)) (by decide)⟩
theorem tkRes_ok (s : Bool × List UInt8) : (tkRes (rdTk s)).1.v.ok := by
  unfold tkRes
  split
  · exact rdTk_ok s
  · simp only [tkZero, TkN.v, TkV.ok]; omega
theorem rdFired_step {j : Nat} {s : Bool × List UInt8} {xs : List Nat} {b b' : Bool} {l l' : List UInt8} {v : Nat} (h : rdFired j s = (xs, b, l)) (h2 : rd3 18446744073709551615 (b, l) = (v, b', l')) : rdFired (j + 1) s = (xs ++ [v], b', l') := by
  show ((rdFired j s).1 ++ [(rd3 18446744073709551615 (rdFired j s).2).1], (rd3 18446744073709551615 (rdFired j s).2).2) = _
  rw [h]
  show (xs ++ [(rd3 18446744073709551615 (b, l)).1], (rd3 18446744073709551615 (b, l)).2) = _
  rw [h2]
/-- In the loop. -/
def FiredIn (wS w : World) (g p : Nat) (F : Nat → Prop) (s : Bool × List UInt8) (j : Nat) (cs : Value → Array Value) : Prop :=
  ∃ xs b l v, rdFired j s = (xs, b, l) ∧ In wS w g p 45 F l b (cs v) ∧ OwnU wS w xs v
def FFiredIn (wS w : World) (g p : Nat) (F : Nat → Prop) (s : Bool × List UInt8) (j : Nat) (cs : Value → Array Value) : Prop :=
  ∃ xs b l v, rdFired j s = (xs, b, l) ∧ Inf wS w g p 45 F l b (cs v) ∧ OwnU wS w xs v
theorem tkRes_bad {r : TkN × Bool × List UInt8} (h : (tkRes r).2.1 = false) : tkGood r = true := by
  unfold tkRes at h
  split at h
  · assumption
  · cases h
end Go.Proofs.Ytlcefchbfjfifaa
end

section
namespace Go.Proofs.Ytlcefchbfjfifaa
open Go.RowKit
set_option maxHeartbeats 4000000
set_option maxRecDepth 100000
set_option linter.unusedVariables false

end Go.Proofs.Ytlcefchbfjfifaa
end

section
namespace Go.Proofs.Ytlcefchbfjfifaa
open Go.RowKit
set_option maxHeartbeats 4000000
set_option maxRecDepth 100000
set_option linter.unusedVariables false

end Go.Proofs.Ytlcefchbfjfifaa
end

section
namespace Go.Proofs.Ytlcefchbfjfifaa
open Go.RowKit
set_option maxHeartbeats 4000000
set_option maxRecDepth 100000
set_option linter.unusedVariables false

/-- Any reply, as numbers. -/
structure RpV where
  code : Int
  time : Int
  t : TkV
  fired : List Nat
  notice : Nat
  dead : Int
def tkEq (a b : TkV) : Bool := decide (a.id = b.id ∧ a.contract = b.contract ∧ a.state = b.state ∧ a.level = b.level ∧ a.gen = b.gen ∧ a.from_ = b.from_ ∧ a.left = b.left ∧ a.due = b.due ∧ a.told = b.told)
def rpPlain (a b : RpV) : Bool := decide (a.code = b.code ∧ a.time = b.time ∧ tkEq a.t b.t = true ∧ a.notice = b.notice ∧ a.dead = b.dead)
def rpSame (a b : RpV) : Bool := rpPlain a b && decide (a.fired = b.fired)
theorem tkEq_refl (a : TkV) : tkEq a a = true := by simp [tkEq]
theorem rpSame_refl (a : RpV) : rpSame a a = true := by simp [rpSame, rpPlain, tkEq_refl]
theorem rpSame_eq {a b : RpV} (h : rpSame a b = true) : a = b := by
  obtain ⟨c, ti, ⟨t1, t2, t3, t4, t5, t6, t7, t8, t9⟩, f, n, d⟩ := a
  obtain ⟨c', ti', ⟨u1, u2, u3, u4, u5, u6, u7, u8, u9⟩, f', n', d'⟩ := b
  simp [rpSame, rpPlain, tkEq] at h
  obtain ⟨⟨rfl, rfl, ⟨rfl, rfl, rfl, rfl, rfl, rfl, rfl, rfl, rfl⟩, rfl, rfl⟩, rfl⟩ := h
  rfl
theorem eqTk (id : Nat) (con st lev : Int) (gen : Nat) (fr le du to_ : Int) (id' : Nat) (con' st' lev' : Int) (gen' : Nat) (fr' le' du' to' : Int) (w : World) :
    (binOp .eql 42 (.agg #[.int .u64 id, .int .i64 con, .int .i64 st, .int .i64 lev, .int .u64 gen, .int .i64 fr, .int .i64 le, .int .i64 du, .int .i64 to_]) (.agg #[.int .u64 id', .int .i64 con', .int .i64 st', .int .i64 lev', .int .u64 gen', .int .i64 fr', .int .i64 le', .int .i64 du', .int .i64 to'])).run Try.prog w =
      .ok (.bool (tkEq ⟨id, con, st, lev, gen, fr, le, du, to_⟩ ⟨id', con', st', lev', gen', fr', le', du', to'⟩)) w := by
  simp [go_sem]
  simp only [tkEq]
  repeat' split
  all_goals (simp_all <;> first | omega | (intros; omega))
theorem neTk (id : Nat) (con st lev : Int) (gen : Nat) (fr le du to_ : Int) (id' : Nat) (con' st' lev' : Int) (gen' : Nat) (fr' le' du' to' : Int) (w : World) :
    (binOp .neq 42 (.agg #[.int .u64 id, .int .i64 con, .int .i64 st, .int .i64 lev, .int .u64 gen, .int .i64 fr, .int .i64 le, .int .i64 du, .int .i64 to_]) (.agg #[.int .u64 id', .int .i64 con', .int .i64 st', .int .i64 lev', .int .u64 gen', .int .i64 fr', .int .i64 le', .int .i64 du', .int .i64 to'])).run Try.prog w =
      .ok (.bool (!tkEq ⟨id, con, st, lev, gen, fr, le, du, to_⟩ ⟨id', con', st', lev', gen', fr', le', du', to'⟩)) w := by
  simp [go_sem]
  simp only [tkEq]
  repeat' split
  all_goals (simp_all <;> first | omega | (intros; omega))
theorem get_U64 {l : List Nat} {j : Nat} (hj : j < l.length) : (l.map U64)[j]? = some (U64 (l.getD j 0)) := by simp [List.getD, List.getElem?_eq_getElem hj]
theorem eqN_take (a b : List Nat) (hl : a.length = b.length) (j : Nat) (hj : j < a.length) : a.take (j + 1) = b.take (j + 1) ↔ a.take j = b.take j ∧ a.getD j 0 = b.getD j 0 := by
  rw [List.take_succ_eq_append_getElem hj, List.take_succ_eq_append_getElem (by omega)]
  simp only [List.getD, List.getElem?_eq_getElem hj, List.getElem?_eq_getElem (show j < b.length by omega), Option.getD_some]
  constructor
  · intro e
    have := List.append_inj e (by simp; omega)
    exact ⟨this.1, by simpa using this.2⟩
  · rintro ⟨e1, e2⟩; rw [e1, e2]

theorem rsameR_any (F F' : Nat → Prop) (A A' : Option Addr) (c c' : Nat) (a b : RpV) (w : World) (hr : Rd w F A a.fired.length (a.fired.map U64)) (hr' : Rd w F' A' b.fired.length (b.fired.map U64)) (hsm : a.fired.length ≤ 1000000) :
    Calls Try.prog 59 #[.agg #[.int .i64 a.code, .int .i64 a.time, .int .u64 a.t.id, .int .i64 a.t.contract, .int .i64 a.t.state, .int .i64 a.t.level, .int .u64 a.t.gen, .int .i64 a.t.from_, .int .i64 a.t.left, .int .i64 a.t.due, .int .i64 a.t.told, .slice A a.fired.length c, .int .u64 a.notice, .int .i64 a.dead], .agg #[.int .i64 b.code, .int .i64 b.time, .int .u64 b.t.id, .int .i64 b.t.contract, .int .i64 b.t.state, .int .i64 b.t.level, .int .u64 b.t.gen, .int .i64 b.t.from_, .int .i64 b.t.left, .int .i64 b.t.due, .int .i64 b.t.told, .slice A' b.fired.length c', .int .u64 b.notice, .int .i64 b.dead]] w fun e w' => e = .returned (.bool (rpSame a b)) ∧ Touch (fun _ => False) w w' := by
  obtain ⟨coa, tia, ⟨ida, cna, sta, lva, gna, fra, lea, dua, toa⟩, xs, noa, dea⟩ := a
  obtain ⟨cob, tib, ⟨idb, cnb, stb, lvb, gnb, frb, leb, dub, tob⟩, ys, nob, deb⟩ := b
  simp only at hr hr' hsm ⊢
  have hbin := fun w => neTk ida cna sta lva gna fra lea dua toa idb cnb stb lvb gnb frb leb dub tob w
  obtain ⟨q, hq⟩ : ∃ q, q = tkEq ⟨ida, cna, sta, lva, gna, fra, lea, dua, toa⟩ ⟨idb, cnb, stb, lvb, gnb, frb, leb, dub, tob⟩ := ⟨_, rfl⟩
  have HS := Lib.hid (show rpSame ⟨coa, tia, ⟨ida, cna, sta, lva, gna, fra, lea, dua, toa⟩, xs, noa, dea⟩ ⟨cob, tib, ⟨idb, cnb, stb, lvb, gnb, frb, leb, dub, tob⟩, ys, nob, deb⟩ = (decide (coa = cob ∧ tia = tib ∧ q = true ∧ noa = nob ∧ dea = deb) && decide (xs = ys)) from by rw [hq]; rfl)
  generalize rpSame ⟨coa, tia, ⟨ida, cna, sta, lva, gna, fra, lea, dua, toa⟩, xs, noa, dea⟩ ⟨cob, tib, ⟨idb, cnb, stb, lvb, gnb, frb, leb, dub, tob⟩, ys, nob, deb⟩ = R at HS ⊢
  rw [← hq] at hbin
  clear hq
  have Hr := Lib.hid hr
  have Hr' := Lib.hid hr'
  clear hr hr'
  by_cases hp : coa = cob ∧ tia = tib ∧ q = true ∧ noa = nob ∧ dea = deb ∧ xs.length = ys.length
  · obtain ⟨rfl, rfl, rfl, rfl, rfl, hl⟩ := hp
    have HL := Lib.hid hl
    rw [← hl] at Hr' ⊢
    clear hl
    have HR := Lib.hid (show R = decide (xs = ys) from by rw [HS.out]; simp)
    obtain ⟨W, hW⟩ : ∃ W, W = (w.alloc (.cells #[.int .i64 coa, .int .i64 tia, .int .u64 ida, .int .i64 cna, .int .i64 sta, .int .i64 lva, .int .u64 gna, .int .i64 fra, .int .i64 lea, .int .i64 dua, .int .i64 toa, .slice A xs.length c, .int .u64 noa, .int .i64 dea] 45)).alloc (.cells #[.int .i64 coa, .int .i64 tia, .int .u64 idb, .int .i64 cnb, .int .i64 stb, .int .i64 lvb, .int .u64 gnb, .int .i64 frb, .int .i64 leb, .int .i64 dub, .int .i64 tob, .slice A' xs.length c', .int .u64 noa, .int .i64 dea] 45) := ⟨_, rfl⟩
    have HA := Lib.hid (show Blk W w.heap.size 45 #[.int .i64 coa, .int .i64 tia, .int .u64 ida, .int .i64 cna, .int .i64 sta, .int .i64 lva, .int .u64 gna, .int .i64 fra, .int .i64 lea, .int .i64 dua, .int .i64 toa, .slice A xs.length c, .int .u64 noa, .int .i64 dea] from hW ▸ (Blk.new w 45 _).alloc _)
    have HB := Lib.hid (show Blk W (w.heap.size + 1) 45 #[.int .i64 coa, .int .i64 tia, .int .u64 idb, .int .i64 cnb, .int .i64 stb, .int .i64 lvb, .int .u64 gnb, .int .i64 frb, .int .i64 leb, .int .i64 dub, .int .i64 tob, .slice A' xs.length c', .int .u64 noa, .int .i64 dea] from hW ▸ (by simpa using Blk.new (w.alloc (.cells #[.int .i64 coa, .int .i64 tia, .int .u64 ida, .int .i64 cna, .int .i64 sta, .int .i64 lva, .int .u64 gna, .int .i64 fra, .int .i64 lea, .int .i64 dua, .int .i64 toa, .slice A xs.length c, .int .u64 noa, .int .i64 dea] 45)) 45 #[.int .i64 coa, .int .i64 tia, .int .u64 idb, .int .i64 cnb, .int .i64 stb, .int .i64 lvb, .int .u64 gnb, .int .i64 frb, .int .i64 leb, .int .i64 dub, .int .i64 tob, .slice A' xs.length c', .int .u64 noa, .int .i64 dea]))
    have HT0 := Lib.hid (show Touch (fun _ => False) w W from hW ▸ ((Touch.refl _ w).alloc _).alloc _)
    have HW := Lib.hid hW
    clear hW
    go_enter Try.func59, Try.ntmps59
    go_wp2_with fail
    rw [← HW.out]
    clear HW
    go_loopw [5] (fun i wr => ∃ j : Nat, j ≤ xs.length ∧ i = .int .i64 j ∧ xs.take j = ys.take j ∧ Touch (fun _ => False) W wr) (fun i _ => xs.length - (intOf i).toNat)
    case atStart => exact ⟨0, by omega, rfl, rfl, Touch.refl _ _⟩
    case round =>
      obtain ⟨j, hj, rfl, hno, hT⟩ := hrel
      have HN := Lib.hid hno
      have HT := Lib.hid hT
      have qa := (hT.blk HA.out (fun e => e)).cell 11
      have qb := (hT.blk HB.out (fun e => e)).cell 11
      simp at qa qb
      clear hno hT
      by_cases hjk : j < xs.length
      · obtain ⟨g, off, rfl, _, _, hc⟩ := (Hr.out.touch (HT0.out.trans HT.out (fun _ _ e => e)) (fun _ _ e => e)).2 (by omega)
        obtain ⟨g', off', rfl, _, _, hc'⟩ := (Hr'.out.touch (HT0.out.trans HT.out (fun _ _ e => e)) (fun _ _ e => e)).2 (by omega)
        have hcj := hc j _ (get_U64 hjk)
        have hcj' := hc' j _ (get_U64 (by rw [← HL.out]; exact hjk))
        simp only [U64] at hcj hcj'
        have HE := Lib.hid (eqN_take xs ys HL.out j hjk)
        generalize xs.getD j 0 = x at *
        generalize ys.getD j 0 = y at *
        clear hc hc'
        by_cases hx : x = y
        · subst hx
          go_wp2_with fail
          refine wp_region_plan [(0, 0), (0, 1), (0, 2), (0, 3), (0, 4), (0, 5), (0, 6), (0, 7), (0, 8), (0, 9), (0, 10)] (fun _ => False) (by kernel_rfl) (by kernel_rfl) (fun c a d v w h => by cases d <;> exact h) ?_
          iterate 11
            first
              | (refine plan_s1 rfl (by rfl) (fun Kc hKc => ?_)
                 go_simp
                 first
                   | (refine hKc _ ?_)
                 clear hKc Kc)
              | (refine plan_s0 rfl (by rfl) ?_; go_frame)
          refine plan_done ?_
          go_wp2
          go_roundw
          case rel => exact ⟨j + 1, by omega, by go_num, HE.out.2 ⟨HN.out, trivial⟩, HT.out.drew⟩
          case measure => simp [intOf]; omega
        · have hx' : ¬ (x : Int) = y := by omega
          go_wp2_with fail
          refine wp_region_plan [(0, 0), (0, 1), (0, 2), (0, 3), (0, 4), (0, 5), (0, 6), (0, 7), (0, 8), (0, 9), (0, 10)] (fun _ => False) (by kernel_rfl) (by kernel_rfl) (fun c a d v w h => by cases d <;> exact h) ?_
          iterate 11
            first
              | (refine plan_s1 rfl (by rfl) (fun Kc hKc => ?_)
                 go_simp
                 first
                   | (refine hKc _ ?_)
                 clear hKc Kc)
              | (refine plan_s0 rfl (by rfl) ?_; go_frame)
          refine plan_done ?_
          go_wp2
          go_ret
          refine ⟨ret_bool ?_, (HT0.out.trans HT.out (fun _ _ e => e)).drew⟩
          rw [HR.out]
          simp only [Bool.false_eq, decide_eq_false_iff_not]
          rintro rfl
          exact hx (HE.out.1 rfl).2
      · obtain rfl : j = xs.length := by omega
        go_wp2
        go_ret
        refine ⟨ret_bool ?_, HT0.out.trans HT.out (fun _ _ e => e)⟩
        have := HN.out
        rw [List.take_length, HL.out, List.take_length] at this
        rw [HR.out]
        simp [this]
  · have HR := Lib.hid (show R = false from by
      rw [HS.out, Bool.and_eq_false_iff, decide_eq_false_iff_not, decide_eq_false_iff_not]
      by_cases hx : xs = ys
      · left; rintro ⟨h1, h2, h3, h4, h5⟩; exact hp ⟨h1, h2, h3, h4, h5, by rw [hx]⟩
      · exact .inr hx)
    have HP := Lib.hid hp
    clear hp
    cases q
    all_goals (
      go_enter Try.func59, Try.ntmps59
      go_wp2_with fail)
    all_goals first
      | (go_ret
         exact ⟨ret_bool HR.out.symm, ((Touch.refl _ w).alloc _).alloc _⟩)
      | (exfalso; have := HP.out; simp_all; done)
      | (exfalso; have := HP.out; simp_all; omega)

theorem light_any (a : RpV) (A : Option Addr) (n c : Nat) (w : World) :
    Calls Try.prog 20 #[.agg #[.int .i64 a.code, .int .i64 a.time, .int .u64 a.t.id, .int .i64 a.t.contract, .int .i64 a.t.state, .int .i64 a.t.level, .int .u64 a.t.gen, .int .i64 a.t.from_, .int .i64 a.t.left, .int .i64 a.t.due, .int .i64 a.t.told, .slice A n c, .int .u64 a.notice, .int .i64 a.dead]] w fun e w' => e = .returned (.bool (decide (n ≤ 200))) ∧ Touch (fun _ => False) w w' := by
  go_enter Try.func20, Try.ntmps20
  go_wp2
  go_ret
  exact ⟨ret_bool (by simp; omega), (Touch.refl _ w).alloc _⟩
end Go.Proofs.Ytlcefchbfjfifaa
end

section
namespace Go.Proofs.Ytlcefchbfjfifaa
open Go.RowKit
set_option maxHeartbeats 4000000
set_option maxRecDepth 100000
set_option linter.unusedVariables false

theorem rdNum_suffix (m : Nat) (mk b : Bool) (l : List UInt8) (h : (rdNum m mk b l).bad = false) : ∃ p, l = p ++ (rdNum m mk b l).left ∧ (rdNum m mk b l).left.length ≤ l.length := by
  rcases l with _ | ⟨c, t⟩
  · simp [rdNum, rdFail] at h
  unfold rdNum at h ⊢
  simp only at h ⊢
  split
  · split
    · exact ⟨c :: t.take (rdHead mk c), by simp, by simp; omega⟩
    · rename_i h1 h2; rw [if_pos h1, if_neg h2] at h; cases h
  · rename_i h1; rw [if_neg h1] at h; cases h
theorem split_of {l p q e : List UInt8} (h : l = p ++ q) (he : e = l.take (l.length - q.length)) : l = e ++ q := by
  subst h
  rw [he]; simp
theorem rd3_ok {m : Nat} {s : Bool × List UInt8} {v : Nat} {l : List UInt8} (h : rd3 m s = (v, false, l)) : s.1 = false := by
  cases hs : s.1
  · rfl
  · have := rd3_bad (m := m) hs; rw [h] at this; cases this
theorem rd3_split {m : Nat} {l l' : List UInt8} {v : Nat} (h : rd3 m (false, l) = (v, false, l')) : l = encN 0 v ++ l' := by
  simp only [rd3, Prod.mk.injEq] at h
  obtain ⟨h1, h2, h3⟩ := h
  obtain ⟨p, hp, _⟩ := rdNum_suffix m false false l h2
  have := read_written m l h2
  rw [← h1, ← h3]
  exact split_of hp this
theorem rdI_ok {s : Bool × List UInt8} {v : Int} {l : List UInt8} (h : rdI s = (v, false, l)) : s.1 = false := by
  cases hs : s.1
  · rfl
  · simp only [rdI, hs, rdNum_bad, Prod.mk.injEq] at h
    exact absurd h.2.1 (by simp)
theorem rdI_split {l l' : List UInt8} {v : Int} (h : rdI (false, l) = (v, false, l')) : l = encI v ++ l' := by
  simp only [rdI, Prod.mk.injEq] at h
  obtain ⟨h1, h2, h3⟩ := h
  obtain ⟨p, hp, _⟩ := rdNum_suffix _ true false l h2
  have := readI_written l h2
  rw [← h1, ← h3]
  exact split_of hp this
theorem rd3_write (m n : Nat) (b : Bool) (rest : List UInt8) (h : n < 256 ^ 8) (hm : n ≤ m) : rd3 m (b, encN 0 n ++ rest) = (n, b, rest) := by
  simp only [rd3, written_read m n b rest h hm]
theorem rdI_write (i : Int) (b : Bool) (rest : List UInt8) (h1 : -9223372036854775808 ≤ i) (h2 : i ≤ 9223372036854775807) : rdI (b, encI i ++ rest) = (i, b, rest) := by
  obtain ⟨a1, a2, a3⟩ := written_readI i b rest h1 h2
  simp only [rdI, a1, a2, a3]
theorem rd3_pair (m : Nat) (s : Bool × List UInt8) : ∃ v b l, rd3 m s = (v, b, l) := ⟨_, _, _, rfl⟩
end Go.Proofs.Ytlcefchbfjfifaa
end
