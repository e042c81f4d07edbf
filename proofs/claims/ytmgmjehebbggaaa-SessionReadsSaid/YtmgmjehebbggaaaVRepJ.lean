/- What reply.Read and ref19.Read do: the words; an append of a number that was read. -/
import Derived.Test.YtmgmjehebbggaaaVRepI
namespace Go.Proofs.Ytmgmjehebbggaaa
open Go.RowKit
set_option maxHeartbeats 4000000
set_option maxRecDepth 100000
set_option linter.unusedVariables false

structure RepN where
  code : Nat
  time : Int
  t : TkN
  fired : List Nat
  notice : Nat
  dead : Nat
def RepN.cells (r : RepN) (v : Value) : Array Value := #[.int .i64 r.code, .int .i64 r.time, .int .u64 r.t.id, .int .i64 r.t.contract, .int .i64 r.t.state, .int .i64 r.t.level, .int .u64 r.t.gen, .int .i64 r.t.from_, .int .i64 r.t.left, .int .i64 r.t.due, .int .i64 r.t.told, v, .int .u64 r.notice, .int .i64 r.dead]
def rdFired : Nat → Bool × List UInt8 → List Nat × Bool × List UInt8
  | 0, s => ([], s)
  | k + 1, s => ((rdFired k s).1 ++ [(rd3 18446744073709551615 (rdFired k s).2).1], (rd3 18446744073709551615 (rdFired k s).2).2)
theorem rdFired_len : ∀ k s, (rdFired k s).1.length = k
  | 0, _ => rfl
  | k + 1, s => by simp [rdFired, rdFired_len k s]
theorem rdFired_le : ∀ k s, ∀ n ∈ (rdFired k s).1, n < 256 ^ 8
  | 0, _ => fun n h => by cases h
  | k + 1, s => fun n h => by
    simp only [rdFired, List.mem_append, List.mem_singleton] at h
    rcases h with h | h
    · exact rdFired_le k s n h
    · have := rd3_le 18446744073709551615 (rdFired k s).2; rw [h]; omega
/-- A ticket, where there is one. -/
def rdTk1 (f : Nat × Bool × List UInt8) : TkN × Bool × List UInt8 := if f.1 = 1 then tkRes (rdTk f.2) else (tkZero, f.2)
/-- A reply read, sound or not. -/
def rdRep (s : Bool × List UInt8) : RepN × Bool × List UInt8 :=
  let a := rd3 99 s
  let i := rdI a.2
  let f := rd3 1 i.2
  let k := rdTk1 f
  let n := rd3 64 k.2
  let x := rdFired n.1 n.2
  let q := rd3 18446744073709551615 x.2
  let d := rd3 128 q.2
  (⟨a.1, i.1, k.1, x.1, q.1, d.1⟩, d.2)
def rpGood (r : RepN × Bool × List UInt8) : Bool := !r.2.1 && rpSound r.1.code r.1.time r.1.t.v r.1.fired.length r.1.dead
def rpZero : RepN := ⟨0, 0, tkZero, [], 0, 0⟩
def rpRes (r : RepN × Bool × List UInt8) : RepN × Bool × List UInt8 := if rpGood r = true then r else (rpZero, true, [])
/-- A row of numbers of the call's own. -/
def OwnU (w0 w : World) (xs : List Nat) (v : Value) : Prop := ∃ q, Own w 29 1 v q xs.length (xs.map U64) ∧ ∀ k, q = some k → w0.heap.size ≤ k
theorem OwnU.nil (w0 w : World) : OwnU w0 w [] (.slice none 0 0) := ⟨none, Own.nil _ _ _, fun _ e => by cases e⟩
theorem OwnU.touch {w0 w w' : World} {xs : List Nat} {v : Value} {S : Nat → Prop} (h : OwnU w0 w xs v) (t : Touch S w w') (hS : ∀ k, w0.heap.size ≤ k → ¬ S k) : OwnU w0 w' xs v := by
  obtain ⟨q, ho, hq⟩ := h
  exact ⟨q, ho.touch t (fun k e => hS k (hq k e)), hq⟩
theorem OwnU.before {w0 w1 w : World} {xs : List Nat} {v : Value} (h : OwnU w1 w xs v) (hs : w0.heap.size ≤ w1.heap.size) : OwnU w0 w xs v := by
  obtain ⟨q, ho, hq⟩ := h
  exact ⟨q, ho, fun k e => Nat.le_trans hs (hq k e)⟩
theorem OwnU.form {w0 w : World} {xs : List Nat} {v : Value} (h : OwnU w0 w xs v) : ∃ A c, v = .slice A xs.length c := by
  obtain ⟨q, ho, hq⟩ := h
  obtain ⟨A, c, e, _⟩ := ho.form
  exact ⟨A, c, e⟩
theorem OwnU.form3 {w0 w : World} {xs : List Nat} {v : Value} (h : OwnU w0 w xs v) : ∃ A n c, v = .slice A n c := by
  obtain ⟨A, c, e⟩ := h.form
  exact ⟨A, _, c, e⟩
theorem OwnU.len {w0 w : World} {xs : List Nat} {A : Option Addr} {n c : Nat} (h : OwnU w0 w xs (.slice A n c)) : xs.length = n := by
  obtain ⟨A', c', e⟩ := h.form
  injection e with _ e _
  exact e.symm
theorem OwnU.sets {w0 w : World} {xs : List Nat} {v : Value} (h : OwnU w0 w xs v) (b : Nat) (hb : b < w0.heap.size) (vs : List Value) : OwnU w0 (w.setCells b 0 vs) xs v :=
  h.touch (Touch.setCells (S := fun k => k = b) (g := b) vs 0 w (Touch.refl _ _) (fun _ => rfl)) (by intro k hk e; omega)
theorem OwnU.set {w0 w : World} {xs : List Nat} {v : Value} (h : OwnU w0 w xs v) (b i : Nat) (hb : b < w0.heap.size) (u : Value) : OwnU w0 (w.setCell ⟨b, i, none⟩ u) xs v :=
  h.touch (Touch.set (S := fun k => k = b) (Touch.refl _ w) (b := b) (o := i) (fun _ => rfl) u) (by intro k hk e; omega)
def RpPost (r : RepN × Bool × List UInt8) (w : World) (g : Nat) (F : Nat → Prop) (e : Ending) (w' : World) : Prop :=
  (∃ v, e = .returned (.tuple #[.agg ((rpRes r).1.cells v), .bool (rpGood r)]) ∧ OwnU w w' (rpRes r).1.fired v) ∧ RdAt w' g F (rpRes r).2.2 (rpRes r).2.1 ∧ Touch (fun k => k = g) w w'
def FRpPost (r : RepN × Bool × List UInt8) (w : World) (g : Nat) (F : Nat → Prop) (e : Ending) (w' : World) : Prop :=
  (∃ v, e = .returned (.tuple #[.agg ((rpRes r).1.cells v), .bool (rpGood r)]) ∧ OwnU w w' (rpRes r).1.fired v) ∧ RfAt w' g F (rpRes r).2.2 (rpRes r).2.1 ∧ Touch (fun k => k = g) w w'

theorem RpPost.no {r : RepN × Bool × List UInt8} {w w' : World} {g : Nat} {F : Nat → Prop} (h : rpGood r = false) (hr : RdAt w' g F [] true ∧ Touch (fun k => k = g) w w') : RpPost r w g F (.returned (.tuple #[.agg #[.int .i64 0, .int .i64 0, .int .u64 0, .int .i64 0, .int .i64 0, .int .i64 0, .int .u64 0, .int .i64 0, .int .i64 0, .int .i64 0, .int .i64 0, .slice none 0 0, .int .u64 0, .int .i64 0], .bool false])) w' := by
  have e : rpRes r = (rpZero, true, []) := by rw [rpRes, h]; rfl
  rw [RpPost, e, h]
  exact ⟨⟨_, rfl, OwnU.nil _ _⟩, hr.1, hr.2⟩
theorem RpPost.yes {r : RepN × Bool × List UInt8} {w w' : World} {g : Nat} {F : Nat → Prop} {v : Value} (h : rpGood r = true) (ho : OwnU w w' r.1.fired v) (hr : RdAt w' g F r.2.2 r.2.1 ∧ Touch (fun k => k = g) w w') : RpPost r w g F (.returned (.tuple #[.agg (r.1.cells v), .bool true])) w' := by
  have e : rpRes r = r := by rw [rpRes, h]; rfl
  rw [RpPost, e, h]
  exact ⟨⟨_, rfl, ho⟩, hr.1, hr.2⟩

theorem FRpPost.no {r : RepN × Bool × List UInt8} {w w' : World} {g : Nat} {F : Nat → Prop} (h : rpGood r = false) (hr : RfAt w' g F [] true ∧ Touch (fun k => k = g) w w') : FRpPost r w g F (.returned (.tuple #[.agg #[.int .i64 0, .int .i64 0, .int .u64 0, .int .i64 0, .int .i64 0, .int .i64 0, .int .u64 0, .int .i64 0, .int .i64 0, .int .i64 0, .int .i64 0, .slice none 0 0, .int .u64 0, .int .i64 0], .bool false])) w' := by
  have e : rpRes r = (rpZero, true, []) := by rw [rpRes, h]; rfl
  rw [FRpPost, e, h]
  exact ⟨⟨_, rfl, OwnU.nil _ _⟩, hr.1, hr.2⟩
theorem FRpPost.yes {r : RepN × Bool × List UInt8} {w w' : World} {g : Nat} {F : Nat → Prop} {v : Value} (h : rpGood r = true) (ho : OwnU w w' r.1.fired v) (hr : RfAt w' g F r.2.2 r.2.1 ∧ Touch (fun k => k = g) w w') : FRpPost r w g F (.returned (.tuple #[.agg (r.1.cells v), .bool true])) w' := by
  have e : rpRes r = r := by rw [rpRes, h]; rfl
  rw [FRpPost, e, h]
  exact ⟨⟨_, rfl, ho⟩, hr.1, hr.2⟩

theorem infoU : (Try.prog.info? 29).map (fun i => (i.zero, i.size, i.bytes)) = some (some (.int .u64 0), 1, 8) := by kernel_rfl
theorem own_append_u64 {o : Oper} {a : Act} {K : Act → World → Prop} {Q : Exit → Act → World → Prop} {w w0 : World} (s x : Operand)
    (ho : o.op = .call { callee := .builtin .append, args := #[s, x], argTypes := #[33, 33] })
    (xs : List Nat) (n g c : Nat) (v : Value) (hsv : a.eval s = v) (hx : a.eval x = .slice (some ⟨g, 0, none⟩) 1 c) (h1 : OwnU w0 w xs v) (hb : Blk w g 29 #[U64 n]) (hsm : xs.length + 1 ≤ 1000000)
    (h : ∀ v' w' r, OwnU w0 w' (xs ++ [n]) v' → Touch (fun k => r = some k) w w' → (∀ k, r = some k → w0.heap.size ≤ k) → K (a.put o.dst v') w') (hs0 : w0.heap.size ≤ w.heap.size) : o.wp Try.prog a w K Q := by
  obtain ⟨i0, hi, hz0, hz1, hz2⟩ := info_parts infoU
  obtain ⟨r, ho1, hr⟩ := h1
  refine wp_own_append s x 33 33 ho 29 i0 (.int .u64 0) 1 8 Try.underlying33 hi hz0 hz1 hz2 rfl v r xs.length (xs.map U64) hsv ho1 _ 1 [U64 n] hx
    (Src.lit Try.underlying33 g 1 c 29 #[U64 n] hb rfl (fun u hu => by simp at hu; subst hu; rfl)) (by simp only [maxLen]; omega) (by omega) ?_
  intro v1 r1 w2 ho2 ht2 hr2
  refine h v1 w2 r ⟨r1, by simpa using ho2, fun k e => ?_⟩ ht2 hr
  rcases hr2 with e' | ⟨q, e', hq⟩
  · exact hr k (e'.symm.trans e)
  · rw [e'] at e; injection e with e; omega
theorem rdFired_bad : ∀ k {s : Bool × List UInt8}, s.1 = true → (rdFired k s).2.1 = true
  | 0, _, h => h
  | k + 1, _, h => rd3_bad (rdFired_bad k h)
theorem rdTk_ok (s : Bool × List UInt8) : (rdTk s).1.v.ok := by
  have h := fun s => rd3_le 1125899906842624 s
  simp only [rdTk, TkN.v, TkV.ok]
  refine ⟨by omega, Int.le_trans (Int.ofNat_le.2 (h _)) (by decide), by omega, Int.le_trans (Int.ofNat_le.2 (h _)) (by decide), by omega, Int.le_trans (Int.ofNat_le.2 (h _)) (by decide)⟩
theorem tkRes_ok (s : Bool × List UInt8) : (tkRes (rdTk s)).1.v.ok := by
  unfold tkRes
  split
  · exact rdTk_ok s
  · simp only [tkZero, TkN.v, TkV.ok]; omega
theorem rdFired_step {j : Nat} {s : Bool × List UInt8} {xs : List Nat} {b b' : Bool} {l l' : List UInt8} {v : Nat} (h : rdFired j s = (xs, b, l)) (h2 : rd3 18446744073709551615 (b, l) = (v, b', l')) : rdFired (j + 1) s = (xs ++ [v], b', l') := by
  show ((rdFired j s).1 ++ [(rd3 18446744073709551615 (rdFired j s).2).1], (rd3 18446744073709551615 (rdFired j s).2).2) = _
  rw [h]
  show (xs ++ [(rd3 18446744073709551615 (b, l)).1], (rd3 18446744073709551615 (b, l)).2) = _
  rw [h2]
/-- In the loop. -/
def FiredIn (wS w : World) (g p : Nat) (F : Nat → Prop) (s : Bool × List UInt8) (j : Nat) (cs : Value → Array Value) : Prop :=
  ∃ xs b l v, rdFired j s = (xs, b, l) ∧ In wS w g p 35 F l b (cs v) ∧ OwnU wS w xs v
def FFiredIn (wS w : World) (g p : Nat) (F : Nat → Prop) (s : Bool × List UInt8) (j : Nat) (cs : Value → Array Value) : Prop :=
  ∃ xs b l v, rdFired j s = (xs, b, l) ∧ Inf wS w g p 35 F l b (cs v) ∧ OwnU wS w xs v
theorem tkRes_bad {r : TkN × Bool × List UInt8} (h : (tkRes r).2.1 = false) : tkGood r = true := by
  unfold tkRes at h
  split at h
  · assumption
  · cases h
end Go.Proofs.Ytmgmjehebbggaaa
