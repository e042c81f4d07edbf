/- What reply.Read and ref19.Read do: the words; an append of a number that was read. Plain laws of the encoding: what was written is read; what is read was written so. No program in sight. The plain law of replies: what was written is read as it was; what was read is written as it was. No program in sight. -/
import Derived.Test.YtcblbjhhlnmkjaaVRepI
import Derived.Test.YtcblbjhhlnmkjaaVQuillZ
section
namespace Go.Proofs.Ytcblbjhhlnmkjaa
open Go.RowKit
set_option maxHeartbeats 4000000
set_option maxRecDepth 100000
set_option linter.unusedVariables false

structure RepN where
  code : Nat
  time : Int
  t : TkN
  fired : List Nat
  notice : Nat
  dead : Nat
def RepN.cells (r : RepN) (v : Value) : Array Value := #[.int .i64 r.code, .int .i64 r.time, .int .u64 r.t.id, .int .i64 r.t.contract, .int .i64 r.t.state, .int .i64 r.t.level, .int .u64 r.t.gen, .int .i64 r.t.from_, .int .i64 r.t.left, .int .i64 r.t.due, .int .i64 r.t.told, v, .int .u64 r.notice, .int .i64 r.dead]
def rdFired : Nat → Bool × List UInt8 → List Nat × Bool × List UInt8
  | 0, s => ([], s)
  | k + 1, s => ((rdFired k s).1 ++ [(rd3 18446744073709551615 (rdFired k s).2).1], (rd3 18446744073709551615 (rdFired k s).2).2)
theorem rdFired_len : ∀ k s, (rdFired k s).1.length = k
  | 0, _ => rfl
  | k + 1, s => by simp [rdFired, rdFired_len k s]
theorem rdFired_le : ∀ k s, ∀ n ∈ (rdFired k s).1, n < 256 ^ 8
  | 0, _ => fun n h => by cases h
  | k + 1, s => fun n h => by
    simp only [rdFired, List.mem_append, List.mem_singleton] at h
    rcases h with h | h
    · exact rdFired_le k s n h
    · have := rd3_le 18446744073709551615 (rdFired k s).2; rw [h]; omega
def rdI (s : Bool × List UInt8) : Int × Bool × List UInt8 := (rdInt s.1 s.2, (rdNum 9223372036854775807 true s.1 s.2).bad, (rdNum 9223372036854775807 true s.1 s.2).left)
/-- A ticket, where there is one. -/
def rdTk1 (f : Nat × Bool × List UInt8) : TkN × Bool × List UInt8 := if f.1 = 1 then tkRes (rdTk f.2) else (tkZero, f.2)
/-- A reply read, sound or not. -/
def rdRep (s : Bool × List UInt8) : RepN × Bool × List UInt8 :=
  let a := rd3 99 s
  let i := rdI a.2
  let f := rd3 1 i.2
  let k := rdTk1 f
  let n := rd3 64 k.2
  let x := rdFired n.1 n.2
  let q := rd3 18446744073709551615 x.2
  let d := rd3 128 q.2
  (⟨a.1, i.1, k.1, x.1, q.1, d.1⟩, d.2)
def rpGood (r : RepN × Bool × List UInt8) : Bool := !r.2.1 && rpSound r.1.code r.1.time r.1.t.v r.1.fired.length r.1.dead
def rpZero : RepN := ⟨0, 0, tkZero, [], 0, 0⟩
def rpRes (r : RepN × Bool × List UInt8) : RepN × Bool × List UInt8 := if rpGood r = true then r else (rpZero, true, [])
/-- A row of numbers of the call's own. -/
def OwnU (w0 w : World) (xs : List Nat) (v : Value) : Prop := ∃ q, Own w 22 1 v q xs.length (xs.map U64) ∧ ∀ k, q = some k → w0.heap.size ≤ k
theorem OwnU.nil (w0 w : World) : OwnU w0 w [] (.slice none 0 0) := ⟨none, Own.nil _ _ _, fun _ e => by cases e⟩
theorem OwnU.touch {w0 w w' : World} {xs : List Nat} {v : Value} {S : Nat → Prop} (h : OwnU w0 w xs v) (t : Touch S w w') (hS : ∀ k, w0.heap.size ≤ k → ¬ S k) : OwnU w0 w' xs v := by
  obtain ⟨q, ho, hq⟩ := h
  exact ⟨q, ho.touch t (fun k e => hS k (hq k e)), hq⟩
theorem OwnU.before {w0 w1 w : World} {xs : List Nat} {v : Value} (h : OwnU w1 w xs v) (hs : w0.heap.size ≤ w1.heap.size) : OwnU w0 w xs v := by
  obtain ⟨q, ho, hq⟩ := h
  exact ⟨q, ho, fun k e => Nat.le_trans hs (hq k e)⟩
theorem OwnU.form {w0 w : World} {xs : List Nat} {v : Value} (h : OwnU w0 w xs v) : ∃ A c, v = .slice A xs.length c := by
  obtain ⟨q, ho, hq⟩ := h
  obtain ⟨A, c, e, _⟩ := ho.form
  exact ⟨A, c, e⟩
theorem OwnU.form3 {w0 w : World} {xs : List Nat} {v : Value} (h : OwnU w0 w xs v) : ∃ A n c, v = .slice A n c := by
  obtain ⟨A, c, e⟩ := h.form
  exact ⟨A, _, c, e⟩
theorem OwnU.len {w0 w : World} {xs : List Nat} {A : Option Addr} {n c : Nat} (h : OwnU w0 w xs (.slice A n c)) : xs.length = n := by
  obtain ⟨A', c', e⟩ := h.form
  injection e with _ e _
  exact e.symm
theorem OwnU.sets {w0 w : World} {xs : List Nat} {v : Value} (h : OwnU w0 w xs v) (b : Nat) (hb : b < w0.heap.size) (vs : List Value) : OwnU w0 (w.setCells b 0 vs) xs v :=
  h.touch (Touch.setCells (S := fun k => k = b) (g := b) vs 0 w (Touch.refl _ _) (fun _ => rfl)) (by intro k hk e; omega)
theorem OwnU.set {w0 w : World} {xs : List Nat} {v : Value} (h : OwnU w0 w xs v) (b i : Nat) (hb : b < w0.heap.size) (u : Value) : OwnU w0 (w.setCell ⟨b, i, none⟩ u) xs v :=
  h.touch (Touch.set (S := fun k => k = b) (Touch.refl _ w) (b := b) (o := i) (fun _ => rfl) u) (by intro k hk e; omega)
def RpPost (r : RepN × Bool × List UInt8) (w : World) (g : Nat) (F : Nat → Prop) (e : Ending) (w' : World) : Prop :=
  (∃ v, e = .returned (.tuple #[.agg ((rpRes r).1.cells v), .bool (rpGood r)]) ∧ OwnU w w' (rpRes r).1.fired v) ∧ RdAt w' g F (rpRes r).2.2 (rpRes r).2.1 ∧ Touch (fun k => k = g) w w'
def FRpPost (r : RepN × Bool × List UInt8) (w : World) (g : Nat) (F : Nat → Prop) (e : Ending) (w' : World) : Prop :=
  (∃ v, e = .returned (.tuple #[.agg ((rpRes r).1.cells v), .bool (rpGood r)]) ∧ OwnU w w' (rpRes r).1.fired v) ∧ RfAt w' g F (rpRes r).2.2 (rpRes r).2.1 ∧ Touch (fun k => k = g) w w'

theorem RpPost.no {r : RepN × Bool × List UInt8} {w w' : World} {g : Nat} {F : Nat → Prop} (h : rpGood r = false) (hr : RdAt w' g F [] true ∧ Touch (fun k => k = g) w w') : RpPost r w g F (.returned (.tuple #[.agg #[.int .i64 0, .int .i64 0, .int .u64 0, .int .i64 0, .int .i64 0, .int .i64 0, .int .u64 0, .int .i64 0, .int .i64 0, .int .i64 0, .int .i64 0, .slice none 0 0, .int .u64 0, .int .i64 0], .bool false])) w' := by
  have e : rpRes r = (rpZero, true, []) := by rw [rpRes, h]; rfl
  rw [RpPost, e, h]
  exact ⟨⟨_, rfl, OwnU.nil _ _⟩, hr.1, hr.2⟩
theorem RpPost.yes {r : RepN × Bool × List UInt8} {w w' : World} {g : Nat} {F : Nat → Prop} {v : Value} (h : rpGood r = true) (ho : OwnU w w' r.1.fired v) (hr : RdAt w' g F r.2.2 r.2.1 ∧ Touch (fun k => k = g) w w') : RpPost r w g F (.returned (.tuple #[.agg (r.1.cells v), .bool true])) w' := by
  have e : rpRes r = r := by rw [rpRes, h]; rfl
  rw [RpPost, e, h]
  exact ⟨⟨_, rfl, ho⟩, hr.1, hr.2⟩

theorem FRpPost.no {r : RepN × Bool × List UInt8} {w w' : World} {g : Nat} {F : Nat → Prop} (h : rpGood r = false) (hr : RfAt w' g F [] true ∧ Touch (fun k => k = g) w w') : FRpPost r w g F (.returned (.tuple #[.agg #[.int .i64 0, .int .i64 0, .int .u64 0, .int .i64 0, .int .i64 0, .int .i64 0, .int .u64 0, .int .i64 0, .int .i64 0, .int .i64 0, .int .i64 0, .slice none 0 0, .int .u64 0, .int .i64 0], .bool false])) w' := by
  have e : rpRes r = (rpZero, true, []) := by rw [rpRes, h]; rfl
  rw [FRpPost, e, h]
  exact ⟨⟨_, rfl, OwnU.nil _ _⟩, hr.1, hr.2⟩
theorem FRpPost.yes {r : RepN × Bool × List UInt8} {w w' : World} {g : Nat} {F : Nat → Prop} {v : Value} (h : rpGood r = true) (ho : OwnU w w' r.1.fired v) (hr : RfAt w' g F r.2.2 r.2.1 ∧ Touch (fun k => k = g) w w') : FRpPost r w g F (.returned (.tuple #[.agg (r.1.cells v), .bool true])) w' := by
  have e : rpRes r = r := by rw [rpRes, h]; rfl
  rw [FRpPost, e, h]
  exact ⟨⟨_, rfl, ho⟩, hr.1, hr.2⟩

theorem infoU : (Try.prog.info? 22).map (fun i => (i.zero, i.size, i.bytes)) = some (some (.int .u64 0), 1, 8) := by kernel_rfl
theorem own_append_u64 {o : Oper} {a : Act} {K : Act → World → Prop} {Q : Exit → Act → World → Prop} {w w0 : World} (s x : Operand)
    (ho : o.op = .call { callee := .builtin .append, args := #[s, x], argTypes := #[159, 159] })
    (xs : List Nat) (n g c : Nat) (v : Value) (hsv : a.eval s = v) (hx : a.eval x = .slice (some ⟨g, 0, none⟩) 1 c) (h1 : OwnU w0 w xs v) (hb : Blk w g 22 #[U64 n]) (hsm : xs.length + 1 ≤ 1000000)
    (h : ∀ v' w' r, OwnU w0 w' (xs ++ [n]) v' → Touch (fun k => r = some k) w w' → (∀ k, r = some k → w0.heap.size ≤ k) → K (a.put o.dst v') w') (hs0 : w0.heap.size ≤ w.heap.size) : o.wp Try.prog a w K Q := by
  obtain ⟨i0, hi, hz0, hz1, hz2⟩ := info_parts infoU
  obtain ⟨r, ho1, hr⟩ := h1
  refine wp_own_append s x 159 159 ho 22 i0 (.int .u64 0) 1 8 Try.underlying159 hi hz0 hz1 hz2 rfl v r xs.length (xs.map U64) hsv ho1 _ 1 [U64 n] hx
    (Src.lit Try.underlying159 g 1 c 22 #[U64 n] hb rfl (fun u hu => by simp at hu; subst hu; rfl)) (by simp only [maxLen]; omega) (by omega) ?_
  intro v1 r1 w2 ho2 ht2 hr2
  refine h v1 w2 r ⟨r1, by simpa using ho2, fun k e => ?_⟩ ht2 hr
  rcases hr2 with e' | ⟨q, e', hq⟩
  · exact hr k (e'.symm.trans e)
  · rw [e'] at e; injection e with e; omega
def IntS (l : List UInt8) (bad : Bool) (w : World) (g : Nat) (F : Nat → Prop) (e : Ending) (w' : World) : Prop :=
  ∃ v b l', rdI (bad, l) = (v, b, l') ∧ (-9223372036854775808 ≤ v ∧ v ≤ 9223372036854775807) ∧ e = .returned (.int .i64 v) ∧ RdAt w' g F l' b ∧ Touch (fun k => k = g) w w'
theorem rdInt_in (b : Bool) (l : List UInt8) : -9223372036854775808 ≤ rdInt b l ∧ rdInt b l ≤ 9223372036854775807 := by
  have := rdNum_le 9223372036854775807 true b l
  unfold rdInt; split <;> omega
theorem int_st (g : Nat) (F : Nat → Prop) (bad : Bool) (l : List UInt8) (w : World) (h : RdAt w g F l bad) :
    Calls Try.prog 68 #[.pointer (some ⟨g, 0, none⟩)] w (IntS l bad w g F) :=
  (int_any g F bad l w h).mono fun e w' ⟨he, hr, t⟩ => ⟨_, _, _, rfl, rdInt_in _ _, he, hr, t⟩
def FIntS (l : List UInt8) (bad : Bool) (w : World) (g : Nat) (F : Nat → Prop) (e : Ending) (w' : World) : Prop :=
  ∃ v b l', rdI (bad, l) = (v, b, l') ∧ (-9223372036854775808 ≤ v ∧ v ≤ 9223372036854775807) ∧ e = .returned (.int .i64 v) ∧ RfAt w' g F l' b ∧ Touch (fun k => k = g) w w'
theorem fint_st (g : Nat) (F : Nat → Prop) (bad : Bool) (l : List UInt8) (w : World) (h : RfAt w g F l bad) :
    Calls Try.prog 75 #[.pointer (some ⟨g, 0, none⟩)] w (FIntS l bad w g F) :=
  (rf_int g F bad l w h).mono fun e w' ⟨he, hr, t⟩ => ⟨_, _, _, rfl, rdInt_in _ _, he, hr, t⟩
def FlagS (l : List UInt8) (bad : Bool) (w : World) (g : Nat) (F : Nat → Prop) (e : Ending) (w' : World) : Prop :=
  ∃ v b l', rd3 1 (bad, l) = (v, b, l') ∧ v ≤ 1 ∧ e = .returned (.bool (v == 1)) ∧ RdAt w' g F l' b ∧ Touch (fun k => k = g) w w'
def FFlagS (l : List UInt8) (bad : Bool) (w : World) (g : Nat) (F : Nat → Prop) (e : Ending) (w' : World) : Prop :=
  ∃ v b l', rd3 1 (bad, l) = (v, b, l') ∧ v ≤ 1 ∧ e = .returned (.bool (v == 1)) ∧ RfAt w' g F l' b ∧ Touch (fun k => k = g) w w'
/-- What is bad stays so. -/
theorem rdNum_bad (m : Nat) (mk : Bool) (l : List UInt8) : (rdNum m mk true l).bad = true := by
  unfold rdNum
  split
  · rfl
  · split
    · split <;> rfl
    · rfl
theorem rd3_bad {m : Nat} {s : Bool × List UInt8} (h : s.1 = true) : (rd3 m s).2.1 = true := by unfold rd3; rw [h]; exact rdNum_bad _ _ _
theorem rdFired_bad : ∀ k {s : Bool × List UInt8}, s.1 = true → (rdFired k s).2.1 = true
  | 0, _, h => h
  | k + 1, _, h => rd3_bad (rdFired_bad k h)
theorem rdTk_ok (s : Bool × List UInt8) : (rdTk s).1.v.ok := by
  have h := fun s => rd3_le 1125899906842624 s
  simp only [rdTk, TkN.v, TkV.ok]
  refine ⟨by omega, Int.le_trans (Int.ofNat_le.2 (h _)) (by decide), by omega, Int.le_trans (Int.ofNat_le.2 (h _)) (by decide), by omega, Int.le_trans (Int.ofNat_le.2 (h _)) (by decide)⟩
theorem tkRes_ok (s : Bool × List UInt8) : (tkRes (rdTk s)).1.v.ok := by
  unfold tkRes
  split
  · exact rdTk_ok s
  · simp only [tkZero, TkN.v, TkV.ok]; omega
theorem rdFired_step {j : Nat} {s : Bool × List UInt8} {xs : List Nat} {b b' : Bool} {l l' : List UInt8} {v : Nat} (h : rdFired j s = (xs, b, l)) (h2 : rd3 18446744073709551615 (b, l) = (v, b', l')) : rdFired (j + 1) s = (xs ++ [v], b', l') := by
  show ((rdFired j s).1 ++ [(rd3 18446744073709551615 (rdFired j s).2).1], (rd3 18446744073709551615 (rdFired j s).2).2) = _
  rw [h]
  show (xs ++ [(rd3 18446744073709551615 (b, l)).1], (rd3 18446744073709551615 (b, l)).2) = _
  rw [h2]
theorem In.aside {wS w w' : World} {g p : Nat} {T : TypeId} {F : Nat → Prop} {l : List UInt8} {bad : Bool} {cs : Array Value} {S : Nat → Prop} (h : In wS w g p T F l bad cs) (t : Touch S w w') (hS : ∀ k, S k → wS.heap.size ≤ k) (hp : p < wS.heap.size) (hg : g < wS.heap.size) (hF : ∀ k, F k → k < wS.heap.size) : In wS w' g p T F l bad cs :=
  ⟨rdAt_touch h.rd t (fun e => by have := hS _ e; omega) (fun k hk e => by have := hS _ e; have := hF k hk; omega), t.blk h.blk (fun e => by have := hS _ e; omega), h.t.trans t (fun k hk e => by have := hS _ e; omega), h.ne, h.nF⟩
theorem Inf.aside {wS w w' : World} {g p : Nat} {T : TypeId} {F : Nat → Prop} {l : List UInt8} {bad : Bool} {cs : Array Value} {S : Nat → Prop} (h : Inf wS w g p T F l bad cs) (t : Touch S w w') (hS : ∀ k, S k → wS.heap.size ≤ k) (hp : p < wS.heap.size) (hg : g < wS.heap.size) (hF : ∀ k, F k → k < wS.heap.size) : Inf wS w' g p T F l bad cs :=
  ⟨rfAt_touch h.rd t (fun e => by have := hS _ e; omega) (fun k hk e => by have := hS _ e; have := hF k hk; omega), t.blk h.blk (fun e => by have := hS _ e; omega), h.t.trans t (fun k hk e => by have := hS _ e; omega), h.ne, h.nF⟩
theorem tkRes_bad {r : TkN × Bool × List UInt8} (h : (tkRes r).2.1 = false) : tkGood r = true := by
  unfold tkRes at h
  split at h
  · assumption
  · cases h
end Go.Proofs.Ytcblbjhhlnmkjaa
end

section
namespace Go.Proofs.Ytcblbjhhlnmkjaa

theorem be_dg : ∀ f n, n < 256 ^ f → be (dg f n) = n
  | 0, n, h => by simp at h; subst h; rfl
  | f + 1, n, h => by
    unfold dg
    split
    · rename_i h0; subst h0; rfl
    · have hd : n / 256 < 256 ^ f := by rw [Nat.pow_succ] at h; omega
      rw [be_snoc, be_dg f _ hd, UInt8.toNat_ofNat']
      omega
theorem be_dig (n : Nat) (h : n < 256 ^ 8) : be (dig n) = n := be_dg 8 n h
theorem dg_head : ∀ f n, n < 256 ^ f → ∀ c t, dg f n = c :: t → c ≠ 0
  | 0, n, _, c, t, e => by simp [dg] at e
  | f + 1, n, h, c, t, e => by
    unfold dg at e
    split at e
    · cases e
    · rename_i h0
      have hd : n / 256 < 256 ^ f := by rw [Nat.pow_succ] at h; omega
      rcases hq : dg f (n / 256) with _ | ⟨d, q⟩
      · rw [hq] at e
        simp at e
        obtain ⟨rfl, _⟩ := e
        have hb := be_dg f _ hd
        rw [hq] at hb
        have hz : n / 256 = 0 := by simpa [be] using hb.symm
        intro hc
        have := congrArg UInt8.toNat hc
        rw [UInt8.toNat_ofNat'] at this
        simp at this
        omega
      · rw [hq] at e
        simp at e
        obtain ⟨rfl, _⟩ := e
        exact dg_head f _ hd _ _ hq
theorem dig_head (n : Nat) (h : n < 256 ^ 8) {c : UInt8} {t : List UInt8} (e : dig n = c :: t) : c ≠ 0 := dg_head 8 n h c t e

theorem be_pos : ∀ (d : List UInt8) (c : UInt8), c ≠ 0 → 0 < be (c :: d) := by
  intro d c hc
  have key : ∀ (d : List UInt8) (n : Nat), 0 < n → 0 < d.foldl (fun n c => n * 256 + c.toNat) n := by
    intro d
    induction d with
    | nil => intro n hn; exact hn
    | cons x d ih => intro n hn; rw [List.foldl_cons]; exact ih _ (Nat.lt_of_lt_of_le (Nat.mul_pos hn (by decide)) (Nat.le_add_right _ _))
  have h0 : 0 < c.toNat := by
    rcases Nat.eq_zero_or_pos c.toNat with h | h
    · exact absurd (UInt8.toNat_inj.1 (by simpa using h)) hc
    · exact h
  simp only [be, List.foldl_cons]
  exact key d _ (by omega)

theorem dg_be : ∀ (f : Nat) (d : List UInt8), d.length ≤ f → (∀ c t, d = c :: t → c ≠ 0) → dg f (be d) = d
  | 0, d, hl, _ => by
    have : d = [] := List.eq_nil_of_length_eq_zero (by omega)
    subst this; rfl
  | f + 1, d, hl, hh => by
    rcases List.eq_nil_or_concat d with rfl | ⟨q, x, rfl⟩
    · simp [be, dg]
    · rw [List.concat_eq_append] at *
      have hq : dg f (be q) = q := dg_be f q (by simp at hl; omega) (fun c t e => hh c (t ++ [x]) (by rw [e]; rfl))
      have hx := B8_lt x
      rw [be_snoc, dg]
      have hpos : ¬ (be q * 256 + x.toNat = 0) := by
        rcases q with _ | ⟨c, t⟩
        · have : x ≠ 0 := hh x [] rfl
          have h0 : 0 < x.toNat := by
            rcases Nat.eq_zero_or_pos x.toNat with h | h
            · exact absurd (UInt8.toNat_inj.1 (by simpa using h)) this
            · exact h
          omega
        · have := be_pos t c (hh c (t ++ [x]) rfl)
          omega
      rw [if_neg hpos, show (be q * 256 + x.toNat) / 256 = be q by omega, show (be q * 256 + x.toNat) % 256 = x.toNat by omega, hq]
      congr 1
      simp
theorem dig_be (d : List UInt8) (hl : d.length ≤ 8) (hh : ∀ c t, d = c :: t → c ≠ 0) : dig (be d) = d := dg_be 8 d hl hh

/-- What rdOk says. -/
theorem rdOk_spec {m : Bool} {c : UInt8} {t : List UInt8} (h : rdOk m c t = true) : rdHead m c ≤ 8 ∧ rdHead m c ≤ t.length ∧ ∀ d q, t.take (rdHead m c) = d :: q → d ≠ 0 := by
  simp only [rdOk, Bool.and_eq_true, decide_eq_true_eq, Bool.not_eq_true', Bool.and_eq_false_iff] at h
  refine ⟨h.1.1, h.1.2, fun d q e hd => ?_⟩
  rcases h.2 with h2 | h2
  · simp at h2
    rw [h2] at e; simp at e
  · rcases t with _ | ⟨x, t⟩
    · simp at e
    · rcases hz : rdHead m c with _ | k
      · rw [hz] at e; simp at e
      · rw [hz, List.take_succ_cons] at e
        injection e with e1 e2
        subst e1
        simp [hd] at h2

theorem read_written (most : Nat) (l : List UInt8) (h : (rdNum most false false l).bad = false) : encN 0 (rdNum most false false l).val = l.take (l.length - (rdNum most false false l).left.length) := by
  rcases l with _ | ⟨c, t⟩
  · simp [rdNum, rdFail] at h
  unfold rdNum at h ⊢
  simp only at h ⊢
  split at h
  · rename_i hok
    split at h
    · rename_i hm
      simp only [hok, hm, if_true]
      obtain ⟨h8, hl, hh⟩ := rdOk_spec hok
      have hd := dig_be (t.take (rdHead false c)) (by rw [List.length_take]; omega) hh
      rw [encN, hd]
      have hlen : (t.take (rdHead false c)).length = rdHead false c := by rw [List.length_take]; omega
      rw [hlen, List.length_drop, List.length_cons, show t.length + 1 - (t.length - rdHead false c) = rdHead false c + 1 by omega, List.take_succ_cons]
      congr 1
      simp [rdHead]
    · simp [rdFail] at h
  · simp [rdFail] at h

theorem readI_written (l : List UInt8) (h : (rdNum 9223372036854775807 true false l).bad = false) : encI (rdInt false l) = l.take (l.length - (rdNum 9223372036854775807 true false l).left.length) := by
  rcases l with _ | ⟨c, t⟩
  · simp [rdNum, rdFail] at h
  have hc := B8_lt c
  unfold rdInt
  unfold rdNum at h ⊢
  simp only at h ⊢
  split at h
  · rename_i hok
    split at h
    · rename_i hm
      simp only [hok, hm, if_true]
      obtain ⟨h8, hl, hh⟩ := rdOk_spec hok
      have hd := dig_be (t.take (rdHead true c)) (by rw [List.length_take]; omega) hh
      have hlen : (t.take (rdHead true c)).length = rdHead true c := by rw [List.length_take]; omega
      rw [List.length_drop, List.length_cons, show t.length + 1 - (t.length - rdHead true c) = rdHead true c + 1 by omega, List.take_succ_cons]
      by_cases hmk : 128 ≤ c.toNat
      · have e1 : rdMark true c = true := by simp [rdMark, hmk]
        rw [e1]
        simp only [if_true]
        rw [encI, if_pos (by omega), show (-1 - (-1 - (be (t.take (rdHead true c)) : Int))).toNat = be (t.take (rdHead true c)) by omega, encN, hd, hlen]
        congr 1
        apply UInt8.toNat_inj.1
        rw [UInt8.toNat_ofNat']
        simp only [rdHead, if_true]
        omega
      · have e1 : rdMark true c = false := by simp [rdMark, hmk]
        rw [e1]
        simp only [Bool.false_eq_true, if_false]
        rw [encI, if_neg (by omega), Int.toNat_natCast, encN, hd, hlen]
        congr 1
        apply UInt8.toNat_inj.1
        rw [UInt8.toNat_ofNat']
        simp only [rdHead, if_true]
        omega
    · simp [rdFail] at h
  · simp [rdFail] at h

theorem rdOk_enc (m : Bool) (mark n : Nat) (rest : List UInt8) (hn : n < 256 ^ 8) (hm : m = true ∧ mark = 128 ∨ mark = 0) :
    rdOk m (UInt8.ofNat (mark + (dig n).length)) (dig n ++ rest) = true ∧ rdHead m (UInt8.ofNat (mark + (dig n).length)) = (dig n).length := by
  have hl := dig_le n
  have hh : rdHead m (UInt8.ofNat (mark + (dig n).length)) = (dig n).length := by
    unfold rdHead
    rw [UInt8.toNat_ofNat']
    rcases hm with ⟨rfl, rfl⟩ | rfl
    · simp; omega
    · split <;> omega
  refine ⟨?_, hh⟩
  unfold rdOk
  rw [hh]
  simp only [Bool.and_eq_true, decide_eq_true_eq, Bool.not_eq_true', Bool.and_eq_false_iff]
  refine ⟨⟨hl, by simp⟩, ?_⟩
  rcases hd : dig n with _ | ⟨c, t⟩
  · left; simp
  · right
    have := dig_head n hn hd
    simp [this]
/-- What was written is read as it was. -/
theorem written_read (most n : Nat) (bad : Bool) (rest : List UInt8) (hn : n < 256 ^ 8) (hm : n ≤ most) : rdNum most false bad (encN 0 n ++ rest) = ⟨n, false, rest, bad⟩ := by
  obtain ⟨h1, h2⟩ := rdOk_enc false 0 n rest hn (.inr rfl)
  rw [encN, List.cons_append]
  unfold rdNum
  simp only
  rw [if_pos h1, h2, List.take_left, List.drop_left, be_dig n hn, if_pos hm]
  simp [rdMark]
theorem written_readI (i : Int) (bad : Bool) (rest : List UInt8) (h1 : -9223372036854775808 ≤ i) (h2 : i ≤ 9223372036854775807) :
    rdInt bad (encI i ++ rest) = i ∧ (rdNum 9223372036854775807 true bad (encI i ++ rest)).left = rest ∧ (rdNum 9223372036854775807 true bad (encI i ++ rest)).bad = bad := by
  by_cases hneg : i < 0
  · have hn : (-1 - i).toNat < 256 ^ 8 := by omega
    have hle := dig_le (-1 - i).toNat
    obtain ⟨k1, k2⟩ := rdOk_enc true 128 (-1 - i).toNat rest hn (.inl ⟨rfl, rfl⟩)
    have hX : rdNum 9223372036854775807 true bad (encI i ++ rest) = ⟨(-1 - i).toNat, true, rest, bad⟩ := by
      rw [encI, if_pos hneg, encN, List.cons_append]
      unfold rdNum
      simp only
      rw [if_pos k1, k2, List.take_left, List.drop_left, be_dig _ hn, if_pos (by omega)]
      congr 1
      unfold rdMark
      rw [UInt8.toNat_ofNat']
      simp; omega
    unfold rdInt
    rw [hX]
    simp; omega
  · have hn : i.toNat < 256 ^ 8 := by omega
    have hle := dig_le i.toNat
    obtain ⟨k1, k2⟩ := rdOk_enc true 0 i.toNat rest hn (.inr rfl)
    have hX : rdNum 9223372036854775807 true bad (encI i ++ rest) = ⟨i.toNat, false, rest, bad⟩ := by
      rw [encI, if_neg hneg, encN, List.cons_append]
      unfold rdNum
      simp only
      rw [if_pos k1, k2, List.take_left, List.drop_left, be_dig _ hn, if_pos (by omega)]
      congr 1
      unfold rdMark
      rw [UInt8.toNat_ofNat']
      simp; omega
    unfold rdInt
    rw [hX]
    simp; omega
theorem written_readT (s : ByteArray) (most : Int) (bad : Bool) (rest : List UInt8) (hs : s.size < 256 ^ 8) (h0 : 0 ≤ most) (hm : (s.size : Int) ≤ most) : rdText most bad (encT s ++ rest) = ⟨s.data.toList, rest, bad⟩ := by
  have hl : s.data.toList.length = s.size := Array.length_toList
  have hX := written_read most.toNat s.size bad (s.data.toList ++ rest) hs (by omega)
  unfold rdText
  rw [if_neg (by omega), encT, List.append_assoc, hX]
  simp only
  rw [if_neg (by rw [List.length_append]; omega), ← hl, List.take_left, List.drop_left]
end Go.Proofs.Ytcblbjhhlnmkjaa
end

section
namespace Go.Proofs.Ytcblbjhhlnmkjaa
set_option maxHeartbeats 1000000
set_option linter.unusedVariables false

theorem rdNum_suffix (m : Nat) (mk b : Bool) (l : List UInt8) (h : (rdNum m mk b l).bad = false) : ∃ p, l = p ++ (rdNum m mk b l).left ∧ (rdNum m mk b l).left.length ≤ l.length := by
  rcases l with _ | ⟨c, t⟩
  · simp [rdNum, rdFail] at h
  unfold rdNum at h ⊢
  simp only at h ⊢
  split
  · split
    · exact ⟨c :: t.take (rdHead mk c), by simp, by simp; omega⟩
    · rename_i h1 h2; rw [if_pos h1, if_neg h2] at h; cases h
  · rename_i h1; rw [if_neg h1] at h; cases h
theorem split_of {l p q e : List UInt8} (h : l = p ++ q) (he : e = l.take (l.length - q.length)) : l = e ++ q := by
  subst h
  rw [he]; simp
theorem rd3_ok {m : Nat} {s : Bool × List UInt8} {v : Nat} {l : List UInt8} (h : rd3 m s = (v, false, l)) : s.1 = false := by
  cases hs : s.1
  · rfl
  · have := rd3_bad (m := m) hs; rw [h] at this; cases this
theorem rd3_split {m : Nat} {l l' : List UInt8} {v : Nat} (h : rd3 m (false, l) = (v, false, l')) : l = encN 0 v ++ l' := by
  simp only [rd3, Prod.mk.injEq] at h
  obtain ⟨h1, h2, h3⟩ := h
  obtain ⟨p, hp, _⟩ := rdNum_suffix m false false l h2
  have := read_written m l h2
  rw [← h1, ← h3]
  exact split_of hp this
theorem rdI_ok {s : Bool × List UInt8} {v : Int} {l : List UInt8} (h : rdI s = (v, false, l)) : s.1 = false := by
  cases hs : s.1
  · rfl
  · simp only [rdI, hs, rdNum_bad, Prod.mk.injEq] at h
    exact absurd h.2.1 (by simp)
theorem rdI_split {l l' : List UInt8} {v : Int} (h : rdI (false, l) = (v, false, l')) : l = encI v ++ l' := by
  simp only [rdI, Prod.mk.injEq] at h
  obtain ⟨h1, h2, h3⟩ := h
  obtain ⟨p, hp, _⟩ := rdNum_suffix _ true false l h2
  have := readI_written l h2
  rw [← h1, ← h3]
  exact split_of hp this
theorem rd3_write (m n : Nat) (b : Bool) (rest : List UInt8) (h : n < 256 ^ 8) (hm : n ≤ m) : rd3 m (b, encN 0 n ++ rest) = (n, b, rest) := by
  simp only [rd3, written_read m n b rest h hm]
theorem rdI_write (i : Int) (b : Bool) (rest : List UInt8) (h1 : -9223372036854775808 ≤ i) (h2 : i ≤ 9223372036854775807) : rdI (b, encI i ++ rest) = (i, b, rest) := by
  obtain ⟨a1, a2, a3⟩ := written_readI i b rest h1 h2
  simp only [rdI, a1, a2, a3]

theorem rd3_pair (m : Nat) (s : Bool × List UInt8) : ∃ v b l, rd3 m s = (v, b, l) := ⟨_, _, _, rfl⟩
theorem rdTk_split {l l' : List UInt8} {t : TkN} (h : rdTk (false, l) = (t, false, l')) : l = encs t.nums ++ l' := by
  simp only [rdTk] at h
  obtain ⟨v1, b1, l1, h1⟩ := rd3_pair 18446744073709551615 (false, l)
  rw [h1] at h; simp only at h
  obtain ⟨v2, b2, l2, h2⟩ := rd3_pair 15 (b1, l1)
  rw [h2] at h; simp only at h
  obtain ⟨v3, b3, l3, h3⟩ := rd3_pair 4 (b2, l2)
  rw [h3] at h; simp only at h
  obtain ⟨v4, b4, l4, h4⟩ := rd3_pair 5 (b3, l3)
  rw [h4] at h; simp only at h
  obtain ⟨v5, b5, l5, h5⟩ := rd3_pair 1152921504606846976 (b4, l4)
  rw [h5] at h; simp only at h
  obtain ⟨v6, b6, l6, h6⟩ := rd3_pair 1125899906842624 (b5, l5)
  rw [h6] at h; simp only at h
  obtain ⟨v7, b7, l7, h7⟩ := rd3_pair 1125899906842624 (b6, l6)
  rw [h7] at h; simp only at h
  obtain ⟨v8, b8, l8, h8⟩ := rd3_pair 1125899906842624 (b7, l7)
  rw [h8] at h; simp only at h
  obtain ⟨v9, b9, l9, h9⟩ := rd3_pair 2147483648 (b8, l8)
  rw [h9] at h
  simp only [Prod.mk.injEq] at h
  obtain ⟨ht, hb, hl⟩ := h
  subst ht hb hl
  obtain rfl : b8 = false := rd3_ok h9
  obtain rfl : b7 = false := rd3_ok h8
  obtain rfl : b6 = false := rd3_ok h7
  obtain rfl : b5 = false := rd3_ok h6
  obtain rfl : b4 = false := rd3_ok h5
  obtain rfl : b3 = false := rd3_ok h4
  obtain rfl : b2 = false := rd3_ok h3
  obtain rfl : b1 = false := rd3_ok h2
  rw [rd3_split h1, rd3_split h2, rd3_split h3, rd3_split h4, rd3_split h5, rd3_split h6, rd3_split h7, rd3_split h8, rd3_split h9]
  simp [TkN.nums, encs]
theorem rdTk_write (t : TkN) (b : Bool) (rest : List UInt8) (ht : t.ok) (hb : t.bd) : rdTk (b, encs t.nums ++ rest) = (t, b, rest) := by
  obtain ⟨id, c, s, lv, g, f, le, d, to_⟩ := t
  obtain ⟨b1, b2, b3, b4, b5, b6, b7, b8⟩ := hb
  have hid : id < 18446744073709551616 := ht id (by simp [TkN.nums])
  simp only at b1 b2 b3 b4 b5 b6 b7 b8
  simp only [TkN.nums, encs, List.flatMap_cons, List.flatMap_nil, List.append_assoc, List.append_nil, List.nil_append]
  simp only [rdTk]
  rw [rd3_write _ id b _ (by omega) (by omega)]; simp only
  rw [rd3_write _ c b _ (by omega) (by omega)]; simp only
  rw [rd3_write _ s b _ (by omega) (by omega)]; simp only
  rw [rd3_write _ lv b _ (by omega) (by omega)]; simp only
  rw [rd3_write _ g b _ (by omega) (by omega)]; simp only
  rw [rd3_write _ f b _ (by omega) (by omega)]; simp only
  rw [rd3_write _ le b _ (by omega) (by omega)]; simp only
  rw [rd3_write _ d b _ (by omega) (by omega)]; simp only
  rw [rd3_write _ to_ b _ (by omega) (by omega)]
theorem rdFired_ok {k : Nat} {s : Bool × List UInt8} {xs : List Nat} {l : List UInt8} (h : rdFired k s = (xs, false, l)) : s.1 = false := by
  cases hs : s.1
  · rfl
  · have := rdFired_bad k hs; rw [h] at this; cases this
theorem rdFired_split : ∀ (k : Nat) {l l' : List UInt8} {xs : List Nat}, rdFired k (false, l) = (xs, false, l') → l = encs xs ++ l'
  | 0, l, l', xs, h => by
    simp only [rdFired, Prod.mk.injEq] at h
    obtain ⟨rfl, -, rfl⟩ := h
    rfl
  | k + 1, l, l', xs, h => by
    obtain ⟨ys, b, m, hk⟩ : ∃ ys b m, rdFired k (false, l) = (ys, b, m) := ⟨_, _, _, rfl⟩
    obtain ⟨v, b2, m2, h2⟩ := rd3_pair 18446744073709551615 (b, m)
    rw [rdFired_step hk h2] at h
    simp only [Prod.mk.injEq] at h
    obtain ⟨rfl, rfl, rfl⟩ := h
    obtain rfl : b = false := rd3_ok h2
    rw [rdFired_split k hk, rd3_split h2]
    simp [encs]
theorem rdFired_upto (xs : List Nat) (b : Bool) (rest : List UInt8) (h : ∀ n ∈ xs, n < 256 ^ 8) : ∀ k, k ≤ xs.length → rdFired k (b, encs xs ++ rest) = (xs.take k, b, encs (xs.drop k) ++ rest)
  | 0, _ => by simp [rdFired]
  | k + 1, hk => by
    have h1 := rdFired_upto xs b rest h k (by omega)
    have hx := h xs[k] (List.getElem_mem (by omega))
    rw [List.drop_eq_getElem_cons (by omega : k < xs.length)] at h1
    have h1 : rdFired k (b, encs xs ++ rest) = (xs.take k, b, encN 0 xs[k] ++ (encs (xs.drop (k + 1)) ++ rest)) := by
      rw [h1]
      show (_, _, (encN 0 xs[k] ++ encs (xs.drop (k + 1))) ++ rest) = _
      rw [List.append_assoc]
    rw [rdFired_step h1 (rd3_write 18446744073709551615 xs[k] b _ hx (by omega)), List.take_succ_eq_append_getElem (by omega)]
theorem rdFired_write (xs : List Nat) (b : Bool) (rest : List UInt8) (h : ∀ n ∈ xs, n < 256 ^ 8) : rdFired xs.length (b, encs xs ++ rest) = (xs, b, rest) := by
  rw [rdFired_upto xs b rest h _ (Nat.le_refl _)]
  simp [encs]
theorem tkNone_v (t : TkN) : tkNone t.v = true ↔ t = tkZero := by
  obtain ⟨id, c, s, lv, g, f, le, d, to_⟩ := t
  simp only [tkNone, TkN.v, tkZero, decide_eq_true_eq, TkN.mk.injEq]
  constructor
  · intro h; have h := of_decide_eq_true h; omega
  · intro h; apply decide_eq_true; omega
theorem tkSound_none {t : TkN} (h : tkSound t.v = true) : tkNone t.v = false := by
  cases hn : tkNone t.v
  · rfl
  · rw [tkNone_v] at hn; subst hn; exact absurd h (by decide)
/-- What a sound reply's numbers are. -/
structure RepN.Ok (r : RepN) (tm : Nat) : Prop where
  time : r.time = (tm : Int)
  t1 : tm ≤ 1125899906842624
  code : r.code ≤ 99
  tk : tkNone r.t.v = true ∨ tkSound r.t.v = true
  ok : r.t.ok
  bd : r.t.bd
  fl : r.fired.length ≤ 64
  fs : ∀ n ∈ r.fired, n < 256 ^ 8
  no : r.notice < 18446744073709551616
  de : r.dead ≤ 128
def RepN.bytes (r : RepN) : List UInt8 := encR r.code r.time.toNat r.t r.fired r.notice r.dead
theorem rpSound_of {r : RepN} {tm : Nat} (h : r.Ok tm) : rpSound r.code r.time r.t.v r.fired.length r.dead = true := by
  rw [rpSound, Bool.and_eq_true, Bool.or_eq_true, decide_eq_true_eq]
  have h1 := h.code; have h2 := h.t1; have h3 := h.fl; have h4 := h.de
  refine ⟨?_, h.tk⟩
  rw [h.time]; omega
theorem TkN.ok_of {t : TkN} (h : tkSound t.v = true) (hid : t.id < 18446744073709551616) : t.ok ∧ t.bd := by
  obtain ⟨n, hn, h1, h2⟩ := tkSound_N h
  have e : t = n := by
    obtain ⟨id, c, s, lv, g, f, le, d, to_⟩ := t
    obtain ⟨id', c', s', lv', g', f', le', d', to'⟩ := n
    simp only [TkN.v, TkV.mk.injEq] at hn
    simp only [TkN.mk.injEq]
    omega
  subst e
  exact ⟨h1 hid, h2⟩
theorem zero_ok : tkZero.ok ∧ tkZero.bd := by
  refine ⟨fun n hn => ?_, ?_⟩
  · simp [TkN.nums, tkZero] at hn; omega
  · simp [TkN.bd, tkZero]
theorem of_rpSound {r : RepN} (h : rpSound r.code r.time r.t.v r.fired.length r.dead = true) (hid : r.t.id < 18446744073709551616) (hn : r.notice < 18446744073709551616) (hf : ∀ n ∈ r.fired, n < 256 ^ 8) : r.Ok r.time.toNat := by
  rw [rpSound, Bool.and_eq_true, Bool.or_eq_true, decide_eq_true_eq] at h
  obtain ⟨⟨h1, h2, h3, h4, h5, h6, h7⟩, ht⟩ := h
  have hk : r.t.ok ∧ r.t.bd := by
    rcases ht with ht | ht
    · rw [(tkNone_v _).1 ht]; exact zero_ok
    · exact TkN.ok_of ht hid
  exact ⟨by omega, by omega, by omega, ht, hk.1, hk.2, h5, hf, hn, by omega⟩

theorem rdTk1_zero (b : Bool) (l : List UInt8) : rdTk1 (0, b, l) = (tkZero, b, l) := rfl
theorem rdRep_write {r : RepN} {tm : Nat} (h : r.Ok tm) (rest : List UInt8) : rdRep (false, r.bytes ++ rest) = (r, false, rest) := by
  obtain ⟨code, time, t, fired, notice, dead⟩ := r
  obtain ⟨h1, h2, h3, h4, h5, h6, h7, h8, h9, h10⟩ := h
  simp only at h1 h2 h3 h4 h5 h6 h7 h8 h9 h10
  subst h1
  simp only [RepN.bytes, encR, Int.toNat_natCast]
  simp only [rdRep]
  rw [show encs [code] ++ encIs [(tm : Int)] ++ encFs [!tkNone t.v] ++ encTk t ++ encs [fired.length] ++ encs fired ++ encs [notice, dead] ++ rest = encN 0 code ++ (encI tm ++ (encF (!tkNone t.v) ++ (encTk t ++ (encN 0 fired.length ++ (encs fired ++ (encN 0 notice ++ (encN 0 dead ++ rest))))))) by simp [encs, encIs, encFs]]
  rw [rd3_write 99 code false _ (by omega) (by omega)]; simp only
  rw [rdI_write tm false _ (by omega) (by omega)]; simp only
  have key : ∀ l, rdTk1 (rd3 1 (false, encF (!tkNone t.v) ++ (encTk t ++ l))) = (t, false, l) := by
    intro l
    cases hn : tkNone t.v
    · have hs : tkSound t.v = true := by rcases h4 with h4 | h4; rw [h4] at hn; cases hn; exact h4
      rw [show encF (!false) = encN 0 1 from rfl, rd3_write 1 1 false _ (by omega) (by omega), show encTk t = encs t.nums by rw [encTk, hn]; rfl]
      rw [rdTk1, if_pos rfl, rdTk_write t false _ h5 h6, tkRes, if_pos]
      rw [tkGood, hs]; rfl
    · rw [show encF (!true) = encN 0 0 from rfl, rd3_write 1 0 false _ (by omega) (by omega), show encTk t = [] by rw [encTk, hn]; rfl, rdTk1_zero, (tkNone_v _).1 hn]
      rfl
  rw [key]; simp only
  rw [rd3_write 64 fired.length false _ (by omega) (by omega)]; simp only
  rw [rdFired_write fired false _ h8]; simp only
  rw [rd3_write _ notice false _ (by omega) (by omega)]; simp only
  rw [rd3_write _ dead false _ (by omega) (by omega)]
theorem rpGood_of {r : RepN} {tm : Nat} (h : r.Ok tm) (l : List UInt8) : rpGood (r, false, l) = true := by
  rw [rpGood, rpSound_of h]; rfl
theorem tkRes_ok2 {s : Bool × List UInt8} {t : TkN} {l : List UInt8} (h : tkRes (rdTk s) = (t, false, l)) : rdTk s = (t, false, l) ∧ tkSound t.v = true := by
  have hg : tkGood (rdTk s) = true := tkRes_bad (by rw [h])
  rw [tkRes, if_pos hg] at h
  rw [h] at hg
  rw [tkGood, Bool.and_eq_true] at hg
  exact ⟨h, hg.2⟩
theorem rdTk1_split {l l' : List UInt8} {t : TkN} {f : Nat × Bool × List UInt8} (hf : f = rd3 1 (false, l)) (h : rdTk1 f = (t, false, l')) : l = encF (!tkNone t.v) ++ encTk t ++ l' := by
  obtain ⟨v, b, m, h1⟩ := rd3_pair 1 (false, l)
  rw [h1] at hf
  subst hf
  have hv := rd3_le 1 (false, l)
  rw [h1] at hv
  simp only at hv
  rw [rdTk1] at h
  split at h
  · rename_i hv1
    simp only at hv1 h
    obtain ⟨h2, hs⟩ := tkRes_ok2 h
    have hb : b = false := by
      cases b
      · rfl
      · exfalso
        have : (rdTk (true, m)).2.1 = true := by simp only [rdTk]; exact rd3_bad (rd3_bad (rd3_bad (rd3_bad (rd3_bad (rd3_bad (rd3_bad (rd3_bad (rd3_bad rfl))))))))
        rw [h2] at this; cases this
    subst hb hv1
    rw [rd3_split h1, rdTk_split h2, encTk, tkSound_none hs]
    simp [encF]
  · rename_i hv1
    simp only [Prod.mk.injEq] at h
    obtain ⟨rfl, rfl, rfl⟩ := h
    have : v = 0 := by simp only at hv1; omega
    subst this
    rw [rd3_split h1]
    rfl
theorem rdTk1_false {f : Nat × Bool × List UInt8} {t : TkN} {l : List UInt8} (h : rdTk1 f = (t, false, l)) : f.2.1 = false := by
  rw [rdTk1] at h
  split at h
  · obtain ⟨h2, hs⟩ := tkRes_ok2 h
    cases hb : f.2.1
    · rfl
    · exfalso
      have : (rdTk f.2).2.1 = true := by simp only [rdTk]; exact rd3_bad (rd3_bad (rd3_bad (rd3_bad (rd3_bad (rd3_bad (rd3_bad (rd3_bad (rd3_bad hb))))))))
      rw [h2] at this; cases this
  · simp only [Prod.mk.injEq] at h
    rw [h.2]
theorem rdRep_split {l l' : List UInt8} {r : RepN} (h : rdRep (false, l) = (r, false, l')) (h0 : 0 ≤ r.time) : l = r.bytes ++ l' := by
  simp only [rdRep] at h
  obtain ⟨v1, b1, l1, h1⟩ := rd3_pair 99 (false, l)
  rw [h1] at h; simp only at h
  obtain ⟨v2, b2, l2, h2⟩ : ∃ v b m, rdI (b1, l1) = (v, b, m) := ⟨_, _, _, rfl⟩
  rw [h2] at h; simp only at h
  obtain ⟨f, hf⟩ : ∃ f, f = rd3 1 (b2, l2) := ⟨_, rfl⟩
  rw [← hf] at h
  obtain ⟨t, b3, l3, h3⟩ : ∃ t b m, rdTk1 f = (t, b, m) := ⟨_, _, _, rfl⟩
  rw [h3] at h; simp only at h
  obtain ⟨v4, b4, l4, h4⟩ := rd3_pair 64 (b3, l3)
  rw [h4] at h; simp only at h
  obtain ⟨xs, b5, l5, h5⟩ : ∃ xs b m, rdFired v4 (b4, l4) = (xs, b, m) := ⟨_, _, _, rfl⟩
  rw [h5] at h; simp only at h
  obtain ⟨v6, b6, l6, h6⟩ := rd3_pair 18446744073709551615 (b5, l5)
  rw [h6] at h; simp only at h
  obtain ⟨v7, b7, l7, h7⟩ := rd3_pair 128 (b6, l6)
  rw [h7] at h
  simp only [Prod.mk.injEq] at h
  obtain ⟨hr, hb, hl⟩ := h
  subst hr hb hl
  obtain rfl : b6 = false := rd3_ok h7
  obtain rfl : b5 = false := rd3_ok h6
  obtain rfl : b4 = false := rdFired_ok h5
  obtain rfl : b3 = false := rd3_ok h4
  have hb2 := rdTk1_false h3
  obtain rfl : b2 = false := by rw [hf] at hb2; cases b2; rfl; have := rd3_bad (m := 1) (s := (true, l2)) rfl; rw [hb2] at this; cases this
  obtain rfl : b1 = false := rdI_ok h2
  have hx := rdFired_len v4 (false, l4)
  rw [h5] at hx
  simp only at hx h0
  obtain ⟨tm, rfl⟩ := Int.eq_ofNat_of_zero_le h0
  rw [rd3_split h1, rdI_split h2, rdTk1_split hf h3, rd3_split h4, rdFired_split _ h5, rd3_split h6, rd3_split h7]
  simp [RepN.bytes, encR, encs, encIs, encFs, hx]
/-- What a good reading gives. -/
theorem rdRep_ids (s : Bool × List UInt8) : (rdRep s).1.t.id < 18446744073709551616 ∧ (rdRep s).1.notice < 18446744073709551616 ∧ ∀ n ∈ (rdRep s).1.fired, n < 256 ^ 8 := by
  simp only [rdRep]
  refine ⟨?_, by have := fun s => rd3_le 18446744073709551615 s; exact Nat.lt_succ_of_le (this _), rdFired_le _ _⟩
  unfold rdTk1
  split
  · unfold tkRes
    split
    · simp only [rdTk]; exact Nat.lt_succ_of_le (rd3_le 18446744073709551615 _)
    · exact (by decide : (0 : Nat) < 18446744073709551616)
  · exact (by decide : (0 : Nat) < 18446744073709551616)
theorem rpGood_ok {s : Bool × List UInt8} (h : rpGood (rdRep s) = true) : (rdRep s).2.1 = false ∧ (rdRep s).1.Ok (rdRep s).1.time.toNat := by
  rw [rpGood, Bool.and_eq_true] at h
  obtain ⟨h1, h2, h3⟩ := rdRep_ids s
  exact ⟨by simpa using h.1, of_rpSound h.2 h1 h2 h3⟩
end Go.Proofs.Ytcblbjhhlnmkjaa
end
