/- Whether a ticket is sound, the program's and the reference's. Whether a ticket is sound, the program's. Whether a reply has a ticket; whether it is sound. Whether a reply is sound, the reference's: the comparison with no ticket. What Writer's calls do on literal lists; what ticket.Put and reply.Put write. What reply.Put writes. What ref16.Put and ref19.Put write: the same bytes. What ref19.Put writes: the same bytes. A reader's calls, told by what was read; a struct under way, read field by field. What ref16.Read and ticket.Read do. -/
import Derived.Test.YtlcefchbfjfifaaVQuillY
import Derived.Test.YtlcefchbfjfifaaVWrA
import Derived.Test.YtlcefchbfjfifaaVPlan
import Derived.Test.YtlcefchbfjfifaaVCcD
import Derived.Test.YtlcefchbfjfifaaVOwn
section
namespace Go.Proofs.Ytlcefchbfjfifaa
open Go.RowKit
set_option maxHeartbeats 4000000
set_option maxRecDepth 100000
set_option linter.unusedVariables false

structure TkV where
  id : Nat
  contract : Int
  state : Int
  level : Int
  gen : Nat
  from_ : Int
  left : Int
  due : Int
  told : Int
def TkV.cells (t : TkV) : List Value := [.int .u64 t.id, .int .i64 t.contract, .int .i64 t.state, .int .i64 t.level, .int .u64 t.gen, .int .i64 t.from_, .int .i64 t.left, .int .i64 t.due, .int .i64 t.told]
def TkV.ok (t : TkV) : Prop := -9223372036854775808 ≤ t.from_ ∧ t.from_ ≤ 9223372036854775807 ∧ -9223372036854775808 ≤ t.left ∧ t.left ≤ 9223372036854775807 ∧ -9223372036854775808 ≤ t.due ∧ t.due ≤ 9223372036854775807
def tkHead (t : TkV) : Prop := 0 ≤ t.contract ∧ t.contract < 16 ∧ 0 ≤ t.level ∧ t.level < 6 ∧ 0 ≤ t.told ∧ t.told ≤ 2147483648 ∧ t.gen ≤ 1152921504606846976
def tkRuns (t : TkV) : Prop := t.gen ≠ 0 ∧ 1 ≤ t.left ∧ 0 ≤ t.from_ ∧ t.due ≤ 1125899906842624 ∧ t.from_ ≤ t.due ∧ t.left ≤ t.due - t.from_
def tkStands (t : TkV) : Prop := t.gen = 0 ∧ t.due = 0 ∧ 1 ≤ t.left ∧ t.left ≤ 1125899906842624 ∧ 0 ≤ t.from_ ∧ t.from_ ≤ 1125899906842624
def tkDone (t : TkV) : Prop := t.gen = 0 ∧ t.from_ = 0 ∧ t.left = 0 ∧ t.due = 0
instance (t : TkV) : Decidable (tkHead t) := inferInstanceAs (Decidable (_ ∧ _))
instance (t : TkV) : Decidable (tkRuns t) := inferInstanceAs (Decidable (_ ∧ _))
instance (t : TkV) : Decidable (tkStands t) := inferInstanceAs (Decidable (_ ∧ _))
instance (t : TkV) : Decidable (tkDone t) := inferInstanceAs (Decidable (_ ∧ _))
def tkSound (t : TkV) : Bool := decide (tkHead t) && (if t.state = 1 then decide (tkRuns t) else if t.state = 2 then decide (tkStands t) else decide (t.state = 3 ∨ t.state = 4) && decide (tkDone t))

end Go.Proofs.Ytlcefchbfjfifaa
end

section
namespace Go.Proofs.Ytlcefchbfjfifaa
open Go.RowKit
set_option maxHeartbeats 4000000
set_option maxRecDepth 100000
set_option linter.unusedVariables false

end Go.Proofs.Ytlcefchbfjfifaa
end

section
namespace Go.Proofs.Ytlcefchbfjfifaa
open Go.RowKit
set_option maxHeartbeats 4000000
set_option maxRecDepth 100000
set_option linter.unusedVariables false

def tkNone (t : TkV) : Bool := decide (t.id = 0 ∧ t.contract = 0 ∧ t.state = 0 ∧ t.level = 0 ∧ t.gen = 0 ∧ t.from_ = 0 ∧ t.left = 0 ∧ t.due = 0 ∧ t.told = 0)
def rpSound (code time : Int) (t : TkV) (n : Nat) (dead : Int) : Bool := decide (0 ≤ code ∧ code ≤ 99 ∧ 0 ≤ time ∧ time ≤ 1125899906842624 ∧ n ≤ 64 ∧ 0 ≤ dead ∧ dead ≤ 128) && (tkNone t || tkSound t)
end Go.Proofs.Ytlcefchbfjfifaa
end

section
namespace Go.Proofs.Ytlcefchbfjfifaa
open Go.RowKit
set_option maxHeartbeats 4000000
set_option maxRecDepth 100000
set_option linter.unusedVariables false

theorem eq_tk (id : Nat) (con st lev : Int) (gen : Nat) (fr le du to_ : Int) (w : World) :
    (binOp .eql 42 (.agg #[.int .u64 id, .int .i64 con, .int .i64 st, .int .i64 lev, .int .u64 gen, .int .i64 fr, .int .i64 le, .int .i64 du, .int .i64 to_]) (.agg #[.int .u64 0, .int .i64 0, .int .i64 0, .int .i64 0, .int .u64 0, .int .i64 0, .int .i64 0, .int .i64 0, .int .i64 0])).run Try.prog w =
      .ok (.bool (tkNone ⟨id, con, st, lev, gen, fr, le, du, to_⟩)) w := by
  simp [go_sem]
  simp only [tkNone]
  repeat' split
  all_goals simp_all
end Go.Proofs.Ytlcefchbfjfifaa
end

section
namespace Go.Proofs.Ytlcefchbfjfifaa
open Go.RowKit
set_option maxHeartbeats 4000000
set_option maxRecDepth 100000
set_option linter.unusedVariables false

/-- A ticket's numbers, all natural. -/
structure TkN where
  id : Nat
  contract : Nat
  state : Nat
  level : Nat
  gen : Nat
  from_ : Nat
  left : Nat
  due : Nat
  told : Nat
def TkN.v (t : TkN) : TkV := ⟨t.id, t.contract, t.state, t.level, t.gen, t.from_, t.left, t.due, t.told⟩
def TkN.nums (t : TkN) : List Nat := [t.id, t.contract, t.state, t.level, t.gen, t.from_, t.left, t.due, t.told]
def TkN.ok (t : TkN) : Prop := ∀ n ∈ t.nums, n < 18446744073709551616
theorem tkSound_N {t : TkV} (h : tkSound t = true) : ∃ n : TkN, t = n.v ∧ (t.id < 18446744073709551616 → n.ok) ∧ n.contract < 16 ∧ n.state ≤ 4 ∧ n.level < 6 ∧ n.gen ≤ 1152921504606846976 ∧ n.from_ ≤ 1125899906842624 ∧ n.left ≤ 1125899906842624 ∧ n.due ≤ 1125899906842624 ∧ n.told ≤ 2147483648 := by
  obtain ⟨id, con, st, lev, gen, fr, le, du, to_⟩ := t
  have h1 : (0 ≤ con ∧ con < 16 ∧ 0 ≤ lev ∧ lev < 6 ∧ 0 ≤ to_ ∧ to_ ≤ 2147483648 ∧ gen ≤ 1152921504606846976) ∧ (0 ≤ st ∧ st ≤ 4 ∧ 0 ≤ fr ∧ fr ≤ 1125899906842624 ∧ 0 ≤ le ∧ le ≤ 1125899906842624 ∧ 0 ≤ du ∧ du ≤ 1125899906842624) := by
    rw [tkSound, Bool.and_eq_true] at h
    obtain ⟨h1, h2⟩ := h
    have h1 : 0 ≤ con ∧ con < 16 ∧ 0 ≤ lev ∧ lev < 6 ∧ 0 ≤ to_ ∧ to_ ≤ 2147483648 ∧ gen ≤ 1152921504606846976 := of_decide_eq_true h1
    refine ⟨h1, ?_⟩
    simp only at h2
    split at h2
    · have h2 : gen ≠ 0 ∧ 1 ≤ le ∧ 0 ≤ fr ∧ du ≤ 1125899906842624 ∧ fr ≤ du ∧ le ≤ du - fr := of_decide_eq_true h2
      omega
    · split at h2
      · have h2 : gen = 0 ∧ du = 0 ∧ 1 ≤ le ∧ le ≤ 1125899906842624 ∧ 0 ≤ fr ∧ fr ≤ 1125899906842624 := of_decide_eq_true h2
        omega
      · rw [Bool.and_eq_true, decide_eq_true_eq] at h2
        obtain ⟨h3, h2⟩ := h2
        have h2 : gen = 0 ∧ fr = 0 ∧ le = 0 ∧ du = 0 := of_decide_eq_true h2
        omega
  obtain ⟨⟨a1, a2, a3, a4, a5, a6, a7⟩, b1, b2, b3, b4, b5, b6, b7, b8⟩ := h1
  refine ⟨⟨id, con.toNat, st.toNat, lev.toNat, gen, fr.toNat, le.toNat, du.toNat, to_.toNat⟩, ?_, ?_, ?_⟩
  · simp only [TkN.v, Int.toNat_of_nonneg a1, Int.toNat_of_nonneg a3, Int.toNat_of_nonneg a5, Int.toNat_of_nonneg b1, Int.toNat_of_nonneg b3, Int.toNat_of_nonneg b5, Int.toNat_of_nonneg b7]
  · intro hid n hn
    simp only [TkN.nums, List.mem_cons, List.not_mem_nil, or_false] at hn
    simp only at hid
    omega
  · simp only; omega

end Go.Proofs.Ytlcefchbfjfifaa
end

section
namespace Go.Proofs.Ytlcefchbfjfifaa
open Go.RowKit
set_option maxHeartbeats 4000000
set_option maxRecDepth 100000
set_option linter.unusedVariables false

theorem wnum_go {w w1 : World} {g : Nat} {r : Option Nat} {l : List UInt8} {F : Nat → Prop} {A : Option Addr} {c : Nat} {ns : List Nat} (h : WGo w g r l w1) (hr : Rd w F A ns.length (ns.map U64)) (hF : ∀ k, F k → k ≠ g ∧ r ≠ some k) (hF2 : ∀ k, F k → k < w.heap.size)
    (hns : ∀ n ∈ ns, n < 256 ^ 8) (hsm : l.length + 9 * ns.length ≤ 1000000) :
    Calls Try.prog 44 #[.pointer (some ⟨g, 0, none⟩), .slice A ns.length c] w1 fun e w2 => e = .returned (.tuple #[]) ∧ WGo w g r (l ++ encs ns) w2 := by
  have hrd := h.rd hr hF
  obtain ⟨r1, hw1, t1, hf1⟩ := h
  refine (wnum_any g r1 l F A c ns _ hw1 hrd (fun k hk => ⟨(hF k hk).1, fun e => ?_⟩) hns hsm).mono ?_
  · rcases hf1 with e' | ⟨q, e', hq⟩
    · exact (hF k hk).2 (e'.symm.trans e)
    · rw [e'] at e; injection e with e; have := hF2 k hk; omega
  rintro e w2 ⟨rfl, h2⟩
  exact ⟨rfl, WGo.next t1 hf1 h2⟩
def encTk (t : TkN) : List UInt8 := bif tkNone t.v then [] else encs t.nums
def encR (code time : Nat) (t : TkN) (fired : List Nat) (notice dead : Nat) : List UInt8 :=
  encs [code] ++ encIs [(time : Int)] ++ encFs [!tkNone t.v] ++ encTk t ++ encs [fired.length] ++ encs fired ++ encs [notice, dead]
theorem encTk_len (t : TkN) : (encTk t).length ≤ 81 := by
  unfold encTk
  cases tkNone t.v
  · have := encs_len t.nums; simpa [TkN.nums] using this
  · simp
def TkN.bd (t : TkN) : Prop := t.contract < 16 ∧ t.state ≤ 4 ∧ t.level < 6 ∧ t.gen ≤ 1152921504606846976 ∧ t.from_ ≤ 1125899906842624 ∧ t.left ≤ 1125899906842624 ∧ t.due ≤ 1125899906842624 ∧ t.told ≤ 2147483648

end Go.Proofs.Ytlcefchbfjfifaa
end

section
namespace Go.Proofs.Ytlcefchbfjfifaa
open Go.RowKit
set_option maxHeartbeats 4000000
set_option maxRecDepth 100000
set_option linter.unusedVariables false

end Go.Proofs.Ytlcefchbfjfifaa
end

section
namespace Go.Proofs.Ytlcefchbfjfifaa
open Go.RowKit
set_option maxHeartbeats 4000000
set_option maxRecDepth 100000
set_option linter.unusedVariables false

theorem OwnX.name {w0 w : World} {l Q R : List UInt8} {v : Value} (h : OwnX w0 w l v) (hq : Q = l ++ R) (hl : l.length ≤ 150) : ∃ X, OwnX w0 w X v ∧ Q = X ++ R ∧ X.length ≤ 150 := ⟨l, h, hq, hl⟩
theorem encN_pos (m n : Nat) : 0 < (encN m n).length := by simp [encN]
theorem encR_eq (code time : Nat) (t : TkN) (fired : List Nat) (notice dead : Nat) : encR code time t fired notice dead = (encN 0 code ++ encI time ++ encF (!tkNone t.v) ++ encTk t ++ encN 0 fired.length ++ encs fired) ++ encN 0 notice ++ encN 0 dead := by
  simp [encR, encs, encIs, encFs]

end Go.Proofs.Ytlcefchbfjfifaa
end

section
namespace Go.Proofs.Ytlcefchbfjfifaa
open Go.RowKit
set_option maxHeartbeats 4000000
set_option maxRecDepth 100000
set_option linter.unusedVariables false

/-- A read of a number: the number, and what is left. -/
def rd3 (most : Nat) (s : Bool × List UInt8) : Nat × Bool × List UInt8 := ((rdNum most false s.1 s.2).val, (rdNum most false s.1 s.2).bad, (rdNum most false s.1 s.2).left)
theorem rd3_le (most : Nat) (s : Bool × List UInt8) : (rd3 most s).1 ≤ most := rdNum_le most false s.1 s.2
def NumSt (m : Nat) (l : List UInt8) (bad : Bool) (w : World) (g : Nat) (F : Nat → Prop) (e : Ending) (w' : World) : Prop :=
  ∃ v b l', rd3 m (bad, l) = (v, b, l') ∧ v ≤ m ∧ e = .returned (.int .u64 (v : Int)) ∧ RdAt w' g F l' b ∧ Touch (fun k => k = g) w w'
theorem num_st (g : Nat) (F : Nat → Prop) (bad : Bool) (m : Nat) (l : List UInt8) (w : World) (h : RdAt w g F l bad) :
    Calls Try.prog 71 #[.pointer (some ⟨g, 0, none⟩), .int .u64 m] w (NumSt m l bad w g F) :=
  (num_any g F bad m l w h).mono fun e w' ⟨he, hr, t⟩ => ⟨_, _, _, rfl, rdNum_le _ _ _ _, he, hr, t⟩
def FNumSt (m : Nat) (l : List UInt8) (bad : Bool) (w : World) (g : Nat) (F : Nat → Prop) (e : Ending) (w' : World) : Prop :=
  ∃ v b l', rd3 m (bad, l) = (v, b, l') ∧ v ≤ m ∧ e = .returned (.int .u64 (v : Int)) ∧ RfAt w' g F l' b ∧ Touch (fun k => k = g) w w'
theorem fnum_st (g : Nat) (F : Nat → Prop) (bad : Bool) (m : Nat) (l : List UInt8) (w : World) (h : RfAt w g F l bad) :
    Calls Try.prog 31 #[.pointer (some ⟨g, 0, none⟩), .int .u64 m] w (FNumSt m l bad w g F) :=
  (rf_num g F bad m l w h).mono fun e w' ⟨he, hr, t⟩ => ⟨_, _, _, rfl, rdNum_le _ _ _ _, he, hr, t⟩
theorem fail_st (g : Nat) (F : Nat → Prop) (l : List UInt8) (bad : Bool) (w : World) (h : RdAt w g F l bad) :
    Calls Try.prog 85 #[.pointer (some ⟨g, 0, none⟩)] w (RPost (.tuple #[]) [] true w g F) := by
  obtain ⟨hg, A, cap, hl, hm, hb, hr⟩ := h
  refine (fail_any g A l.length cap bad w hb).mono ?_
  rintro e w1 ⟨rfl, rfl⟩
  exact ⟨rfl, (failPost hg hb).1, (failPost hg hb).2⟩
/-- In the middle of a read into the struct at block p: S has the blocks that may turn. -/
structure In (wS w : World) (g p : Nat) (T : TypeId) (F : Nat → Prop) (l : List UInt8) (bad : Bool) (cs : Array Value) : Prop where
  rd : RdAt w g F l bad
  blk : Blk w p T cs
  t : Touch (fun k => k = g ∨ k = p) wS w
  ne : p ≠ g
  nF : ¬ F p
theorem In.to {wS w w' : World} {g p : Nat} {T : TypeId} {F : Nat → Prop} {l l' : List UInt8} {bad bad' : Bool} {cs : Array Value} (h : In wS w g p T F l bad cs) (h' : RdAt w' g F l' bad') (t : Touch (fun k => k = g) w w') : In wS w' g p T F l' bad' cs :=
  ⟨h', t.blk h.blk h.ne, h.t.trans t (fun _ _ e => .inl e), h.ne, h.nF⟩
theorem In.set {wS w : World} {g p : Nat} {T : TypeId} {F : Nat → Prop} {l : List UInt8} {bad : Bool} {cs : Array Value} (h : In wS w g p T F l bad cs) (i : Nat) (u : Value) : In wS (w.setCell ⟨p, i, none⟩ u) g p T F l bad (cs.setIfInBounds i u) :=
  ⟨rdAt_touch h.rd (Touch.set (S := fun k => k = p) (Touch.refl _ _) (fun _ => rfl) u) (fun e => h.ne e.symm) (fun k hk e => h.nF (e ▸ hk)), h.blk.set_ i u, h.t.set (fun _ => .inr rfl) u, h.ne, h.nF⟩
theorem In.far {wS w w' : World} {g p : Nat} {T : TypeId} {F : Nat → Prop} {l : List UInt8} {bad : Bool} {cs : Array Value} (h : In wS w g p T F l bad cs) (t : Touch (fun _ => False) w w') : In wS w' g p T F l bad cs :=
  ⟨rdAt_touch h.rd t (fun e => e) (fun _ _ e => e), t.blk h.blk (fun e => e), h.t.trans t (fun _ _ e => e.elim), h.ne, h.nF⟩
structure Inf (wS w : World) (g p : Nat) (T : TypeId) (F : Nat → Prop) (l : List UInt8) (bad : Bool) (cs : Array Value) : Prop where
  rd : RfAt w g F l bad
  blk : Blk w p T cs
  t : Touch (fun k => k = g ∨ k = p) wS w
  ne : p ≠ g
  nF : ¬ F p
theorem Inf.to {wS w w' : World} {g p : Nat} {T : TypeId} {F : Nat → Prop} {l l' : List UInt8} {bad bad' : Bool} {cs : Array Value} (h : Inf wS w g p T F l bad cs) (h' : RfAt w' g F l' bad') (t : Touch (fun k => k = g) w w') : Inf wS w' g p T F l' bad' cs :=
  ⟨h', t.blk h.blk h.ne, h.t.trans t (fun _ _ e => .inl e), h.ne, h.nF⟩
theorem Inf.set {wS w : World} {g p : Nat} {T : TypeId} {F : Nat → Prop} {l : List UInt8} {bad : Bool} {cs : Array Value} (h : Inf wS w g p T F l bad cs) (i : Nat) (u : Value) : Inf wS (w.setCell ⟨p, i, none⟩ u) g p T F l bad (cs.setIfInBounds i u) :=
  ⟨rfAt_touch h.rd (Touch.set (S := fun k => k = p) (Touch.refl _ _) (fun _ => rfl) u) (fun e => h.ne e.symm) (fun k hk e => h.nF (e ▸ hk)), h.blk.set_ i u, h.t.set (fun _ => .inr rfl) u, h.ne, h.nF⟩
theorem Inf.far {wS w w' : World} {g p : Nat} {T : TypeId} {F : Nat → Prop} {l : List UInt8} {bad : Bool} {cs : Array Value} (h : Inf wS w g p T F l bad cs) (t : Touch (fun _ => False) w w') : Inf wS w' g p T F l bad cs :=
  ⟨rfAt_touch h.rd t (fun e => e) (fun _ _ e => e), t.blk h.blk (fun e => e), h.t.trans t (fun _ _ e => e.elim), h.ne, h.nF⟩
theorem Inf.done {w wS wb : World} {g p b : Nat} {T : TypeId} {F : Nat → Prop} {l : List UInt8} {bad : Bool} {cs : Array Value} (h : Inf wS wb g p T F l bad cs) (hT : Touch (fun k => k = g) w wS) (hg : g < w.heap.size) (hp : w.heap.size ≤ p) (hb : w.heap.size ≤ b) (hF : ∀ k, F k → k < w.heap.size) (vs : List Value) :
    RfAt (wb.setCells b 0 vs) g F l bad ∧ Touch (fun k => k = g) w (wb.setCells b 0 vs) := by
  have t := Touch.setCells (S := fun k => k = b) (g := b) vs 0 wb (Touch.refl _ _) (fun _ => rfl)
  refine ⟨rfAt_touch h.rd t (by omega) (fun k hk e => by have := hF k hk; omega), (hT.trans h.t (fun k hk e => e.elim id (fun e => by omega))).trans t (fun k hk e => by omega)⟩
theorem In.done {w wS wb : World} {g p b : Nat} {T : TypeId} {F : Nat → Prop} {l : List UInt8} {bad : Bool} {cs : Array Value} (h : In wS wb g p T F l bad cs) (hT : Touch (fun k => k = g) w wS) (hg : g < w.heap.size) (hp : w.heap.size ≤ p) (hb : w.heap.size ≤ b) (hF : ∀ k, F k → k < w.heap.size) (vs : List Value) :
    RdAt (wb.setCells b 0 vs) g F l bad ∧ Touch (fun k => k = g) w (wb.setCells b 0 vs) := by
  have t := Touch.setCells (S := fun k => k = b) (g := b) vs 0 wb (Touch.refl _ _) (fun _ => rfl)
  refine ⟨rdAt_touch h.rd t (by omega) (fun k hk e => by have := hF k hk; omega), (hT.trans h.t (fun k hk e => e.elim id (fun e => by omega))).trans t (fun k hk e => by omega)⟩
def rdI (s : Bool × List UInt8) : Int × Bool × List UInt8 := (rdInt s.1 s.2, (rdNum 9223372036854775807 true s.1 s.2).bad, (rdNum 9223372036854775807 true s.1 s.2).left)
def IntS (l : List UInt8) (bad : Bool) (w : World) (g : Nat) (F : Nat → Prop) (e : Ending) (w' : World) : Prop :=
  ∃ v b l', rdI (bad, l) = (v, b, l') ∧ (-9223372036854775808 ≤ v ∧ v ≤ 9223372036854775807) ∧ e = .returned (.int .i64 v) ∧ RdAt w' g F l' b ∧ Touch (fun k => k = g) w w'
theorem rdInt_in (b : Bool) (l : List UInt8) : -9223372036854775808 ≤ rdInt b l ∧ rdInt b l ≤ 9223372036854775807 := by
  have := rdNum_le 9223372036854775807 true b l
  unfold rdInt; split <;> omega
theorem int_st (g : Nat) (F : Nat → Prop) (bad : Bool) (l : List UInt8) (w : World) (h : RdAt w g F l bad) :
    Calls Try.prog 74 #[.pointer (some ⟨g, 0, none⟩)] w (IntS l bad w g F) :=
  (int_any g F bad l w h).mono fun e w' ⟨he, hr, t⟩ => ⟨_, _, _, rfl, rdInt_in _ _, he, hr, t⟩
def FIntS (l : List UInt8) (bad : Bool) (w : World) (g : Nat) (F : Nat → Prop) (e : Ending) (w' : World) : Prop :=
  ∃ v b l', rdI (bad, l) = (v, b, l') ∧ (-9223372036854775808 ≤ v ∧ v ≤ 9223372036854775807) ∧ e = .returned (.int .i64 v) ∧ RfAt w' g F l' b ∧ Touch (fun k => k = g) w w'
theorem fint_st (g : Nat) (F : Nat → Prop) (bad : Bool) (l : List UInt8) (w : World) (h : RfAt w g F l bad) :
    Calls Try.prog 34 #[.pointer (some ⟨g, 0, none⟩)] w (FIntS l bad w g F) :=
  (rf_int g F bad l w h).mono fun e w' ⟨he, hr, t⟩ => ⟨_, _, _, rfl, rdInt_in _ _, he, hr, t⟩
def FlagS (l : List UInt8) (bad : Bool) (w : World) (g : Nat) (F : Nat → Prop) (e : Ending) (w' : World) : Prop :=
  ∃ v b l', rd3 1 (bad, l) = (v, b, l') ∧ v ≤ 1 ∧ e = .returned (.bool (v == 1)) ∧ RdAt w' g F l' b ∧ Touch (fun k => k = g) w w'
def FFlagS (l : List UInt8) (bad : Bool) (w : World) (g : Nat) (F : Nat → Prop) (e : Ending) (w' : World) : Prop :=
  ∃ v b l', rd3 1 (bad, l) = (v, b, l') ∧ v ≤ 1 ∧ e = .returned (.bool (v == 1)) ∧ RfAt w' g F l' b ∧ Touch (fun k => k = g) w w'
/-- What is bad stays so. -/
theorem rdNum_bad (m : Nat) (mk : Bool) (l : List UInt8) : (rdNum m mk true l).bad = true := by
  unfold rdNum
  split
  · rfl
  · split
    · split <;> rfl
    · rfl
theorem rd3_bad {m : Nat} {s : Bool × List UInt8} (h : s.1 = true) : (rd3 m s).2.1 = true := by unfold rd3; rw [h]; exact rdNum_bad _ _ _
theorem In.aside {wS w w' : World} {g p : Nat} {T : TypeId} {F : Nat → Prop} {l : List UInt8} {bad : Bool} {cs : Array Value} {S : Nat → Prop} (h : In wS w g p T F l bad cs) (t : Touch S w w') (hS : ∀ k, S k → wS.heap.size ≤ k) (hp : p < wS.heap.size) (hg : g < wS.heap.size) (hF : ∀ k, F k → k < wS.heap.size) : In wS w' g p T F l bad cs :=
  ⟨rdAt_touch h.rd t (fun e => by have := hS _ e; omega) (fun k hk e => by have := hS _ e; have := hF k hk; omega), t.blk h.blk (fun e => by have := hS _ e; omega), h.t.trans t (fun k hk e => by have := hS _ e; omega), h.ne, h.nF⟩
theorem Inf.aside {wS w w' : World} {g p : Nat} {T : TypeId} {F : Nat → Prop} {l : List UInt8} {bad : Bool} {cs : Array Value} {S : Nat → Prop} (h : Inf wS w g p T F l bad cs) (t : Touch S w w') (hS : ∀ k, S k → wS.heap.size ≤ k) (hp : p < wS.heap.size) (hg : g < wS.heap.size) (hF : ∀ k, F k → k < wS.heap.size) : Inf wS w' g p T F l bad cs :=
  ⟨rfAt_touch h.rd t (fun e => by have := hS _ e; omega) (fun k hk e => by have := hS _ e; have := hF k hk; omega), t.blk h.blk (fun e => by have := hS _ e; omega), h.t.trans t (fun k hk e => by have := hS _ e; omega), h.ne, h.nF⟩
end Go.Proofs.Ytlcefchbfjfifaa
end

section
namespace Go.Proofs.Ytlcefchbfjfifaa
open Go.RowKit
set_option maxHeartbeats 4000000
set_option maxRecDepth 100000
set_option linter.unusedVariables false

/-- A ticket read, sound or not. -/
def rdTk (s : Bool × List UInt8) : TkN × Bool × List UInt8 :=
  let r1 := rd3 18446744073709551615 s
  let r2 := rd3 15 r1.2
  let r3 := rd3 4 r2.2
  let r4 := rd3 5 r3.2
  let r5 := rd3 1152921504606846976 r4.2
  let r6 := rd3 1125899906842624 r5.2
  let r7 := rd3 1125899906842624 r6.2
  let r8 := rd3 1125899906842624 r7.2
  let r9 := rd3 2147483648 r8.2
  (⟨r1.1, r2.1, r3.1, r4.1, r5.1, r6.1, r7.1, r8.1, r9.1⟩, r9.2)
def tkGood (r : TkN × Bool × List UInt8) : Bool := !r.2.1 && tkSound r.1.v
def tkZero : TkN := ⟨0, 0, 0, 0, 0, 0, 0, 0, 0⟩
def tkRes (r : TkN × Bool × List UInt8) : TkN × Bool × List UInt8 := if tkGood r = true then r else (tkZero, true, [])
/-- A ticket's cells. -/
def TkN.cells (t : TkN) : Array Value := #[.int .u64 t.id, .int .i64 t.contract, .int .i64 t.state, .int .i64 t.level, .int .u64 t.gen, .int .i64 t.from_, .int .i64 t.left, .int .i64 t.due, .int .i64 t.told]
def FTkPost (r : TkN × Bool × List UInt8) (w : World) (g : Nat) (F : Nat → Prop) (e : Ending) (w' : World) : Prop :=
  e = .returned (.tuple #[.agg (tkRes r).1.cells, .bool (tkGood r)]) ∧ RfAt w' g F (tkRes r).2.2 (tkRes r).2.1 ∧ Touch (fun k => k = g) w w'
def TkPost (r : TkN × Bool × List UInt8) (w : World) (g : Nat) (F : Nat → Prop) (e : Ending) (w' : World) : Prop :=
  e = .returned (.tuple #[.agg (tkRes r).1.cells, .bool (tkGood r)]) ∧ RdAt w' g F (tkRes r).2.2 (tkRes r).2.1 ∧ Touch (fun k => k = g) w w'

theorem FTkPost.no {r : TkN × Bool × List UInt8} {w w' : World} {g : Nat} {F : Nat → Prop} (h : tkGood r = false) (hr : RfAt w' g F [] true ∧ Touch (fun k => k = g) w w') : FTkPost r w g F (.returned (.tuple #[.agg #[.int .u64 0, .int .i64 0, .int .i64 0, .int .i64 0, .int .u64 0, .int .i64 0, .int .i64 0, .int .i64 0, .int .i64 0], .bool false])) w' := by
  have e : tkRes r = (tkZero, true, []) := by rw [tkRes, h]; rfl
  rw [FTkPost, e, h]
  exact ⟨rfl, hr.1, hr.2⟩
theorem FTkPost.yes {r : TkN × Bool × List UInt8} {w w' : World} {g : Nat} {F : Nat → Prop} (h : tkGood r = true) (hr : RfAt w' g F r.2.2 r.2.1 ∧ Touch (fun k => k = g) w w') : FTkPost r w g F (.returned (.tuple #[.agg r.1.cells, .bool true])) w' := by
  have e : tkRes r = r := by rw [tkRes, h]; rfl
  rw [FTkPost, e, h]
  exact ⟨rfl, hr.1, hr.2⟩
theorem TkPost.no {r : TkN × Bool × List UInt8} {w w' : World} {g : Nat} {F : Nat → Prop} (h : tkGood r = false) (hr : RdAt w' g F [] true ∧ Touch (fun k => k = g) w w') : TkPost r w g F (.returned (.tuple #[.agg #[.int .u64 0, .int .i64 0, .int .i64 0, .int .i64 0, .int .u64 0, .int .i64 0, .int .i64 0, .int .i64 0, .int .i64 0], .bool false])) w' := by
  have e : tkRes r = (tkZero, true, []) := by rw [tkRes, h]; rfl
  rw [TkPost, e, h]
  exact ⟨rfl, hr.1, hr.2⟩
theorem TkPost.yes {r : TkN × Bool × List UInt8} {w w' : World} {g : Nat} {F : Nat → Prop} (h : tkGood r = true) (hr : RdAt w' g F r.2.2 r.2.1 ∧ Touch (fun k => k = g) w w') : TkPost r w g F (.returned (.tuple #[.agg r.1.cells, .bool true])) w' := by
  have e : tkRes r = r := by rw [tkRes, h]; rfl
  rw [TkPost, e, h]
  exact ⟨rfl, hr.1, hr.2⟩
/-- The closure: an int. -/
def IntSt (m : Nat) (l : List UInt8) (bad : Bool) (w : World) (g : Nat) (F : Nat → Prop) (e : Ending) (w' : World) : Prop :=
  ∃ v b l', rd3 m (bad, l) = (v, b, l') ∧ v ≤ m ∧ e = .returned (.int .i64 (v : Int)) ∧ RdAt w' g F l' b ∧ Touch (fun k => k = g) w w'
end Go.Proofs.Ytlcefchbfjfifaa
end
