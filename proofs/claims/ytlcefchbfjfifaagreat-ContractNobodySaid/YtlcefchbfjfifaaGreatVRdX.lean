/- A reader's calls, told by what was read; a struct under way, read field by field. -/
import Derived.Test.YtlcefchbfjfifaaGreatVQuillY
import Derived.Test.YtlcefchbfjfifaaGreatVCcD
import Derived.Test.YtlcefchbfjfifaaGreatVOwn
namespace Go.Proofs.YtlcefchbfjfifaaGreat
open Go.RowKit
set_option maxHeartbeats 4000000
set_option maxRecDepth 100000
set_option linter.unusedVariables false

/-- A read of a number: the number, and what is left. -/
def rd3 (most : Nat) (s : Bool × List UInt8) : Nat × Bool × List UInt8 := ((rdNum most false s.1 s.2).val, (rdNum most false s.1 s.2).bad, (rdNum most false s.1 s.2).left)
theorem rd3_le (most : Nat) (s : Bool × List UInt8) : (rd3 most s).1 ≤ most := rdNum_le most false s.1 s.2
def NumSt (m : Nat) (l : List UInt8) (bad : Bool) (w : World) (g : Nat) (F : Nat → Prop) (e : Ending) (w' : World) : Prop :=
  ∃ v b l', rd3 m (bad, l) = (v, b, l') ∧ v ≤ m ∧ e = .returned (.int .u64 (v : Int)) ∧ RdAt w' g F l' b ∧ Touch (fun k => k = g) w w'
theorem num_st (g : Nat) (F : Nat → Prop) (bad : Bool) (m : Nat) (l : List UInt8) (w : World) (h : RdAt w g F l bad) :
    Calls Tryz.prog 43 #[.pointer (some ⟨g, 0, none⟩), .int .u64 m] w (NumSt m l bad w g F) :=
  (num_any g F bad m l w h).mono fun e w' ⟨he, hr, t⟩ => ⟨_, _, _, rfl, rdNum_le _ _ _ _, he, hr, t⟩
def FNumSt (m : Nat) (l : List UInt8) (bad : Bool) (w : World) (g : Nat) (F : Nat → Prop) (e : Ending) (w' : World) : Prop :=
  ∃ v b l', rd3 m (bad, l) = (v, b, l') ∧ v ≤ m ∧ e = .returned (.int .u64 (v : Int)) ∧ RfAt w' g F l' b ∧ Touch (fun k => k = g) w w'
theorem fnum_st (g : Nat) (F : Nat → Prop) (bad : Bool) (m : Nat) (l : List UInt8) (w : World) (h : RfAt w g F l bad) :
    Calls Tryz.prog 47 #[.pointer (some ⟨g, 0, none⟩), .int .u64 m] w (FNumSt m l bad w g F) :=
  (rf_num g F bad m l w h).mono fun e w' ⟨he, hr, t⟩ => ⟨_, _, _, rfl, rdNum_le _ _ _ _, he, hr, t⟩
theorem fail_st (g : Nat) (F : Nat → Prop) (l : List UInt8) (bad : Bool) (w : World) (h : RdAt w g F l bad) :
    Calls Tryz.prog 44 #[.pointer (some ⟨g, 0, none⟩)] w (RPost (.tuple #[]) [] true w g F) := by
  obtain ⟨hg, A, cap, hl, hm, hb, hr⟩ := h
  refine (fail_any g A l.length cap bad w hb).mono ?_
  rintro e w1 ⟨rfl, rfl⟩
  exact ⟨rfl, (failPost hg hb).1, (failPost hg hb).2⟩
/-- In the middle of a read into the struct at block p: S has the blocks that may turn. -/
structure In (wS w : World) (g p : Nat) (T : TypeId) (F : Nat → Prop) (l : List UInt8) (bad : Bool) (cs : Array Value) : Prop where
  rd : RdAt w g F l bad
  blk : Blk w p T cs
  t : Touch (fun k => k = g ∨ k = p) wS w
  ne : p ≠ g
  nF : ¬ F p
theorem In.to {wS w w' : World} {g p : Nat} {T : TypeId} {F : Nat → Prop} {l l' : List UInt8} {bad bad' : Bool} {cs : Array Value} (h : In wS w g p T F l bad cs) (h' : RdAt w' g F l' bad') (t : Touch (fun k => k = g) w w') : In wS w' g p T F l' bad' cs :=
  ⟨h', t.blk h.blk h.ne, h.t.trans t (fun _ _ e => .inl e), h.ne, h.nF⟩
theorem In.set {wS w : World} {g p : Nat} {T : TypeId} {F : Nat → Prop} {l : List UInt8} {bad : Bool} {cs : Array Value} (h : In wS w g p T F l bad cs) (i : Nat) (u : Value) : In wS (w.setCell ⟨p, i, none⟩ u) g p T F l bad (cs.setIfInBounds i u) :=
  ⟨rdAt_touch h.rd (Touch.set (S := fun k => k = p) (Touch.refl _ _) (fun _ => rfl) u) (fun e => h.ne e.symm) (fun k hk e => h.nF (e ▸ hk)), h.blk.set_ i u, h.t.set (fun _ => .inr rfl) u, h.ne, h.nF⟩
theorem In.far {wS w w' : World} {g p : Nat} {T : TypeId} {F : Nat → Prop} {l : List UInt8} {bad : Bool} {cs : Array Value} (h : In wS w g p T F l bad cs) (t : Touch (fun _ => False) w w') : In wS w' g p T F l bad cs :=
  ⟨rdAt_touch h.rd t (fun e => e) (fun _ _ e => e), t.blk h.blk (fun e => e), h.t.trans t (fun _ _ e => e.elim), h.ne, h.nF⟩
structure Inf (wS w : World) (g p : Nat) (T : TypeId) (F : Nat → Prop) (l : List UInt8) (bad : Bool) (cs : Array Value) : Prop where
  rd : RfAt w g F l bad
  blk : Blk w p T cs
  t : Touch (fun k => k = g ∨ k = p) wS w
  ne : p ≠ g
  nF : ¬ F p
theorem Inf.to {wS w w' : World} {g p : Nat} {T : TypeId} {F : Nat → Prop} {l l' : List UInt8} {bad bad' : Bool} {cs : Array Value} (h : Inf wS w g p T F l bad cs) (h' : RfAt w' g F l' bad') (t : Touch (fun k => k = g) w w') : Inf wS w' g p T F l' bad' cs :=
  ⟨h', t.blk h.blk h.ne, h.t.trans t (fun _ _ e => .inl e), h.ne, h.nF⟩
theorem Inf.set {wS w : World} {g p : Nat} {T : TypeId} {F : Nat → Prop} {l : List UInt8} {bad : Bool} {cs : Array Value} (h : Inf wS w g p T F l bad cs) (i : Nat) (u : Value) : Inf wS (w.setCell ⟨p, i, none⟩ u) g p T F l bad (cs.setIfInBounds i u) :=
  ⟨rfAt_touch h.rd (Touch.set (S := fun k => k = p) (Touch.refl _ _) (fun _ => rfl) u) (fun e => h.ne e.symm) (fun k hk e => h.nF (e ▸ hk)), h.blk.set_ i u, h.t.set (fun _ => .inr rfl) u, h.ne, h.nF⟩
theorem Inf.far {wS w w' : World} {g p : Nat} {T : TypeId} {F : Nat → Prop} {l : List UInt8} {bad : Bool} {cs : Array Value} (h : Inf wS w g p T F l bad cs) (t : Touch (fun _ => False) w w') : Inf wS w' g p T F l bad cs :=
  ⟨rfAt_touch h.rd t (fun e => e) (fun _ _ e => e), t.blk h.blk (fun e => e), h.t.trans t (fun _ _ e => e.elim), h.ne, h.nF⟩
theorem Inf.done {w wS wb : World} {g p b : Nat} {T : TypeId} {F : Nat → Prop} {l : List UInt8} {bad : Bool} {cs : Array Value} (h : Inf wS wb g p T F l bad cs) (hT : Touch (fun k => k = g) w wS) (hg : g < w.heap.size) (hp : w.heap.size ≤ p) (hb : w.heap.size ≤ b) (hF : ∀ k, F k → k < w.heap.size) (vs : List Value) :
    RfAt (wb.setCells b 0 vs) g F l bad ∧ Touch (fun k => k = g) w (wb.setCells b 0 vs) := by
  have t := Touch.setCells (S := fun k => k = b) (g := b) vs 0 wb (Touch.refl _ _) (fun _ => rfl)
  refine ⟨rfAt_touch h.rd t (by omega) (fun k hk e => by have := hF k hk; omega), (hT.trans h.t (fun k hk e => e.elim id (fun e => by omega))).trans t (fun k hk e => by omega)⟩
theorem In.done {w wS wb : World} {g p b : Nat} {T : TypeId} {F : Nat → Prop} {l : List UInt8} {bad : Bool} {cs : Array Value} (h : In wS wb g p T F l bad cs) (hT : Touch (fun k => k = g) w wS) (hg : g < w.heap.size) (hp : w.heap.size ≤ p) (hb : w.heap.size ≤ b) (hF : ∀ k, F k → k < w.heap.size) (vs : List Value) :
    RdAt (wb.setCells b 0 vs) g F l bad ∧ Touch (fun k => k = g) w (wb.setCells b 0 vs) := by
  have t := Touch.setCells (S := fun k => k = b) (g := b) vs 0 wb (Touch.refl _ _) (fun _ => rfl)
  refine ⟨rdAt_touch h.rd t (by omega) (fun k hk e => by have := hF k hk; omega), (hT.trans h.t (fun k hk e => e.elim id (fun e => by omega))).trans t (fun k hk e => by omega)⟩
def rdI (s : Bool × List UInt8) : Int × Bool × List UInt8 := (rdInt s.1 s.2, (rdNum 9223372036854775807 true s.1 s.2).bad, (rdNum 9223372036854775807 true s.1 s.2).left)
def IntS (l : List UInt8) (bad : Bool) (w : World) (g : Nat) (F : Nat → Prop) (e : Ending) (w' : World) : Prop :=
  ∃ v b l', rdI (bad, l) = (v, b, l') ∧ (-9223372036854775808 ≤ v ∧ v ≤ 9223372036854775807) ∧ e = .returned (.int .i64 v) ∧ RdAt w' g F l' b ∧ Touch (fun k => k = g) w w'
theorem rdInt_in (b : Bool) (l : List UInt8) : -9223372036854775808 ≤ rdInt b l ∧ rdInt b l ≤ 9223372036854775807 := by
  have := rdNum_le 9223372036854775807 true b l
  unfold rdInt; split <;> omega
theorem int_st (g : Nat) (F : Nat → Prop) (bad : Bool) (l : List UInt8) (w : World) (h : RdAt w g F l bad) :
    Calls Tryz.prog 96 #[.pointer (some ⟨g, 0, none⟩)] w (IntS l bad w g F) :=
  (int_any g F bad l w h).mono fun e w' ⟨he, hr, t⟩ => ⟨_, _, _, rfl, rdInt_in _ _, he, hr, t⟩
def FIntS (l : List UInt8) (bad : Bool) (w : World) (g : Nat) (F : Nat → Prop) (e : Ending) (w' : World) : Prop :=
  ∃ v b l', rdI (bad, l) = (v, b, l') ∧ (-9223372036854775808 ≤ v ∧ v ≤ 9223372036854775807) ∧ e = .returned (.int .i64 v) ∧ RfAt w' g F l' b ∧ Touch (fun k => k = g) w w'
theorem fint_st (g : Nat) (F : Nat → Prop) (bad : Bool) (l : List UInt8) (w : World) (h : RfAt w g F l bad) :
    Calls Tryz.prog 100 #[.pointer (some ⟨g, 0, none⟩)] w (FIntS l bad w g F) :=
  (rf_int g F bad l w h).mono fun e w' ⟨he, hr, t⟩ => ⟨_, _, _, rfl, rdInt_in _ _, he, hr, t⟩
def FlagS (l : List UInt8) (bad : Bool) (w : World) (g : Nat) (F : Nat → Prop) (e : Ending) (w' : World) : Prop :=
  ∃ v b l', rd3 1 (bad, l) = (v, b, l') ∧ v ≤ 1 ∧ e = .returned (.bool (v == 1)) ∧ RdAt w' g F l' b ∧ Touch (fun k => k = g) w w'
def FFlagS (l : List UInt8) (bad : Bool) (w : World) (g : Nat) (F : Nat → Prop) (e : Ending) (w' : World) : Prop :=
  ∃ v b l', rd3 1 (bad, l) = (v, b, l') ∧ v ≤ 1 ∧ e = .returned (.bool (v == 1)) ∧ RfAt w' g F l' b ∧ Touch (fun k => k = g) w w'
/-- What is bad stays so. -/
theorem rdNum_bad (m : Nat) (mk : Bool) (l : List UInt8) : (rdNum m mk true l).bad = true := by
  unfold rdNum
  split
  · rfl
  · split
    · split <;> rfl
    · rfl
theorem rd3_bad {m : Nat} {s : Bool × List UInt8} (h : s.1 = true) : (rd3 m s).2.1 = true := by unfold rd3; rw [h]; exact rdNum_bad _ _ _
theorem In.aside {wS w w' : World} {g p : Nat} {T : TypeId} {F : Nat → Prop} {l : List UInt8} {bad : Bool} {cs : Array Value} {S : Nat → Prop} (h : In wS w g p T F l bad cs) (t : Touch S w w') (hS : ∀ k, S k → wS.heap.size ≤ k) (hp : p < wS.heap.size) (hg : g < wS.heap.size) (hF : ∀ k, F k → k < wS.heap.size) : In wS w' g p T F l bad cs :=
  ⟨rdAt_touch h.rd t (fun e => by have := hS _ e; omega) (fun k hk e => by have := hS _ e; have := hF k hk; omega), t.blk h.blk (fun e => by have := hS _ e; omega), h.t.trans t (fun k hk e => by have := hS _ e; omega), h.ne, h.nF⟩
theorem Inf.aside {wS w w' : World} {g p : Nat} {T : TypeId} {F : Nat → Prop} {l : List UInt8} {bad : Bool} {cs : Array Value} {S : Nat → Prop} (h : Inf wS w g p T F l bad cs) (t : Touch S w w') (hS : ∀ k, S k → wS.heap.size ≤ k) (hp : p < wS.heap.size) (hg : g < wS.heap.size) (hF : ∀ k, F k → k < wS.heap.size) : Inf wS w' g p T F l bad cs :=
  ⟨rfAt_touch h.rd t (fun e => by have := hS _ e; omega) (fun k hk e => by have := hS _ e; have := hF k hk; omega), t.blk h.blk (fun e => by have := hS _ e; omega), h.t.trans t (fun k hk e => by have := hS _ e; omega), h.ne, h.nF⟩
end Go.Proofs.YtlcefchbfjfifaaGreat
