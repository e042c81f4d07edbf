/- What calendar.Due's loop holds. calendar.Due. Package chain: a step, First, Next, Stand, Go of a clock. (written by genchB.py) A contract, a step among the arguments, opened. A command among the arguments, opened. -/
import Derived.Test.YtlcefchbfjfifaaVCalT
import Derived.Shelf.Abstract
import Derived.Test.YtlcefchbfjfifaaVChA
import Derived.Test.YtlcefchbfjfifaaVCcA
section
namespace Go.Proofs.Ytlcefchbfjfifaa
open Go.RowKit Cal
set_option maxHeartbeats 4000000
set_option maxRecDepth 100000
set_option linter.unusedVariables false

theorem KeepT.of_grown {W W' : World} {row : Option Nat} (hg : W.grownBy W' row) (hr : ∀ r, row = some r → ∃ o : Obj, W.heap[r]? = some o ∧ o.isCells = false) : KeepT (fun _ => False) W W' :=
  ⟨hg.size, fun k o hk hc _ => (grownBy_keeps_cells hg hr hk hc).trans hk⟩
section
variable {w w' : World} {F G T : Nat → Prop}
theorem SpR.keep {A : Option Addr} {n : Nat} {l : List Sp} (h : SpR w F A n l) (hk : KeepT T w w') (hF : ∀ q, F q → ¬ T q) : SpR w' F A n l :=
  ⟨h.1, h.2.1, fun hn => by
    obtain ⟨g, off, e, hl, hf, hc⟩ := h.2.2 hn
    exact ⟨g, off, e, Nat.lt_of_lt_of_le hl hk.1, hf, fun j u hj => hk.cell (hF g hf) (hc j u hj)⟩⟩
theorem Rd.keep {A : Option Addr} {n : Nat} {xs : List Value} (h : Rd w F A n xs) (hk : KeepT T w w') (hF : ∀ q, F q → ¬ T q) : Rd w' F A n xs :=
  ⟨h.1, fun hn => by
    obtain ⟨g, off, e, hl, hf, hc⟩ := h.2 hn
    exact ⟨g, off, e, Nat.lt_of_lt_of_le hl hk.1, hf, fun j u hj => hk.cell (hF g hf) (hc j u hj)⟩⟩
theorem CkAt.keep {k a p b : Nat} {c : Ca} (h : CkAt w k a p b c G) (hk : KeepT T w w') (hb : ¬ T b) (hG : ∀ q, G q → ¬ T q) : CkAt w' k a p b c G := by
  obtain ⟨B, m, ha⟩ := h.al
  obtain ⟨A, n, hp⟩ := h.pn.pl
  refine ⟨hk.blk h.blk (hG _ h.gk), ⟨B, m, ha.keep (hG _ h.ga) hG hk⟩, ⟨⟨A, n, hk.blk hp.blk (hG _ h.pn.gG), hp.row.keep hk hG⟩, ?_, h.pn.gG, h.pn.nb, h.pn.wk⟩, h.gk, h.ga, h.ok⟩
  rcases h.pn.lz with ⟨sm, ak, h1⟩ | ⟨sm, ak, A', c', h1, h2⟩
  · exact .inl ⟨sm, ak, hk.blk h1 hb⟩
  · exact .inr ⟨sm, ak, A', c', hk.blk h1 hb, h2.keep hk hG⟩
/-- Only what lies there already. -/
theorem CkAt.shrink {k a p b : Nat} {c : Ca} (h : CkAt w k a p b c G) : CkAt w k a p b c (fun q => G q ∧ q < w.heap.size) := by
  obtain ⟨B, m, ha⟩ := h.al
  obtain ⟨A, n, hp⟩ := h.pn.pl
  refine ⟨h.blk, ⟨B, m, ha.blk, ha.row.near⟩, ⟨⟨A, n, hp.blk, hp.row.near⟩, ?_, ⟨h.pn.gG, hp.blk.lt⟩, fun e => h.nb e.1, h.pn.wk⟩, ⟨h.gk, h.blk.lt⟩, ⟨h.ga, ha.blk.lt⟩, h.ok⟩
  rcases h.pn.lz with ⟨sm, ak, h1⟩ | ⟨sm, ak, A', c', h1, h2⟩
  · exact .inl ⟨sm, ak, h1⟩
  · exact .inr ⟨sm, ak, A', c', h1, h2.near_⟩
end
/-- What Due has between two rounds: v is what is left of the budget; r0, r1 the results. -/
structure DueI (w wL : World) (k a p b : Nat) (c : Ca) (GL : Nat → Prop) (v r0 r1 : Int) (W : World) : Prop where
  kb : Blk W w.heap.size 152 #[.pointer (some ⟨k, 0, none⟩)]
  bb : Blk W (w.heap.size + 1) 2 #[.int .i64 v]
  c0 : Blk W (w.heap.size + 2) 2 #[.int .i64 r0]
  c1 : Blk W (w.heap.size + 3) 40 #[.int .i64 r1]
  ck : CkAt W k a p b c (More GL wL W)
  t : Touch (fun q => q = b) w W
  sz : wL.heap.size ≤ W.heap.size
/-- The blocks that the loop's body writes. -/
def DueT (w : World) (b : Nat) : Nat → Prop := fun q => q = b ∨ (w.heap.size + 1 ≤ q ∧ q ≤ w.heap.size + 3)
section
variable {w wL W W' : World} {k a p b : Nat} {c : Ca} {GL S : Nat → Prop} {v r0 r1 : Int}
theorem DueI.touch (h : DueI w wL k a p b c GL v r0 r1 W) (ht : Touch (fun _ => False) W W') : DueI w wL k a p b c GL v r0 r1 W' := by
  have hs := ht.size
  refine ⟨ht.blk h.kb (fun e => e), ht.blk h.bb (fun e => e), ht.blk h.c0 (fun e => e), ht.blk h.c1 (fun e => e), ?_, h.t.trans ht (fun _ _ e => e.elim), Nat.le_trans h.sz hs⟩
  refine (h.ck.none ht).grow (fun q hq => ?_) (fun e => ?_)
  · rcases hq with hq | hq
    · exact .inl hq
    · exact .inr (by omega)
  · rcases e with e | e
    · exact h.ck.nb (.inl e)
    · have := h.ck.bl; exact h.ck.nb (.inr (by omega))
theorem DueI.rebase (h : DueI w wL k a p b c GL v r0 r1 W) (hbw : b < w.heap.size) (hw : w.heap.size ≤ wL.heap.size) (hn : ¬ GL b) : DueI w W k a p b c (More GL wL W) v r0 r1 W :=
  ⟨h.kb, h.bb, h.c0, h.c1, h.ck.grow (fun q hq => .inl hq) (fun e => by
    rcases e with (e | e) | e
    · exact hn e
    · omega
    · omega), h.t, Nat.le_refl _⟩
theorem DueI.grown (h : DueI w wL k a p b c GL v r0 r1 W) (hw : w.heap.size ≤ wL.heap.size) {row : Option Nat} (hg : W.grownBy W' row) (hr : ∀ r, row = some r → wL.heap.size ≤ r ∧ ∃ o : Obj, W.heap[r]? = some o ∧ o.isCells = false) : DueI w wL k a p b c GL v r0 r1 W' := by
  have hk := KeepT.of_grown hg (fun r e => (hr r e).2)
  have hs := hk.1
  refine ⟨hk.blk h.kb (fun e => e), hk.blk h.bb (fun e => e), hk.blk h.c0 (fun e => e), hk.blk h.c1 (fun e => e), ?_, ?_, Nat.le_trans h.sz hs⟩
  · refine (h.ck.keep hk (fun e => e) (fun _ _ e => e)).grow (fun q hq => ?_) (fun e => ?_)
    · rcases hq with hq | hq
      · exact .inl hq
      · exact .inr (by omega)
    · rcases e with e | e
      · exact h.ck.nb (.inl e)
      · have := h.ck.bl; exact h.ck.nb (.inr (by omega))
  · refine h.t.trans (S' := fun q => wL.heap.size ≤ q) ⟨hg.os, hg.tape, hg.output, hg.size, fun q hq hn => hg.block q hq (fun e => hn (hr q e.symm).1)⟩ (fun q hq e => by omega)
/-- Behind a call that may have filled the lazy cell. -/
theorem DueI.get (h : DueI w wL k a p b c GL v r0 r1 W) (hbw : b < w.heap.size) (ht : Touch (fun q => q = b) W W') (hc : CkAt W' k a p b c (More (More GL wL W) W W')) : DueI w wL k a p b c GL v r0 r1 W' := by
  have hs := ht.size
  exact ⟨ht.blk h.kb (by omega), ht.blk h.bb (by omega), ht.blk h.c0 (by omega), ht.blk h.c1 (by omega), hc.grow (more_trans h.sz hs) (fun e => by
    rcases e with e | e
    · exact h.ck.nb (.inl e)
    · have := h.ck.bl; exact h.ck.nb (.inr (by omega))), h.t.trans ht (fun _ _ e => e), Nat.le_trans h.sz hs⟩
theorem DueI.setB (h : DueI w wL k a p b c GL v r0 r1 W) (hG : ∀ q, GL q → ¬ DueT w b q) (hw : w.heap.size + 4 ≤ wL.heap.size) (hbw : b < w.heap.size) (v' : Int) : DueI w wL k a p b c GL v' r0 r1 (W.setCell ⟨w.heap.size + 1, 0, none⟩ (.int .i64 v')) := by
  have ht : Touch (fun q => q = w.heap.size + 1) W (W.setCell ⟨w.heap.size + 1, 0, none⟩ (.int .i64 v')) := (Touch.refl (fun q => q = w.heap.size + 1) W).set (fun _ => rfl) _
  have hM : ∀ q, More GL wL W q → ¬ q = w.heap.size + 1 := fun q hq e => by
    rcases hq with hq | hq
    · exact hG q hq (.inr (by omega))
    · omega
  refine ⟨ht.blk h.kb (by omega), by simpa using h.bb.set_ 0 (.int .i64 v'), ht.blk h.c0 (by omega), ht.blk h.c1 (by omega), ?_, h.t.set (fun e => by omega) _, by simpa using h.sz⟩
  rw [show More GL wL (W.setCell ⟨w.heap.size + 1, 0, none⟩ (.int .i64 v')) = More GL wL W by funext q; simp [More]]
  exact h.ck.touch ht (by omega) hM
theorem DueI.setR (h : DueI w wL k a p b c GL v r0 r1 W) (hG : ∀ q, GL q → ¬ DueT w b q) (hw : w.heap.size + 4 ≤ wL.heap.size) (hbw : b < w.heap.size) (d e : Int) : DueI w wL k a p b c GL v d e ((W.setCell ⟨w.heap.size + 2, 0, none⟩ (.int .i64 d)).setCell ⟨w.heap.size + 3, 0, none⟩ (.int .i64 e)) := by
  have ht : Touch (fun q => w.heap.size + 2 ≤ q ∧ q ≤ w.heap.size + 3) W ((W.setCell ⟨w.heap.size + 2, 0, none⟩ (.int .i64 d)).setCell ⟨w.heap.size + 3, 0, none⟩ (.int .i64 e)) := ((Touch.refl (fun q => w.heap.size + 2 ≤ q ∧ q ≤ w.heap.size + 3) W).set (fun _ => by omega) _).set (fun _ => by omega) _
  have hM : ∀ q, More GL wL W q → ¬ (w.heap.size + 2 ≤ q ∧ q ≤ w.heap.size + 3) := fun q hq e => by
    rcases hq with hq | hq
    · exact hG q hq (.inr (by omega))
    · omega
  refine ⟨ht.blk h.kb (by omega), ht.blk h.bb (by omega), ?_, ?_, ?_, (h.t.set (fun e => by omega) _).set (fun e => by omega) _, by simpa using h.sz⟩
  · have := (h.c0.set_ 0 (.int .i64 d)).far (p := ⟨w.heap.size + 3, 0, none⟩) (by simp) (.int .i64 e)
    simpa using this
  · have := (h.c1.far (p := ⟨w.heap.size + 2, 0, none⟩) (by simp) (.int .i64 d)).set_ 0 (.int .i64 e)
    simpa using this
  · rw [show More GL wL ((W.setCell ⟨w.heap.size + 2, 0, none⟩ (.int .i64 d)).setCell ⟨w.heap.size + 3, 0, none⟩ (.int .i64 e)) = More GL wL W by funext q; simp [More]]
    exact h.ck.touch ht (by omega) hM
end
end Go.Proofs.Ytlcefchbfjfifaa
end

section
namespace Go.Proofs.Ytlcefchbfjfifaa
open Go.RowKit Go.Shelf Cal
attribute [local go_sem] Oper.semAt_some
set_option maxHeartbeats 8000000
set_option maxRecDepth 100000
set_option linter.unusedVariables false
attribute [local irreducible] wpPlan

theorem LzAt.cells {w : World} {b g : Nat} {wk : List Sp} {G : Nat → Prop} (h : LzAt w b g wk G) : ∃ o : Obj, w.heap[b]? = some o ∧ o.isCells = true := by
  rcases h with ⟨sm, ak, hb⟩ | ⟨sm, ak, A, c, hb, _⟩ <;> exact ⟨_, hb, rfl⟩
theorem Blk.cells {w : World} {g : Nat} {t : TypeId} {cs : Array Value} (h : Blk w g t cs) : ∃ o : Obj, w.heap[g]? = some o ∧ o.isCells = true := ⟨_, h, rfl⟩
end Go.Proofs.Ytlcefchbfjfifaa
end

section
namespace Go.Proofs.Ytlcefchbfjfifaa
open Go.RowKit Cal
set_option maxHeartbeats 4000000
set_option maxRecDepth 100000
set_option linter.unusedVariables false
attribute [local irreducible] wpPlan

/-- A step: its level, from, left, due. -/
structure St where
  lv : Int
  fr : Int
  le : Int
  du : Int
def St.z : St := ⟨0, 0, 0, 0⟩
noncomputable def begV (c : Ca) (lv le now : Int) : St × Int := if (c.due now le).2 = 0 then (⟨lv, now, le, (c.due now le).1⟩, 0) else (St.z, (c.due now le).2)
def bud (t : Co) (i : Nat) : Int := match t.lv[i]? with | some s => s.f | none => 0
noncomputable def firstV (c : Ca) (t : Co) (now : Int) : St × Int := if goodB t = true then begV c 0 (bud t 0) now else (St.z, 2)
noncomputable def nextV (c : Ca) (t : Co) (s : St) (now : Int) : (St × Bool) × Int :=
  if goodB t = true ∧ 0 ≤ s.lv ∧ s.lv < t.lv.length then (if s.lv = t.lv.length - 1 then ((St.z, false), 0) else (((begV c (s.lv + 1) (bud t (s.lv + 1).toNat) now).1, decide ((begV c (s.lv + 1) (bud t (s.lv + 1).toNat) now).2 = 0)), (begV c (s.lv + 1) (bud t (s.lv + 1).toNat) now).2)) else ((St.z, false), 2)
noncomputable def standV (c : Ca) (s : St) (now : Int) : St × Int :=
  if s.du = 0 then (St.z, 33) else if s.du ≤ now then (St.z, 34) else if (c.rest s.fr s.le now).2 = 0 then (⟨s.lv, now, (c.rest s.fr s.le now).1, 0⟩, 0) else (St.z, (c.rest s.fr s.le now).2)
noncomputable def goV (c : Ca) (s : St) (now : Int) : St × Int := if s.du ≠ 0 then (St.z, 33) else if s.le < 1 then (St.z, 2) else begV c s.lv s.le now
/-- What a step's function of a clock answers. -/
def CkS (k a p b : Nat) (c : Ca) (G : Nat → Prop) (r : St × Int) (w : World) (e : Ending) (w' : World) : Prop :=
  CkV k a p b c G (.tuple #[.agg #[.int .i64 r.1.lv, .int .i64 r.1.fr, .int .i64 r.1.le, .int .i64 r.1.du], .int .i64 r.2]) w e w'
def ElS (r : St × Int) (w : World) (e : Ending) (w' : World) : Prop := e = .returned (.tuple #[.agg #[.int .i64 r.1.lv, .int .i64 r.1.fr, .int .i64 r.1.le, .int .i64 r.1.du], .int .i64 r.2]) ∧ Touch (fun _ => False) w w'
/-- A clock's call inside a function with blocks of its own. -/
theorem CkAt.wrap {w W0 w1 W : World} {k a p b : Nat} {c : Ca} {G : Nat → Prop} (h : CkAt w k a p b c G) (t0 : Touch (fun _ => False) w W0) (ck : CkAt w1 k a p b c (More (fun q => G q ∧ q < w.heap.size) W0 w1)) (t1 : Touch (fun q => q = b) W0 w1) (t2 : Touch (fun q => w.heap.size ≤ q ∧ q < W0.heap.size) w1 W) :
    CkAt W k a p b c (More G w W) ∧ Touch (fun q => q = b) w W := by
  have hb := h.bl
  have s0 := t0.size
  have s1 := t1.size
  have s2 := t2.size
  refine ⟨(ck.touch t2 (fun e => by omega) (fun q hq e => ?_)).grow (fun q hq => ?_) (fun e => ?_), ((t0.mono (S' := fun q => q = b) (fun _ _ e => e.elim)).trans t1 (fun _ _ e => e)).trans t2 (fun q hq e => by omega)⟩
  · rcases hq with hq | hq <;> omega
  · rcases hq with hq | hq
    · exact .inl hq.1
    · exact .inr (by omega)
  · rcases e with e | e
    · exact h.nb e
    · omega
theorem CkAt.wrap0 {w W : World} {k a p b : Nat} {c : Ca} {G : Nat → Prop} (h : CkAt w k a p b c G) (t2 : Touch (fun q => w.heap.size ≤ q) w W) : CkAt W k a p b c (More G w W) ∧ Touch (fun q => q = b) w W := by
  have hb := h.bl
  have s2 := t2.size
  refine ⟨((h.shrink).touch t2 (fun e => by omega) (fun q hq e => by omega)).grow (fun q hq => .inl hq.1) (fun e => ?_), (Touch.refl (fun q => q = b) w).trans t2 (fun q hq e => by omega)⟩
  rcases e with e | e
  · exact h.nb e
  · omega

theorem bud_at {t : Co} {i : Nat} {s : Sp} (h : t.lv[i]? = some s) : bud t i = s.f := by unfold bud; rw [h]
def CkN (k a p b : Nat) (c : Ca) (G : Nat → Prop) (r : (St × Bool) × Int) (w : World) (e : Ending) (w' : World) : Prop :=
  CkV k a p b c G (.tuple #[.agg #[.int .i64 r.1.1.lv, .int .i64 r.1.1.fr, .int .i64 r.1.1.le, .int .i64 r.1.1.du], .bool r.1.2, .int .i64 r.2]) w e w'
def ElN (r : (St × Bool) × Int) (w : World) (e : Ending) (w' : World) : Prop := e = .returned (.tuple #[.agg #[.int .i64 r.1.1.lv, .int .i64 r.1.1.fr, .int .i64 r.1.1.le, .int .i64 r.1.1.du], .bool r.1.2, .int .i64 r.2]) ∧ Touch (fun _ => False) w w'
end Go.Proofs.Ytlcefchbfjfifaa
end

section
namespace Go.Proofs.Ytlcefchbfjfifaa
open Go.RowKit Go.ChangeShapes Go.WideShapes Go.ChangeAt Go.Deep Cal
set_option maxHeartbeats 4000000
set_option maxRecDepth 100000
set_option linter.unusedVariables false
section
variable {H : Type} {enc : TypeId × Value → H} {w : World} {spare : Nat → Bool} {held : Bool}
theorem elem_level {fuel : Nat} {cs : List Value} {x : DataW H × List MemPlace} (h : DataW.trod enc Try.prog w 0 spare held fuel 120 cs = some x) : ∃ s : Sp, cs = spC s ∧ True := by
  obtain ⟨ys, n, _, _, hlen, hyl, hf⟩ := DataW.trod_struct Try.underlying120 h
  rw [show Try.prog.cellsOf 120 = 2 from by kernel_rfl] at hlen
  match cs, hlen, ys, hyl with
  | [c0, c1], _, [y0, y1], _ =>
    have k0 := hf 0 _ rfl; have k1 := hf 1 _ rfl
    have z2 : Try.prog.cellsOf 2 = 1 := by kernel_rfl
    have z3 : Try.prog.cellsOf 3 = 1 := by kernel_rfl
    simp [z2, z3] at k0 k1
    obtain ⟨n0, e0, o0⟩ := elem_i64c Try.underlying2 k0
    obtain ⟨n1, e1, o1⟩ := elem_i64c Try.underlying3 k1
    injection e0 with e0 _; injection e1 with e1 _
    subst e0 e1
    exact ⟨⟨n0, n1⟩, rfl, trivial⟩
/-- A field that is a row of levels. -/
theorem field_levels {fuel : Nat} {v : Value} {x : DataW H × List MemPlace} (h : DataW.trod enc Try.prog w 0 spare held fuel 31 [v] = some x) :
    ∃ A c, ∃ l : List Sp, v = .slice A l.length c ∧ SpR w (fun k => k < w.heap.size) A l.length l ∧ l.length ≤ c ∧ c ≤ maxLen := by
  have hv : ∃ A n c, v = .slice A n c := by
    rcases open_slice Try.underlying31 h with ⟨hcs, _⟩ | ⟨a, len, cap, m, k, D, Pl, hcs, _⟩
    · injection hcs with hcs _; exact ⟨_, _, _, hcs⟩
    · injection hcs with hcs _; exact ⟨_, _, _, hcs⟩
  obtain ⟨A, n, c, rfl⟩ := hv
  obtain ⟨l, hl, ho, -, h1, h2, h3, h4⟩ := open_list spC (fun _ => True) (H := H) (enc := enc) (P := Try.prog) (w := w) (spare := spare) (held := held) (d := x.1) (ps := x.2) Try.underlying31 (sz := 2) (by kernel_rfl) (by decide) (fun _ _ _ hx => elem_level hx) A n c rfl ⟨fuel, by simpa [Value.cells] using h⟩
  subst hl
  exact ⟨A, c, l, rfl, ⟨rfl, h4⟩, h2, h3⟩
theorem open_con {fuel : Nat} {cs : List Value} {x : DataW H × List MemPlace} (h : DataW.trod enc Try.prog w 0 spare held fuel 33 cs = some x) :
    ∃ (a : Co) (A : Option Addr) (c : Nat), cs = [.int .i64 a.cal, .slice A a.lv.length c, .int .i64 a.rt, .int .i64 a.bk] ∧ SpR w (fun k => k < w.heap.size) A a.lv.length a.lv ∧ a.lv.length ≤ c ∧ c ≤ maxLen := by
  obtain ⟨ys, n, _, _, hlen, hyl, hf⟩ := DataW.trod_struct Try.underlying33 h
  rw [show Try.prog.cellsOf 33 = 4 from by kernel_rfl] at hlen
  match cs, hlen, ys, hyl with
  | [c0, c1, c2, c3], _, [y0, y1, y2, y3], _ =>
    have k0 := hf 0 _ rfl; have k1 := hf 1 _ rfl; have k2 := hf 2 _ rfl; have k3 := hf 3 _ rfl
    have z0 : Try.prog.cellsOf 2 = 1 := by kernel_rfl
    have z1 : Try.prog.cellsOf 3 = 1 := by kernel_rfl
    have z3 : Try.prog.cellsOf 31 = 1 := by kernel_rfl
    simp [z0, z1, z3] at k0 k1 k2 k3
    obtain ⟨n0, e0, o0⟩ := elem_i64c Try.underlying3 k0
    obtain ⟨A, c, l, rfl, q1⟩ := field_levels k1
    obtain ⟨n2, e2, o2⟩ := elem_i64c Try.underlying3 k2
    obtain ⟨n3, e3, o3⟩ := elem_i64c Try.underlying2 k3
    injection e0 with e0 _; injection e2 with e2 _; injection e3 with e3 _
    subst e0 e2 e3
    exact ⟨⟨n0, l, n2, n3⟩, A, c, rfl, q1⟩
def stC (s : St) : List Value := [.int .i64 s.lv, .int .i64 s.fr, .int .i64 s.le, .int .i64 s.du]
def St.in64 (s : St) : Prop := (-9223372036854775808 ≤ s.lv ∧ s.lv ≤ 9223372036854775807) ∧ (-9223372036854775808 ≤ s.fr ∧ s.fr ≤ 9223372036854775807) ∧ (-9223372036854775808 ≤ s.le ∧ s.le ≤ 9223372036854775807) ∧ (-9223372036854775808 ≤ s.du ∧ s.du ≤ 9223372036854775807)
end
end Go.Proofs.Ytlcefchbfjfifaa
end

section
namespace Go.Proofs.Ytlcefchbfjfifaa
open Go.RowKit Go.ChangeShapes Go.WideShapes Go.ChangeAt Go.Deep Cal
set_option maxHeartbeats 4000000
set_option maxRecDepth 100000
set_option linter.unusedVariables false
section
variable {H : Type} {enc : TypeId × Value → H} {w : World} {spare : Nat → Bool} {held : Bool}
theorem elem_u64m {P : Program} {e : TypeId} (he : P.underlying e = some (.int .u64)) {fuel : Nat} {cs : List Value} {x : DataW H × List MemPlace} (h : DataW.trod enc P w 0 spare held fuel e cs = some x) : ∃ n : Nat, cs = [.int .u64 n] ∧ n < 18446744073709551616 := by
  obtain ⟨n, rfl, _, hw⟩ := DataW.trod_int he h
  simp [Lit.wf, IntKind.min, IntKind.max, IntKind.signed, IntKind.bits] at hw
  exact ⟨n.toNat, by rw [Int.toNat_of_nonneg (by omega)], by omega⟩
/-- Its numbers are those of their types. -/
def Cm.in64 (c : Cm) : Prop := (-9223372036854775808 ≤ c.at_ ∧ c.at_ ≤ 9223372036854775807) ∧ (-9223372036854775808 ≤ c.cal.off ∧ c.cal.off ≤ 9223372036854775807) ∧ (c.req < 256 ^ 8 ∧ c.id < 256 ^ 8)
theorem open_cmd {fuel : Nat} {cs : List Value} {x : DataW H × List MemPlace} (h : DataW.trod enc Try.prog w 0 spare held fuel 35 cs = some x) :
    ∃ (a : Cm) (A B D : Option Addr) (k m n : Nat), cs = [.int .i64 a.kind, .int .u64 a.client, .int .u64 a.req, .int .u64 a.id, .int .i64 a.con, .int .i64 a.at_, .int .i64 a.cal.off, .slice A a.cal.wk.length k, .slice B a.cal.cl.length m, .int .i64 a.tm.cal, .slice D a.tm.lv.length n, .int .i64 a.tm.rt, .int .i64 a.tm.bk] ∧
      CmR w (fun k => k < w.heap.size) a A B D ∧ a.in64 := by
  obtain ⟨ys, n, _, _, hlen, hyl, hf⟩ := DataW.trod_struct Try.underlying35 h
  rw [show Try.prog.cellsOf 35 = 13 from by kernel_rfl] at hlen
  match cs, hlen, ys, hyl with
  | [c0, c1, c2, c3, c4, c5, c6, c7, c8, c9, c10, c11, c12], _, [y0, y1, y2, y3, y4, y5, y6, y7], _ =>
    have k0 := hf 0 _ rfl; have k1 := hf 1 _ rfl; have k2 := hf 2 _ rfl; have k3 := hf 3 _ rfl; have k4 := hf 4 _ rfl; have k5 := hf 5 _ rfl; have k6 := hf 6 _ rfl; have k7 := hf 7 _ rfl
    have z0 : Try.prog.cellsOf 3 = 1 := by kernel_rfl
    have z1 : Try.prog.cellsOf 27 = 1 := by kernel_rfl
    have z2 : Try.prog.cellsOf 2 = 1 := by kernel_rfl
    have z3 : Try.prog.cellsOf 30 = 3 := by kernel_rfl
    have z4 : Try.prog.cellsOf 33 = 4 := by kernel_rfl
    simp [z0, z1, z2, z3, z4] at k0 k1 k2 k3 k4 k5 k6 k7
    obtain ⟨n0, e0, o0⟩ := elem_i64c Try.underlying3 k0
    obtain ⟨n1, e1, o1⟩ := elem_u64m Try.underlying27 k1
    obtain ⟨n2, e2, o2⟩ := elem_u64m Try.underlying27 k2
    obtain ⟨n3, e3, o3⟩ := elem_u64m Try.underlying27 k3
    obtain ⟨n4, e4, o4⟩ := elem_i64c Try.underlying3 k4
    obtain ⟨n5, e5, o5⟩ := elem_i64c Try.underlying2 k5
    obtain ⟨ca, A, B, kk, mm, e6, r6, o6⟩ := open_cal k6
    obtain ⟨tm, D, nn, e7, r7, -⟩ := open_con k7
    injection e0 with e0 _; injection e1 with e1 _; injection e2 with e2 _; injection e3 with e3 _; injection e4 with e4 _; injection e5 with e5 _
    subst e0 e1 e2 e3 e4 e5
    simp only [List.cons.injEq, and_true] at e6 e7
    obtain ⟨rfl, rfl, rfl⟩ := e6
    obtain ⟨rfl, rfl, rfl, rfl⟩ := e7
    exact ⟨⟨n0, n1, n2, n3, n4, n5, ca, tm⟩, A, B, D, kk, mm, nn, rfl, ⟨r6, r7⟩, o5, o6, by omega, by omega⟩
end
end Go.Proofs.Ytlcefchbfjfifaa
end
