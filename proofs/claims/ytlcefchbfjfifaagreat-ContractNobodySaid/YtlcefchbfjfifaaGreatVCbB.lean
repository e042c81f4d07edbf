/- What calendar.Due's loop holds. -/
import Derived.Test.YtlcefchbfjfifaaGreatVCalZ
import Derived.Test.YtlcefchbfjfifaaGreatVCalT
namespace Go.Proofs.YtlcefchbfjfifaaGreat
open Go.RowKit Cal
set_option maxHeartbeats 4000000
set_option maxRecDepth 100000
set_option linter.unusedVariables false

theorem KeepT.of_grown {W W' : World} {row : Option Nat} (hg : W.grownBy W' row) (hr : ∀ r, row = some r → ∃ o : Obj, W.heap[r]? = some o ∧ o.isCells = false) : KeepT (fun _ => False) W W' :=
  ⟨hg.size, fun k o hk hc _ => (grownBy_keeps_cells hg hr hk hc).trans hk⟩
section
variable {w w' : World} {F G T : Nat → Prop}
theorem SpR.keep {A : Option Addr} {n : Nat} {l : List Sp} (h : SpR w F A n l) (hk : KeepT T w w') (hF : ∀ q, F q → ¬ T q) : SpR w' F A n l :=
  ⟨h.1, h.2.1, fun hn => by
    obtain ⟨g, off, e, hl, hf, hc⟩ := h.2.2 hn
    exact ⟨g, off, e, Nat.lt_of_lt_of_le hl hk.1, hf, fun j u hj => hk.cell (hF g hf) (hc j u hj)⟩⟩
theorem Rd.keep {A : Option Addr} {n : Nat} {xs : List Value} (h : Rd w F A n xs) (hk : KeepT T w w') (hF : ∀ q, F q → ¬ T q) : Rd w' F A n xs :=
  ⟨h.1, fun hn => by
    obtain ⟨g, off, e, hl, hf, hc⟩ := h.2 hn
    exact ⟨g, off, e, Nat.lt_of_lt_of_le hl hk.1, hf, fun j u hj => hk.cell (hF g hf) (hc j u hj)⟩⟩
theorem CkAt.keep {k a p b : Nat} {c : Ca} (h : CkAt w k a p b c G) (hk : KeepT T w w') (hb : ¬ T b) (hG : ∀ q, G q → ¬ T q) : CkAt w' k a p b c G := by
  obtain ⟨B, m, ha⟩ := h.al
  obtain ⟨A, n, hp⟩ := h.pn.pl
  refine ⟨hk.blk h.blk (hG _ h.gk), ⟨B, m, ha.keep (hG _ h.ga) hG hk⟩, ⟨⟨A, n, hk.blk hp.blk (hG _ h.pn.gG), hp.row.keep hk hG⟩, ?_, h.pn.gG, h.pn.nb, h.pn.wk⟩, h.gk, h.ga, h.ok⟩
  rcases h.pn.lz with ⟨sm, ak, h1⟩ | ⟨sm, ak, A', c', h1, h2⟩
  · exact .inl ⟨sm, ak, hk.blk h1 hb⟩
  · exact .inr ⟨sm, ak, A', c', hk.blk h1 hb, h2.keep hk hG⟩
/-- Only what lies there already. -/
theorem CkAt.shrink {k a p b : Nat} {c : Ca} (h : CkAt w k a p b c G) : CkAt w k a p b c (fun q => G q ∧ q < w.heap.size) := by
  obtain ⟨B, m, ha⟩ := h.al
  obtain ⟨A, n, hp⟩ := h.pn.pl
  refine ⟨h.blk, ⟨B, m, ha.blk, ha.row.near⟩, ⟨⟨A, n, hp.blk, hp.row.near⟩, ?_, ⟨h.pn.gG, hp.blk.lt⟩, fun e => h.nb e.1, h.pn.wk⟩, ⟨h.gk, h.blk.lt⟩, ⟨h.ga, ha.blk.lt⟩, h.ok⟩
  rcases h.pn.lz with ⟨sm, ak, h1⟩ | ⟨sm, ak, A', c', h1, h2⟩
  · exact .inl ⟨sm, ak, h1⟩
  · exact .inr ⟨sm, ak, A', c', h1, h2.near_⟩
end
/-- What Due has between two rounds: v is what is left of the budget; r0, r1 the results. -/
structure DueI (w wL : World) (k a p b : Nat) (c : Ca) (GL : Nat → Prop) (v r0 r1 : Int) (W : World) : Prop where
  kb : Blk W w.heap.size 80 #[.pointer (some ⟨k, 0, none⟩)]
  bb : Blk W (w.heap.size + 1) 2 #[.int .i64 v]
  c0 : Blk W (w.heap.size + 2) 2 #[.int .i64 r0]
  c1 : Blk W (w.heap.size + 3) 27 #[.int .i64 r1]
  ck : CkAt W k a p b c (More GL wL W)
  t : Touch (fun q => q = b) w W
  sz : wL.heap.size ≤ W.heap.size
/-- The blocks that the loop's body writes. -/
def DueT (w : World) (b : Nat) : Nat → Prop := fun q => q = b ∨ (w.heap.size + 1 ≤ q ∧ q ≤ w.heap.size + 3)
section
variable {w wL W W' : World} {k a p b : Nat} {c : Ca} {GL S : Nat → Prop} {v r0 r1 : Int}
theorem DueI.touch (h : DueI w wL k a p b c GL v r0 r1 W) (ht : Touch (fun _ => False) W W') : DueI w wL k a p b c GL v r0 r1 W' := by
  have hs := ht.size
  refine ⟨ht.blk h.kb (fun e => e), ht.blk h.bb (fun e => e), ht.blk h.c0 (fun e => e), ht.blk h.c1 (fun e => e), ?_, h.t.trans ht (fun _ _ e => e.elim), Nat.le_trans h.sz hs⟩
  refine (h.ck.none ht).grow (fun q hq => ?_) (fun e => ?_)
  · rcases hq with hq | hq
    · exact .inl hq
    · exact .inr (by omega)
  · rcases e with e | e
    · exact h.ck.nb (.inl e)
    · have := h.ck.bl; exact h.ck.nb (.inr (by omega))
theorem DueI.rebase (h : DueI w wL k a p b c GL v r0 r1 W) (hbw : b < w.heap.size) (hw : w.heap.size ≤ wL.heap.size) (hn : ¬ GL b) : DueI w W k a p b c (More GL wL W) v r0 r1 W :=
  ⟨h.kb, h.bb, h.c0, h.c1, h.ck.grow (fun q hq => .inl hq) (fun e => by
    rcases e with (e | e) | e
    · exact hn e
    · omega
    · omega), h.t, Nat.le_refl _⟩
theorem DueI.grown (h : DueI w wL k a p b c GL v r0 r1 W) (hw : w.heap.size ≤ wL.heap.size) {row : Option Nat} (hg : W.grownBy W' row) (hr : ∀ r, row = some r → wL.heap.size ≤ r ∧ ∃ o : Obj, W.heap[r]? = some o ∧ o.isCells = false) : DueI w wL k a p b c GL v r0 r1 W' := by
  have hk := KeepT.of_grown hg (fun r e => (hr r e).2)
  have hs := hk.1
  refine ⟨hk.blk h.kb (fun e => e), hk.blk h.bb (fun e => e), hk.blk h.c0 (fun e => e), hk.blk h.c1 (fun e => e), ?_, ?_, Nat.le_trans h.sz hs⟩
  · refine (h.ck.keep hk (fun e => e) (fun _ _ e => e)).grow (fun q hq => ?_) (fun e => ?_)
    · rcases hq with hq | hq
      · exact .inl hq
      · exact .inr (by omega)
    · rcases e with e | e
      · exact h.ck.nb (.inl e)
      · have := h.ck.bl; exact h.ck.nb (.inr (by omega))
  · refine h.t.trans (S' := fun q => wL.heap.size ≤ q) ⟨hg.os, hg.tape, hg.output, hg.size, fun q hq hn => hg.block q hq (fun e => hn (hr q e.symm).1)⟩ (fun q hq e => by omega)
/-- Behind a call that may have filled the lazy cell. -/
theorem DueI.get (h : DueI w wL k a p b c GL v r0 r1 W) (hbw : b < w.heap.size) (ht : Touch (fun q => q = b) W W') (hc : CkAt W' k a p b c (More (More GL wL W) W W')) : DueI w wL k a p b c GL v r0 r1 W' := by
  have hs := ht.size
  exact ⟨ht.blk h.kb (by omega), ht.blk h.bb (by omega), ht.blk h.c0 (by omega), ht.blk h.c1 (by omega), hc.grow (more_trans h.sz hs) (fun e => by
    rcases e with e | e
    · exact h.ck.nb (.inl e)
    · have := h.ck.bl; exact h.ck.nb (.inr (by omega))), h.t.trans ht (fun _ _ e => e), Nat.le_trans h.sz hs⟩
theorem DueI.setB (h : DueI w wL k a p b c GL v r0 r1 W) (hG : ∀ q, GL q → ¬ DueT w b q) (hw : w.heap.size + 4 ≤ wL.heap.size) (hbw : b < w.heap.size) (v' : Int) : DueI w wL k a p b c GL v' r0 r1 (W.setCell ⟨w.heap.size + 1, 0, none⟩ (.int .i64 v')) := by
  have ht : Touch (fun q => q = w.heap.size + 1) W (W.setCell ⟨w.heap.size + 1, 0, none⟩ (.int .i64 v')) := (Touch.refl (fun q => q = w.heap.size + 1) W).set (fun _ => rfl) _
  have hM : ∀ q, More GL wL W q → ¬ q = w.heap.size + 1 := fun q hq e => by
    rcases hq with hq | hq
    · exact hG q hq (.inr (by omega))
    · omega
  refine ⟨ht.blk h.kb (by omega), by simpa using h.bb.set_ 0 (.int .i64 v'), ht.blk h.c0 (by omega), ht.blk h.c1 (by omega), ?_, h.t.set (fun e => by omega) _, by simpa using h.sz⟩
  rw [show More GL wL (W.setCell ⟨w.heap.size + 1, 0, none⟩ (.int .i64 v')) = More GL wL W by funext q; simp [More]]
  exact h.ck.touch ht (by omega) hM
theorem DueI.setR (h : DueI w wL k a p b c GL v r0 r1 W) (hG : ∀ q, GL q → ¬ DueT w b q) (hw : w.heap.size + 4 ≤ wL.heap.size) (hbw : b < w.heap.size) (d e : Int) : DueI w wL k a p b c GL v d e ((W.setCell ⟨w.heap.size + 2, 0, none⟩ (.int .i64 d)).setCell ⟨w.heap.size + 3, 0, none⟩ (.int .i64 e)) := by
  have ht : Touch (fun q => w.heap.size + 2 ≤ q ∧ q ≤ w.heap.size + 3) W ((W.setCell ⟨w.heap.size + 2, 0, none⟩ (.int .i64 d)).setCell ⟨w.heap.size + 3, 0, none⟩ (.int .i64 e)) := ((Touch.refl (fun q => w.heap.size + 2 ≤ q ∧ q ≤ w.heap.size + 3) W).set (fun _ => by omega) _).set (fun _ => by omega) _
  have hM : ∀ q, More GL wL W q → ¬ (w.heap.size + 2 ≤ q ∧ q ≤ w.heap.size + 3) := fun q hq e => by
    rcases hq with hq | hq
    · exact hG q hq (.inr (by omega))
    · omega
  refine ⟨ht.blk h.kb (by omega), ht.blk h.bb (by omega), ?_, ?_, ?_, (h.t.set (fun e => by omega) _).set (fun e => by omega) _, by simpa using h.sz⟩
  · have := (h.c0.set_ 0 (.int .i64 d)).far (p := ⟨w.heap.size + 3, 0, none⟩) (by simp) (.int .i64 e)
    simpa using this
  · have := (h.c1.far (p := ⟨w.heap.size + 2, 0, none⟩) (by simp) (.int .i64 d)).set_ 0 (.int .i64 e)
    simpa using this
  · rw [show More GL wL ((W.setCell ⟨w.heap.size + 2, 0, none⟩ (.int .i64 d)).setCell ⟨w.heap.size + 3, 0, none⟩ (.int .i64 e)) = More GL wL W by funext q; simp [More]]
    exact h.ck.touch ht (by omega) hM
end
end Go.Proofs.YtlcefchbfjfifaaGreat
