/- law10: what stands between two calls of a law (written by genlaw10.py) -/
import Derived.Test.YtcblbjhhlnmkjaaGreatCbD
namespace Go.Proofs.YtcblbjhhlnmkjaaGreat
open Go.RowKit Cal
set_option maxHeartbeats 4000000
set_option maxRecDepth 100000
set_option linter.unusedVariables false

structure LawC (w0 W : World) (g k a p b : Nat) (c : Ca) (A B : Option Addr) (n m : Nat) (G : Nat → Prop) : Prop where
  ck : CkAt W k a p b c G
  t : Touch (fun _ => False) w0 W
  bx : Blk W g 24 #[.int .i64 c.off, .slice A c.wk.length n, .slice B c.cl.length m]
  cal : CaR w0 (fun q => q < w0.heap.size) c A B
  gl : g < w0.heap.size
  b1 : w0.heap.size ≤ b
section
variable {w0 W0 W W' : World} {g k a p b n m : Nat} {c : Ca} {A B : Option Addr} {G : Nat → Prop}
theorem LawC.start (ht : Touch (fun _ => False) w0 W0) (hb : Blk w0 g 24 #[.int .i64 c.off, .slice A c.wk.length n, .slice B c.cl.length m]) (hc : CaR w0 (fun q => q < w0.heap.size) c A B) (ck : CkAt W k a p b c G) (b1 : W0.heap.size ≤ b) (t1 : Touch (fun _ => False) W0 W) : LawC w0 W g k a p b c A B n m G :=
  ⟨ck, ht.trans t1 (fun _ _ e => e), t1.blk (ht.blk hb (fun e => e)) (fun e => e), hc, hb.lt, Nat.le_trans ht.size b1⟩
theorem LawC.get (h : LawC w0 W g k a p b c A B n m G) (ck : CkAt W' k a p b c (More G W W')) (t : Touch (fun q => q = b) W W') : LawC w0 W' g k a p b c A B n m (More G W W') :=
  ⟨ck, h.t.trans t (fun q hq e => by have := h.b1; omega), t.blk h.bx (by have := h.b1; have := h.gl; omega), h.cal, h.gl, h.b1⟩
theorem LawC.none (h : LawC w0 W g k a p b c A B n m G) (t : Touch (fun _ => False) W W') : LawC w0 W' g k a p b c A B n m G :=
  ⟨h.ck.none t, h.t.trans t (fun _ _ e => e), t.blk h.bx (fun e => e), h.cal, h.gl, h.b1⟩
theorem LawC.calr (h : LawC w0 W g k a p b c A B n m G) : CaR W (fun q => q < w0.heap.size) c A B := h.cal.touch h.t (fun _ _ e => e)
theorem LawC.cells (h : LawC w0 W g k a p b c A B n m G) : W.cell? ⟨g, 0, .none⟩ = some (.int .i64 c.off) ∧ W.cell? ⟨g, 1, .none⟩ = some (.slice A c.wk.length n) ∧ W.cell? ⟨g, 2, .none⟩ = some (.slice B c.cl.length m) := by
  have q0 := h.bx.cell 0; have q1 := h.bx.cell 1; have q2 := h.bx.cell 2
  simp at q0 q1 q2
  exact ⟨q0, q1, q2⟩
end
end Go.Proofs.YtcblbjhhlnmkjaaGreat
