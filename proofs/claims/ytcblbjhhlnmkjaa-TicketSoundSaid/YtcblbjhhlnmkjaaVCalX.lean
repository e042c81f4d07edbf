/- law10: Light, lives. law10: what stands between two calls of a law (written by genlaw10.py) Package calendar: Open. -/
import Derived.Test.YtcblbjhhlnmkjaaVCbC
import Derived.Test.YtcblbjhhlnmkjaaCalG
import Derived.Test.YtcblbjhhlnmkjaaVCalY
section
namespace Go.Proofs.Ytcblbjhhlnmkjaa
open Go.RowKit Cal
set_option maxHeartbeats 4000000
set_option maxRecDepth 100000
set_option linter.unusedVariables false

theorem light10_any (A B : Option Addr) (k m n n2 : Nat) (o : Int) (w : World) :
    Calls Try.prog 48 #[.agg #[.int .i64 o, .slice A n k, .slice B n2 m]] w fun e w' => e = .returned (.bool (decide (n ≤ 60) && decide (n2 ≤ 60))) ∧ Touch (fun _ => False) w w' := by
  have HT := Lib.hid ((Touch.refl (fun _ => False) w).alloc (.cells #[.int .i64 o, .slice A n k, .slice B n2 m] 25))
  have HV := Lib.hid (show decide (n ≤ 60) = decide ((n : Int) ≤ 60) by simp; omega)
  have HV2 := Lib.hid (show decide (n2 ≤ 60) = decide ((n2 : Int) ≤ 60) by simp; omega)
  by_cases h1 : (n : Int) ≤ 60
  · by_cases h2 : (n2 : Int) ≤ 60
    · go_enter Try.func48, Try.ntmps48
      go_wp2
      go_ret
      exact ⟨by rw [HV.out, HV2.out]; simp [h1, h2], HT.out⟩
    · go_enter Try.func48, Try.ntmps48
      go_wp2
      go_ret
      exact ⟨by rw [HV.out, HV2.out]; simp [h1, h2], HT.out⟩
  · go_enter Try.func48, Try.ntmps48
    go_wp2
    go_ret
    exact ⟨by rw [HV.out, HV2.out]; simp; omega, HT.out⟩
def cL : Ca := ⟨0, [⟨10, 20⟩], []⟩
theorem cL_ok : cL.Ok := ⟨by simp [cL], ⟨by simp [cL, Row], by simp [cL], by simp [cL]⟩, by simp [cL, Row], by simp [cL]⟩
theorem cL_due1 : cL.due 0 5 = (15, 0) := by
  refine due_of cL (by decide) (by decide) ⟨by omega, by decide, by decide⟩ (by omega)
theorem cL_due2 : cL.due 15 6 = (604811, 0) := by
  refine due_of cL (by decide) (by decide) (.of_least (by omega) ?_ ?_) (by omega)
  · rw [← cL_ok.count (by omega) (by omega)]; decide
  · rw [← cL_ok.count (by omega) (by omega)]; decide
end Go.Proofs.Ytcblbjhhlnmkjaa
end

section
namespace Go.Proofs.Ytcblbjhhlnmkjaa
open Go.RowKit Cal
set_option maxHeartbeats 4000000
set_option maxRecDepth 100000
set_option linter.unusedVariables false

structure LawC (w0 W : World) (g k a p b : Nat) (c : Ca) (A B : Option Addr) (n m : Nat) (G : Nat → Prop) : Prop where
  ck : CkAt W k a p b c G
  t : Touch (fun _ => False) w0 W
  bx : Blk W g 25 #[.int .i64 c.off, .slice A c.wk.length n, .slice B c.cl.length m]
  cal : CaR w0 (fun q => q < w0.heap.size) c A B
  gl : g < w0.heap.size
  b1 : w0.heap.size ≤ b
section
variable {w0 W0 W W' : World} {g k a p b n m : Nat} {c : Ca} {A B : Option Addr} {G : Nat → Prop}
theorem LawC.start (ht : Touch (fun _ => False) w0 W0) (hb : Blk w0 g 25 #[.int .i64 c.off, .slice A c.wk.length n, .slice B c.cl.length m]) (hc : CaR w0 (fun q => q < w0.heap.size) c A B) (ck : CkAt W k a p b c G) (b1 : W0.heap.size ≤ b) (t1 : Touch (fun _ => False) W0 W) : LawC w0 W g k a p b c A B n m G :=
  ⟨ck, ht.trans t1 (fun _ _ e => e), t1.blk (ht.blk hb (fun e => e)) (fun e => e), hc, hb.lt, Nat.le_trans ht.size b1⟩
theorem LawC.get (h : LawC w0 W g k a p b c A B n m G) (ck : CkAt W' k a p b c (More G W W')) (t : Touch (fun q => q = b) W W') : LawC w0 W' g k a p b c A B n m (More G W W') :=
  ⟨ck, h.t.trans t (fun q hq e => by have := h.b1; omega), t.blk h.bx (by have := h.b1; have := h.gl; omega), h.cal, h.gl, h.b1⟩
theorem LawC.none (h : LawC w0 W g k a p b c A B n m G) (t : Touch (fun _ => False) W W') : LawC w0 W' g k a p b c A B n m G :=
  ⟨h.ck.none t, h.t.trans t (fun _ _ e => e), t.blk h.bx (fun e => e), h.cal, h.gl, h.b1⟩
theorem LawC.calr (h : LawC w0 W g k a p b c A B n m G) : CaR W (fun q => q < w0.heap.size) c A B := h.cal.touch h.t (fun _ _ e => e)
theorem LawC.cells (h : LawC w0 W g k a p b c A B n m G) : W.cell? ⟨g, 0, .none⟩ = some (.int .i64 c.off) ∧ W.cell? ⟨g, 1, .none⟩ = some (.slice A c.wk.length n) ∧ W.cell? ⟨g, 2, .none⟩ = some (.slice B c.cl.length m) := by
  have q0 := h.bx.cell 0; have q1 := h.bx.cell 1; have q2 := h.bx.cell 2
  simp at q0 q1 q2
  exact ⟨q0, q1, q2⟩
end
end Go.Proofs.Ytcblbjhhlnmkjaa
end

section
namespace Go.Proofs.Ytcblbjhhlnmkjaa
open Go.RowKit Cal
set_option maxHeartbeats 4000000
set_option maxRecDepth 100000
set_option linter.unusedVariables false
attribute [local irreducible] wpPlan

end Go.Proofs.Ytcblbjhhlnmkjaa
end
