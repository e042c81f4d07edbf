/- Maps of whatever keys and elements: a delete in the round of a range over them. No program in sight. -/
import Derived.Test.YtpgakkpmpnebnaaGMap
namespace Go.Proofs.Ytpgakkpmpnebnaa
open Go.RowKit Go.Maps
set_option maxHeartbeats 1000000
set_option maxRecDepth 100000
set_option linter.unusedVariables false
section
variable {P : Program} {ops : Array Oper} {rest : List Oper} {o : Oper} {a : Act} {Q : Exit → Act → World → Prop}
theorem delRangeV (w : World) (hg : o.guard = none) (m x : Operand) (t k : TypeId) (hop : o.op = Op.call { callee := Callee.builtin Builtin.delete, args := #[m, x], argTypes := #[t, k] }) (e : TypeId) (K : Keyed P k) (ht : P.underlying t = some (.map k e))
    (b r n : Nat) (f : Lit → Option Value) (left : Lit → Bool) (hm : a.eval m = .map (some b)) (h : RangeV P k w b r n f left) (key : Value) (kl : Lit) (hx : a.eval x = key) (hkey : keyOf P k key = some kl)
    (hK : ∀ w', RangeV P k w' b r n (delV f kl) (fun z => left z && !z.sameKey kl) → Touch (fun q => q = b) w w' → w'.rangeLeft b r ≤ w.rangeLeft b r → wpList P ops Q rest (a.put o.dst (.tuple #[])) w') : wpList P ops Q (o :: rest) a w := by
  obtain ⟨D, lf, cnt, hrg, hs, hl⟩ := h
  refine wpList_delete_ranges w hg m x t k hop e K ht valR b r n D lf cnt hm hrg key kl hx hkey ?_
  intro w' cnt' hrg' hc htn
  refine hK w' ⟨_, _, cnt', hrg', hs.del K hkey, fun i hi => by rw [hl i hi]⟩ (Touch.of_grownV htn.grown) ?_
  rw [hrg'.left_eq, hrg.left_eq]; exact hc
end
end Go.Proofs.Ytpgakkpmpnebnaa
