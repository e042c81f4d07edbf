/- What somebody says, among the arguments; PollNobody's walk in the frame's words. -/
import Derived.Test.YtbleeejhejkkcaaArgs
import Derived.Test.YtbleeejhejkkcaaPolF
namespace Go.Proofs.Ytbleeejhejkkcaa
open Go.RowKit Go.ChangeShapes Go.WideShapes Go.ChangeAt Go.Deep
set_option maxHeartbeats 4000000
set_option maxRecDepth 100000
set_option linter.unusedVariables false
structure SaidV where
  node : Int
  yes : Bool
def SaidV.cells (s : SaidV) : List Value := [.int .i64 s.node, .bool s.yes]
theorem elem_said {H : Type} {enc : TypeId × Value → H} {w : World} {spare : Nat → Bool} {held : Bool} {fuel : Nat} {cs : List Value} {x : DataW H × List MemPlace} (h : DataW.trod enc Try.prog w 0 spare held fuel 31 cs = some x) : ∃ s : SaidV, cs = s.cells ∧ inI s.node := by
  obtain ⟨ys, n, _, _, hlen, hyl, hf⟩ := DataW.trod_struct Try.underlying31 h
  rw [show Try.prog.cellsOf 31 = 2 from by kernel_rfl] at hlen
  match cs, hlen, ys, hyl with
  | [c0, c1], _, [y0, y1], _ =>
    have k0 := hf 0 _ rfl; have k1 := hf 1 _ rfl
    have z0 : Try.prog.cellsOf 3 = 1 := by kernel_rfl
    have z1 : Try.prog.cellsOf 4 = 1 := by kernel_rfl
    simp [z0, z1] at k0 k1
    obtain ⟨a, e0, _, hw⟩ := DataW.trod_int Try.underlying3 k0
    obtain ⟨b, e1, _⟩ := DataW.trod_bool Try.underlying4 k1
    injection e0 with e0 _; injection e1 with e1 _
    subst e0 e1
    exact ⟨⟨a, b⟩, rfl, inI_of hw⟩
theorem walk_PollNobody {w : World} (s : SaidV) (hs : inI s.node) :
    Calls Try.prog 6 #[.agg s.cells.toArray] w fun e w' => e = .returned (.bool true) ∧ Below w.heap.size w w' := nobody_walk s.node s.yes
end Go.Proofs.Ytbleeejhejkkcaa
