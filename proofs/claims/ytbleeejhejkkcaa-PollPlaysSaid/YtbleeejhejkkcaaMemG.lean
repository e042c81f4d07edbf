/- The walk of MemberSteps. -/
import Derived.Test.YtbleeejhejkkcaaMemF
import Derived.Test.YtbleeejhejkkcaaArgs
namespace Go.Proofs.Ytbleeejhejkkcaa
open Go.RowKit Go.ChangeShapes Go.WideShapes Go.Deep
set_option maxHeartbeats 4000000
set_option maxRecDepth 100000
set_option linter.unusedVariables false

theorem bd_i64 {n : Int} (h : (Lit.int .i64 n).wf = true) : -9223372036854775808 ≤ n ∧ n ≤ 9223372036854775807 := by
  simp [Lit.wf, IntKind.min, IntKind.max, IntKind.signed, IntKind.bits] at h; omega
section
variable {H : Type} {enc : TypeId × Value → H} {P : Program} {w : World} {spare : Nat → Bool} {held : Bool}
theorem elem_i64 {e : TypeId} (he : P.underlying e = some (.int .i64)) {fuel : Nat} {cs : List Value} {x : DataW H × List MemPlace} (h : DataW.trod enc P w 0 spare held fuel e cs = some x) :
    ∃ c : Int, cs = [I64 c] ∧ (-9223372036854775808 ≤ c ∧ c ≤ 9223372036854775807) := by
  obtain ⟨n, rfl, _, hw⟩ := DataW.trod_int he h
  exact ⟨n, rfl, bd_i64 hw⟩
/-- A []int. -/
theorem open_i64s {t e : TypeId} {v : Value} {d : DataW H} {ps : List MemPlace} (ht : P.underlying t = some (.slice e)) (he : P.underlying e = some (.int .i64)) (hsz : P.cellsOf e = 1)
    (A : Option Addr) (n c : Nat) (hv : v = .slice A n c) (h : DataW.Trod enc P w 0 spare held t v d ps) :
    ∃ l : List Int, l.length = n ∧ (∀ x ∈ l, -9223372036854775808 ≤ x ∧ x ≤ 9223372036854775807) ∧ (A = none → c = 0) ∧ n ≤ c ∧ c ≤ maxLen ∧ Rd w (fun k => k < w.heap.size) A n (l.map I64) := by
  obtain ⟨l, h1, ho, _, h2, h3, h4, h5⟩ := open_list (fun c => [I64 c]) _ ht hsz (by decide) (fun _ _ _ hx => elem_i64 he hx) A n c hv h
  rw [flat_map1] at h5
  exact ⟨l, h1, ho, h2, h3, h4, h5.rd⟩
end

theorem rowOf_len (p : Nat → Bool) : (Row.rowOf p).length ≤ 7 := by
  rw [Row.rowOf, List.length_map]
  exact Nat.le_trans (List.length_filter_le _ _) (by simp)
theorem withL_len (l : List Int) (n : Int) : (withL l n).length ≤ 7 := by
  unfold withL; split
  · exact rowOf_len _
  · simp
theorem lessL_len (l : List Int) (n : Int) : (lessL l n).length ≤ 7 := by
  unfold lessL; split
  · exact rowOf_len _
  · simp

end Go.Proofs.Ytbleeejhejkkcaa
