/- Keys of two numbers. -/
import Derived.Test.YtmgmjehebbggaaaGMap
import Derived.Test.YtmgmjehebbggaaaProg
import Derived.DeepKeys4
namespace Go.Proofs.Ytmgmjehebbggaaa
open Go.RowKit Go.Maps
set_option maxHeartbeats 4000000
set_option maxRecDepth 100000
theorem laidOut2 : laidOutB Try.prog = true := by kernel_rfl
theorem row2 : (38 : TypeId) < Try.prog.types.size := of_decide_eq_true (by kernel_rfl)
theorem wide2 : (match Try.prog.underlying 38 with | some (.array _ _) | some (.struct _) => true | _ => false) = true := by kernel_rfl
theorem law2 : Keyed Try.prog 38 := Keyed.of_law (deep_law_laid laidOut2 (m := 2) (by omega) row2 (by kernel_rfl) wide2)
theorem key2 {c q : Nat} (hc : c < 18446744073709551616) (hq : q < 18446744073709551616) : ∃ kl, keyOf Try.prog 38 (.agg #[.int .u64 c, .int .u64 q]) = some kl := by
  have h1 : (Lit.int .u64 (c : Int)).wf = true := by simp [Lit.wf, IntKind.min, IntKind.max, IntKind.signed, IntKind.bits]; omega
  have h2 : (Lit.int .u64 (q : Int)).wf = true := by simp [Lit.wf, IntKind.min, IntKind.max, IntKind.signed, IntKind.bits]; omega
  have z : Try.prog.cellsOf 38 = 2 := by kernel_rfl
  have z1 : Try.prog.cellsOf 29 = 1 := by kernel_rfl
  have kt : Try.prog.keyType 38 = true := by kernel_rfl
  obtain ⟨d, hd⟩ : ∃ d, Try.prog.types.size + 1 = d + 2 := ⟨Try.prog.types.size - 1, by have h : 0 < Try.prog.types.size := Nat.lt_of_le_of_lt (Nat.zero_le _) row2; omega⟩
  have hu := Try.underlying38
  have hu1 := Try.underlying29
  generalize hP : Try.prog = P at *
  have hform : (Value.agg #[.int .u64 (c : Int), .int .u64 (q : Int)]).formed P 38 = true := by
    simp [Value.formed, hu, z]
  have e0 : P.keyLits (d + 1) 29 [.int .u64 (c : Int)] = some [.int .u64 c] := by
    simp only [Program.keyLits, hu1]
    rw [if_pos ⟨trivial, h1⟩]
  have e1 : P.keyLits (d + 1) 29 [.int .u64 (q : Int)] = some [.int .u64 q] := by
    simp only [Program.keyLits, hu1]
    rw [if_pos ⟨trivial, h2⟩]
  have e2 : P.keyLits (d + 2) 38 [.int .u64 (c : Int), .int .u64 (q : Int)] = some [.int .u64 c, .int .u64 q] := by
    rw [Program.keyLits.eq_def]
    simp only [hu]
    simp only [List.length_cons, List.length_nil, z, z1, Nat.zero_add, if_true, Nat.reduceAdd]
    rw [show List.range 2 = [0, 1] from rfl]
    simp [e0, e1]
  refine ⟨.string (keyBytes [.int .u64 c, .int .u64 q]), ?_⟩
  simp only [keyOf, hu, kt, hform, Bool.and_self, if_true]
  rw [hd, show (Value.agg #[Value.int .u64 (c : Int), .int .u64 (q : Int)]).cells.toList = [.int .u64 (c : Int), .int .u64 (q : Int)] from rfl, e2]
  rfl
end Go.Proofs.Ytmgmjehebbggaaa
