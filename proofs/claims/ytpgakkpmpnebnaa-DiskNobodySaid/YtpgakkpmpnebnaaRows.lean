/-
  No cell of these rows narrows 'for every input' (looked for: loops, veiled, ifaces, maps, wideKeys, modest, calm, conditions, laid).
  DERIVED. THE GIVEN ROWS OF THIS SEAT. 8 by the template 'for every input the law returns true; each argument reads behind the call as it read before'; 0 by the template 'total and deterministic' (their statements: YtpgakkpmpnebnaaTotals.lean).
  GIVEN WITH THE SEED: the statements are not yours to turn. If you find one false, say at which input.
  Laid BY PROGRAM, IN A SANDBOX (cutbox-rows.mjs): the forced cells as the released guide's own fill.sh prints them over the translation 40bf940cefb78228… (all of the seat's roots in one cut). By AI agents, Wed Nov 11 2026. No macro, syntax, notation, axiom, sorry.
-/
import Derived.Test.YtpgakkpmpnebnaaChecked
import GoSem.Claim
import GoSem.ClaimJoined
import GoSem.ClaimMapViews
import Derived.JoinedTies
import Derived.KernelRfl
namespace Go.Proofs.Ytpgakkpmpnebnaa
/- THE CELL 'sum', in the pinned program and in every row, IS THE sha256 OF THE DUMP (.gsa) THAT YtpgakkpmpnebnaaProg.lean LOADS. Nothing in Lean hashes anything: it is a label: what it is worth is what the hold of that sum in a sandbox is worth. -/
noncomputable def Try.pinned : Pinned := { name := "ytpgakkpmpnebnaa", sum := "40bf940cefb78228d0d65967212f63c2499375b1fc0a449bb2901d6d37d8ebc8", checked := Try.checked }
namespace Rows
def none {H : Type} : Left H := { results := [], args := [] }

/-- 'curfewlaw31.ProgressAgreed': WHATEVER THE INPUT: true; the input reads as it did. -/
def progressAgreedSpec : ChangeSpec := { name := "progressAgreed", fn := fun _ => fun
  | [d1, d2, d3, d4] => { results := [.lit (.bool true)], args := [d1, d2, d3, d4] }
  | _ => none }
def progressAgreedRow : OpenClaim := { program := "ytpgakkpmpnebnaa", sum := "40bf940cefb78228d0d65967212f63c2499375b1fc0a449bb2901d6d37d8ebc8", func := "curfew/curfewlaw31.ProgressAgreed", spec := "progressAgreed", unfollowed := true, recurses := true, apart := false }
def ProgressAgreedSaid : Prop := progressAgreedRow.holds Try.pinned (OpenSpec.ofChange progressAgreedSpec)

/-- ITS FALSE NEIGHBOUR: 'it returns false'. Refute it at one input. -/
def progressAgreedWrong : ChangeSpec := { name := "progressAgreed", fn := fun _ => fun
  | [d1, d2, d3, d4] => { results := [.lit (.bool false)], args := [d1, d2, d3, d4] }
  | _ => none }
def ProgressAgreedWrongFalsely : Prop := progressAgreedRow.holds Try.pinned (OpenSpec.ofChange progressAgreedWrong)

/-- 'curfewlaw31.ProgressRises': WHATEVER THE INPUT: true; the input reads as it did. -/
def progressRisesSpec : ChangeSpec := { name := "progressRises", fn := fun _ => fun
  | [d1, d2, d3] => { results := [.lit (.bool true)], args := [d1, d2, d3] }
  | _ => none }
def progressRisesRow : OpenClaim := { program := "ytpgakkpmpnebnaa", sum := "40bf940cefb78228d0d65967212f63c2499375b1fc0a449bb2901d6d37d8ebc8", func := "curfew/curfewlaw31.ProgressRises", spec := "progressRises", unfollowed := true, recurses := true, apart := false }
def ProgressRisesSaid : Prop := progressRisesRow.holds Try.pinned (OpenSpec.ofChange progressRisesSpec)

/-- ITS FALSE NEIGHBOUR: 'it returns false'. Refute it at one input. -/
def progressRisesWrong : ChangeSpec := { name := "progressRises", fn := fun _ => fun
  | [d1, d2, d3] => { results := [.lit (.bool false)], args := [d1, d2, d3] }
  | _ => none }
def ProgressRisesWrongFalsely : Prop := progressRisesRow.holds Try.pinned (OpenSpec.ofChange progressRisesWrong)

/-- 'curfewlaw31.ProgressPlays': WHATEVER THE INPUT: true; the input reads as it did. -/
def progressPlaysSpec : ChangeSpec := { name := "progressPlays", fn := fun _ => fun
  | [d1, d2, d3, d4, d5, d6] => { results := [.lit (.bool true)], args := [d1, d2, d3, d4, d5, d6] }
  | _ => none }
def progressPlaysRow : OpenClaim := { program := "ytpgakkpmpnebnaa", sum := "40bf940cefb78228d0d65967212f63c2499375b1fc0a449bb2901d6d37d8ebc8", func := "curfew/curfewlaw31.ProgressPlays", spec := "progressPlays", unfollowed := true, recurses := true, apart := false }
def ProgressPlaysSaid : Prop := progressPlaysRow.holds Try.pinned (OpenSpec.ofChange progressPlaysSpec)

/-- ITS FALSE NEIGHBOUR: 'it returns false'. Refute it at one input. -/
def progressPlaysWrong : ChangeSpec := { name := "progressPlays", fn := fun _ => fun
  | [d1, d2, d3, d4, d5, d6] => { results := [.lit (.bool false)], args := [d1, d2, d3, d4, d5, d6] }
  | _ => none }
def ProgressPlaysWrongFalsely : Prop := progressPlaysRow.holds Try.pinned (OpenSpec.ofChange progressPlaysWrong)

/-- 'curfewlaw31.ProgressNobody': WHATEVER THE INPUT: true; the input reads as it did. -/
def progressNobodySpec : ChangeSpec := { name := "progressNobody", fn := fun _ => fun
  | [d1, d2, d3] => { results := [.lit (.bool true)], args := [d1, d2, d3] }
  | _ => none }
def progressNobodyRow : OpenClaim := { program := "ytpgakkpmpnebnaa", sum := "40bf940cefb78228d0d65967212f63c2499375b1fc0a449bb2901d6d37d8ebc8", func := "curfew/curfewlaw31.ProgressNobody", spec := "progressNobody", unfollowed := true, recurses := true, apart := false }
def ProgressNobodySaid : Prop := progressNobodyRow.holds Try.pinned (OpenSpec.ofChange progressNobodySpec)

/-- ITS FALSE NEIGHBOUR: 'it returns false'. Refute it at one input. -/
def progressNobodyWrong : ChangeSpec := { name := "progressNobody", fn := fun _ => fun
  | [d1, d2, d3] => { results := [.lit (.bool false)], args := [d1, d2, d3] }
  | _ => none }
def ProgressNobodyWrongFalsely : Prop := progressNobodyRow.holds Try.pinned (OpenSpec.ofChange progressNobodyWrong)

/-- 'curfewlaw23.DiskPlays': WHATEVER THE INPUT: true; the input reads as it did. -/
def diskPlaysSpec : ChangeSpec := { name := "diskPlays", fn := fun _ => fun
  | [d1, d2] => { results := [.lit (.bool true)], args := [d1, d2] }
  | _ => none }
def diskPlaysRow : OpenClaim := { program := "ytpgakkpmpnebnaa", sum := "40bf940cefb78228d0d65967212f63c2499375b1fc0a449bb2901d6d37d8ebc8", func := "curfew/curfewlaw23.DiskPlays", spec := "diskPlays", inPlace := ["sync/atomic.LoadUint64", "sync/atomic.CompareAndSwapUint64"], unfollowed := true, recurses := true, apart := false }
def DiskPlaysSaid : Prop := diskPlaysRow.holds Try.pinned (OpenSpec.ofChange diskPlaysSpec)

/-- ITS FALSE NEIGHBOUR: 'it returns false'. Refute it at one input. -/
def diskPlaysWrong : ChangeSpec := { name := "diskPlays", fn := fun _ => fun
  | [d1, d2] => { results := [.lit (.bool false)], args := [d1, d2] }
  | _ => none }
def DiskPlaysWrongFalsely : Prop := diskPlaysRow.holds Try.pinned (OpenSpec.ofChange diskPlaysWrong)

/-- 'curfewlaw23.DiskKeeps': WHATEVER THE INPUT: true; the input reads as it did. -/
def diskKeepsSpec : ChangeSpec := { name := "diskKeeps", fn := fun _ => fun
  | [d1, d2] => { results := [.lit (.bool true)], args := [d1, d2] }
  | _ => none }
def diskKeepsRow : OpenClaim := { program := "ytpgakkpmpnebnaa", sum := "40bf940cefb78228d0d65967212f63c2499375b1fc0a449bb2901d6d37d8ebc8", func := "curfew/curfewlaw23.DiskKeeps", spec := "diskKeeps", inPlace := ["sync/atomic.LoadUint64", "sync/atomic.CompareAndSwapUint64"], unfollowed := true, recurses := true, apart := false }
def DiskKeepsSaid : Prop := diskKeepsRow.holds Try.pinned (OpenSpec.ofChange diskKeepsSpec)

/-- ITS FALSE NEIGHBOUR: 'it returns false'. Refute it at one input. -/
def diskKeepsWrong : ChangeSpec := { name := "diskKeeps", fn := fun _ => fun
  | [d1, d2] => { results := [.lit (.bool false)], args := [d1, d2] }
  | _ => none }
def DiskKeepsWrongFalsely : Prop := diskKeepsRow.holds Try.pinned (OpenSpec.ofChange diskKeepsWrong)

/-- 'curfewlaw23.DiskArmed': WHATEVER THE INPUT: true; the input reads as it did. -/
def diskArmedSpec : ChangeSpec := { name := "diskArmed", fn := fun _ => fun
  | [d1, d2, d3] => { results := [.lit (.bool true)], args := [d1, d2, d3] }
  | _ => none }
def diskArmedRow : OpenClaim := { program := "ytpgakkpmpnebnaa", sum := "40bf940cefb78228d0d65967212f63c2499375b1fc0a449bb2901d6d37d8ebc8", func := "curfew/curfewlaw23.DiskArmed", spec := "diskArmed", inPlace := ["sync/atomic.LoadUint64", "sync/atomic.CompareAndSwapUint64"], unfollowed := true, recurses := true, apart := false }
def DiskArmedSaid : Prop := diskArmedRow.holds Try.pinned (OpenSpec.ofChange diskArmedSpec)

/-- ITS FALSE NEIGHBOUR: 'it returns false'. Refute it at one input. -/
def diskArmedWrong : ChangeSpec := { name := "diskArmed", fn := fun _ => fun
  | [d1, d2, d3] => { results := [.lit (.bool false)], args := [d1, d2, d3] }
  | _ => none }
def DiskArmedWrongFalsely : Prop := diskArmedRow.holds Try.pinned (OpenSpec.ofChange diskArmedWrong)

/-- 'curfewlaw23.DiskNobody': WHATEVER THE INPUT: true; the input reads as it did. -/
def diskNobodySpec : ChangeSpec := { name := "diskNobody", fn := fun _ => fun
  | [d] => { results := [.lit (.bool true)], args := [d] }
  | _ => none }
def diskNobodyRow : OpenClaim := { program := "ytpgakkpmpnebnaa", sum := "40bf940cefb78228d0d65967212f63c2499375b1fc0a449bb2901d6d37d8ebc8", func := "curfew/curfewlaw23.DiskNobody", spec := "diskNobody", inPlace := ["sync/atomic.LoadUint64", "sync/atomic.CompareAndSwapUint64"], unfollowed := true, recurses := true, apart := false }
def DiskNobodySaid : Prop := diskNobodyRow.holds Try.pinned (OpenSpec.ofChange diskNobodySpec)

/-- ITS FALSE NEIGHBOUR: 'it returns false'. Refute it at one input. -/
def diskNobodyWrong : ChangeSpec := { name := "diskNobody", fn := fun _ => fun
  | [d] => { results := [.lit (.bool false)], args := [d] }
  | _ => none }
def DiskNobodyWrongFalsely : Prop := diskNobodyRow.holds Try.pinned (OpenSpec.ofChange diskNobodyWrong)

/- THE SECOND FORM. 'bulk': how many values and letters a reading holds, each counted each time it is reached (what is shared counts as often as it is met; a slice's spare places count too). A statement '..UptoSaid' is the law's where the arguments, and the package variables that the reading takes, are together of bulk at most 1048576: NARROWER than '..Said'. Prove '..Said' where nothing that the law and all that it calls make is longer than what came in: it says more and counts as full. Else prove '..UptoSaid'. A law counts once. -/
mutual
def uptoBulk {H : Type} : DataW H → Nat
  | .lit (.string bytes) => bytes.length + 1
  | .lit _ => 1
  | .nil => 1
  | .ptr d => uptoBulk d + 1
  | .slice elems spare => uptoBulkAll elems + uptoBulkAll spare + 1
  | .agg parts => uptoBulkAll parts + 1
  | .iface _ d => uptoBulk d + 1
  | .map entries => uptoBulkEntries entries + 1
  | .held _ => 1
def uptoBulkAll {H : Type} : List (DataW H) → Nat
  | [] => 0
  | d :: r => uptoBulk d + uptoBulkAll r
def uptoBulkEntries {H : Type} : List (Lit × DataW H) → Nat
  | [] => 0
  | x :: r => uptoBulkEntry x + uptoBulkEntries r
def uptoBulkEntry {H : Type} : Lit × DataW H → Nat
  | (.string bytes, d) => bytes.length + uptoBulk d + 1
  | (_, d) => uptoBulk d + 1
 end
def uptoSmall : (H : Type) → List (DataW H) → Bool := fun _ ds => decide (uptoBulkAll ds ≤ 1048576)
def OpenSpec.upto (s : _root_.Go.ChangeSpec) : _root_.Go.OpenSpec := { _root_.Go.OpenSpec.ofChange s with cond := some uptoSmall }

/-- 'curfewlaw31.ProgressAgreed', WHERE WHAT IT READS IS OF BULK AT MOST 1048576: true; the input reads as it did. -/
def progressAgreedUptoRow : OpenClaim := { program := "ytpgakkpmpnebnaa", sum := "40bf940cefb78228d0d65967212f63c2499375b1fc0a449bb2901d6d37d8ebc8", func := "curfew/curfewlaw31.ProgressAgreed", spec := "progressAgreed", unfollowed := true, recurses := true, apart := false, narrowed := true }
def ProgressAgreedUptoSaid : Prop := progressAgreedUptoRow.holds Try.pinned (OpenSpec.upto progressAgreedSpec)

/-- 'curfewlaw31.ProgressRises', WHERE WHAT IT READS IS OF BULK AT MOST 1048576: true; the input reads as it did. -/
def progressRisesUptoRow : OpenClaim := { program := "ytpgakkpmpnebnaa", sum := "40bf940cefb78228d0d65967212f63c2499375b1fc0a449bb2901d6d37d8ebc8", func := "curfew/curfewlaw31.ProgressRises", spec := "progressRises", unfollowed := true, recurses := true, apart := false, narrowed := true }
def ProgressRisesUptoSaid : Prop := progressRisesUptoRow.holds Try.pinned (OpenSpec.upto progressRisesSpec)

/-- 'curfewlaw31.ProgressPlays', WHERE WHAT IT READS IS OF BULK AT MOST 1048576: true; the input reads as it did. -/
def progressPlaysUptoRow : OpenClaim := { program := "ytpgakkpmpnebnaa", sum := "40bf940cefb78228d0d65967212f63c2499375b1fc0a449bb2901d6d37d8ebc8", func := "curfew/curfewlaw31.ProgressPlays", spec := "progressPlays", unfollowed := true, recurses := true, apart := false, narrowed := true }
def ProgressPlaysUptoSaid : Prop := progressPlaysUptoRow.holds Try.pinned (OpenSpec.upto progressPlaysSpec)

/-- 'curfewlaw31.ProgressNobody', WHERE WHAT IT READS IS OF BULK AT MOST 1048576: true; the input reads as it did. -/
def progressNobodyUptoRow : OpenClaim := { program := "ytpgakkpmpnebnaa", sum := "40bf940cefb78228d0d65967212f63c2499375b1fc0a449bb2901d6d37d8ebc8", func := "curfew/curfewlaw31.ProgressNobody", spec := "progressNobody", unfollowed := true, recurses := true, apart := false, narrowed := true }
def ProgressNobodyUptoSaid : Prop := progressNobodyUptoRow.holds Try.pinned (OpenSpec.upto progressNobodySpec)

/-- 'curfewlaw23.DiskPlays', WHERE WHAT IT READS IS OF BULK AT MOST 1048576: true; the input reads as it did. -/
def diskPlaysUptoRow : OpenClaim := { program := "ytpgakkpmpnebnaa", sum := "40bf940cefb78228d0d65967212f63c2499375b1fc0a449bb2901d6d37d8ebc8", func := "curfew/curfewlaw23.DiskPlays", spec := "diskPlays", inPlace := ["sync/atomic.LoadUint64", "sync/atomic.CompareAndSwapUint64"], unfollowed := true, recurses := true, apart := false, narrowed := true }
def DiskPlaysUptoSaid : Prop := diskPlaysUptoRow.holds Try.pinned (OpenSpec.upto diskPlaysSpec)

/-- 'curfewlaw23.DiskKeeps', WHERE WHAT IT READS IS OF BULK AT MOST 1048576: true; the input reads as it did. -/
def diskKeepsUptoRow : OpenClaim := { program := "ytpgakkpmpnebnaa", sum := "40bf940cefb78228d0d65967212f63c2499375b1fc0a449bb2901d6d37d8ebc8", func := "curfew/curfewlaw23.DiskKeeps", spec := "diskKeeps", inPlace := ["sync/atomic.LoadUint64", "sync/atomic.CompareAndSwapUint64"], unfollowed := true, recurses := true, apart := false, narrowed := true }
def DiskKeepsUptoSaid : Prop := diskKeepsUptoRow.holds Try.pinned (OpenSpec.upto diskKeepsSpec)

/-- 'curfewlaw23.DiskArmed', WHERE WHAT IT READS IS OF BULK AT MOST 1048576: true; the input reads as it did. -/
def diskArmedUptoRow : OpenClaim := { program := "ytpgakkpmpnebnaa", sum := "40bf940cefb78228d0d65967212f63c2499375b1fc0a449bb2901d6d37d8ebc8", func := "curfew/curfewlaw23.DiskArmed", spec := "diskArmed", inPlace := ["sync/atomic.LoadUint64", "sync/atomic.CompareAndSwapUint64"], unfollowed := true, recurses := true, apart := false, narrowed := true }
def DiskArmedUptoSaid : Prop := diskArmedUptoRow.holds Try.pinned (OpenSpec.upto diskArmedSpec)

/-- 'curfewlaw23.DiskNobody', WHERE WHAT IT READS IS OF BULK AT MOST 1048576: true; the input reads as it did. -/
def diskNobodyUptoRow : OpenClaim := { program := "ytpgakkpmpnebnaa", sum := "40bf940cefb78228d0d65967212f63c2499375b1fc0a449bb2901d6d37d8ebc8", func := "curfew/curfewlaw23.DiskNobody", spec := "diskNobody", inPlace := ["sync/atomic.LoadUint64", "sync/atomic.CompareAndSwapUint64"], unfollowed := true, recurses := true, apart := false, narrowed := true }
def DiskNobodyUptoSaid : Prop := diskNobodyUptoRow.holds Try.pinned (OpenSpec.upto diskNobodySpec)

end Rows
end Go.Proofs.Ytpgakkpmpnebnaa
