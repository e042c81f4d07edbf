/-
  No cell of these rows narrows 'for every input' (looked for: loops, veiled, ifaces, maps, wideKeys, modest, calm, conditions, laid).
  DERIVED. THE GIVEN ROWS OF THIS SEAT. 10 by the template 'for every input the law returns true; each argument reads behind the call as it read before'; 0 by the template 'total and deterministic' (their statements: YtomapfklpoijbaaTotals.lean).
  GIVEN WITH THE SEED: the statements are not yours to turn. If you find one false, say at which input.
  Laid BY PROGRAM, IN A SANDBOX (cutbox-rows.mjs): the forced cells as the released guide's own fill.sh prints them over the translation 85e0c19f67ba3e45… (all of the seat's roots in one cut). By AI agents, Wed Nov 11 2026. No macro, syntax, notation, axiom, sorry.
-/
import Derived.Test.YtomapfklpoijbaaChecked
import GoSem.Claim
import GoSem.ClaimJoined
import GoSem.ClaimMapViews
import Derived.JoinedTies
import Derived.KernelRfl
namespace Go.Proofs.Ytomapfklpoijbaa
/- THE CELL 'sum', in the pinned program and in every row, IS THE sha256 OF THE DUMP (.gsa) THAT YtomapfklpoijbaaProg.lean LOADS. Nothing in Lean hashes anything: it is a label: what it is worth is what the hold of that sum in a sandbox is worth. -/
noncomputable def Try.pinned : Pinned := { name := "ytomapfklpoijbaa", sum := "85e0c19f67ba3e45a75e5a3f6513404493117f2ea9faa286745e9d6e5f47ba12", checked := Try.checked }
namespace Rows
def none {H : Type} : Left H := { results := [], args := [] }

/-- 'curfewlaw20.SessionOnce': WHATEVER THE INPUT: true; the input reads as it did. -/
def sessionOnceSpec : ChangeSpec := { name := "sessionOnce", fn := fun _ => fun
  | [d] => { results := [.lit (.bool true)], args := [d] }
  | _ => none }
def sessionOnceRow : OpenClaim := { program := "ytomapfklpoijbaa", sum := "85e0c19f67ba3e45a75e5a3f6513404493117f2ea9faa286745e9d6e5f47ba12", func := "curfew/curfewlaw20.SessionOnce", spec := "sessionOnce", plainKeys := false, apart := false }
def SessionOnceSaid : Prop := sessionOnceRow.holds Try.pinned (OpenSpec.ofChange sessionOnceSpec)

/-- ITS FALSE NEIGHBOUR: 'it returns false'. Refute it at one input. -/
def sessionOnceWrong : ChangeSpec := { name := "sessionOnce", fn := fun _ => fun
  | [d] => { results := [.lit (.bool false)], args := [d] }
  | _ => none }
def SessionOnceWrongFalsely : Prop := sessionOnceRow.holds Try.pinned (OpenSpec.ofChange sessionOnceWrong)

/-- 'curfewlaw06.DiceBounds': WHATEVER THE INPUT: true; the input reads as it did. -/
def diceBoundsSpec : ChangeSpec := { name := "diceBounds", fn := fun _ => fun
  | [d1, d2, d3, d4, d5] => { results := [.lit (.bool true)], args := [d1, d2, d3, d4, d5] }
  | _ => none }
def diceBoundsRow : OpenClaim := { program := "ytomapfklpoijbaa", sum := "85e0c19f67ba3e45a75e5a3f6513404493117f2ea9faa286745e9d6e5f47ba12", func := "curfew/curfewlaw06.DiceBounds", spec := "diceBounds", unfollowed := true, recurses := true, plainKeys := false, apart := false }
def DiceBoundsSaid : Prop := diceBoundsRow.holds Try.pinned (OpenSpec.ofChange diceBoundsSpec)

/-- ITS FALSE NEIGHBOUR: 'it returns false'. Refute it at one input. -/
def diceBoundsWrong : ChangeSpec := { name := "diceBounds", fn := fun _ => fun
  | [d1, d2, d3, d4, d5] => { results := [.lit (.bool false)], args := [d1, d2, d3, d4, d5] }
  | _ => none }
def DiceBoundsWrongFalsely : Prop := diceBoundsRow.holds Try.pinned (OpenSpec.ofChange diceBoundsWrong)

/-- 'curfewlaw05.MeterOnce': WHATEVER THE INPUT: true; the input reads as it did. -/
def meterOnceSpec : ChangeSpec := { name := "meterOnce", fn := fun _ => fun
  | [d1, d2] => { results := [.lit (.bool true)], args := [d1, d2] }
  | _ => none }
def meterOnceRow : OpenClaim := { program := "ytomapfklpoijbaa", sum := "85e0c19f67ba3e45a75e5a3f6513404493117f2ea9faa286745e9d6e5f47ba12", func := "curfew/curfewlaw05.MeterOnce", spec := "meterOnce", inPlace := ["sync/atomic.LoadUint64", "sync/atomic.CompareAndSwapUint64"], unfollowed := true, recurses := true, plainKeys := false, apart := false }
def MeterOnceSaid : Prop := meterOnceRow.holds Try.pinned (OpenSpec.ofChange meterOnceSpec)

/-- ITS FALSE NEIGHBOUR: 'it returns false'. Refute it at one input. -/
def meterOnceWrong : ChangeSpec := { name := "meterOnce", fn := fun _ => fun
  | [d1, d2] => { results := [.lit (.bool false)], args := [d1, d2] }
  | _ => none }
def MeterOnceWrongFalsely : Prop := meterOnceRow.holds Try.pinned (OpenSpec.ofChange meterOnceWrong)

/-- 'curfewlaw05.MeterPlays': WHATEVER THE INPUT: true; the input reads as it did. -/
def meterPlaysSpec : ChangeSpec := { name := "meterPlays", fn := fun _ => fun
  | [d1, d2] => { results := [.lit (.bool true)], args := [d1, d2] }
  | _ => none }
def meterPlaysRow : OpenClaim := { program := "ytomapfklpoijbaa", sum := "85e0c19f67ba3e45a75e5a3f6513404493117f2ea9faa286745e9d6e5f47ba12", func := "curfew/curfewlaw05.MeterPlays", spec := "meterPlays", inPlace := ["sync/atomic.LoadUint64", "sync/atomic.CompareAndSwapUint64"], unfollowed := true, recurses := true, plainKeys := false, apart := false }
def MeterPlaysSaid : Prop := meterPlaysRow.holds Try.pinned (OpenSpec.ofChange meterPlaysSpec)

/-- ITS FALSE NEIGHBOUR: 'it returns false'. Refute it at one input. -/
def meterPlaysWrong : ChangeSpec := { name := "meterPlays", fn := fun _ => fun
  | [d1, d2] => { results := [.lit (.bool false)], args := [d1, d2] }
  | _ => none }
def MeterPlaysWrongFalsely : Prop := meterPlaysRow.holds Try.pinned (OpenSpec.ofChange meterPlaysWrong)

/-- 'curfewlaw05.MeterSizes': WHATEVER THE INPUT: true; the input reads as it did. -/
def meterSizesSpec : ChangeSpec := { name := "meterSizes", fn := fun _ => fun
  | [d1, d2, d3] => { results := [.lit (.bool true)], args := [d1, d2, d3] }
  | _ => none }
def meterSizesRow : OpenClaim := { program := "ytomapfklpoijbaa", sum := "85e0c19f67ba3e45a75e5a3f6513404493117f2ea9faa286745e9d6e5f47ba12", func := "curfew/curfewlaw05.MeterSizes", spec := "meterSizes", inPlace := ["sync/atomic.LoadUint64", "sync/atomic.CompareAndSwapUint64"], unfollowed := true, recurses := true, plainKeys := false, apart := false }
def MeterSizesSaid : Prop := meterSizesRow.holds Try.pinned (OpenSpec.ofChange meterSizesSpec)

/-- ITS FALSE NEIGHBOUR: 'it returns false'. Refute it at one input. -/
def meterSizesWrong : ChangeSpec := { name := "meterSizes", fn := fun _ => fun
  | [d1, d2, d3] => { results := [.lit (.bool false)], args := [d1, d2, d3] }
  | _ => none }
def MeterSizesWrongFalsely : Prop := meterSizesRow.holds Try.pinned (OpenSpec.ofChange meterSizesWrong)

/-- 'curfewlaw01.QuillOnce': WHATEVER THE INPUT: true; the input reads as it did. -/
def quillOnceSpec : ChangeSpec := { name := "quillOnce", fn := fun _ => fun
  | [d] => { results := [.lit (.bool true)], args := [d] }
  | _ => none }
def quillOnceRow : OpenClaim := { program := "ytomapfklpoijbaa", sum := "85e0c19f67ba3e45a75e5a3f6513404493117f2ea9faa286745e9d6e5f47ba12", func := "curfew/curfewlaw01.QuillOnce", spec := "quillOnce", plainKeys := false, apart := false }
def QuillOnceSaid : Prop := quillOnceRow.holds Try.pinned (OpenSpec.ofChange quillOnceSpec)

/-- ITS FALSE NEIGHBOUR: 'it returns false'. Refute it at one input. -/
def quillOnceWrong : ChangeSpec := { name := "quillOnce", fn := fun _ => fun
  | [d] => { results := [.lit (.bool false)], args := [d] }
  | _ => none }
def QuillOnceWrongFalsely : Prop := quillOnceRow.holds Try.pinned (OpenSpec.ofChange quillOnceWrong)

/-- 'curfewlaw01.QuillWrites': WHATEVER THE INPUT: true; the input reads as it did. -/
def quillWritesSpec : ChangeSpec := { name := "quillWrites", fn := fun _ => fun
  | [d1, d2, d3] => { results := [.lit (.bool true)], args := [d1, d2, d3] }
  | _ => none }
def quillWritesRow : OpenClaim := { program := "ytomapfklpoijbaa", sum := "85e0c19f67ba3e45a75e5a3f6513404493117f2ea9faa286745e9d6e5f47ba12", func := "curfew/curfewlaw01.QuillWrites", spec := "quillWrites", unfollowed := true, recurses := true, plainKeys := false, apart := false }
def QuillWritesSaid : Prop := quillWritesRow.holds Try.pinned (OpenSpec.ofChange quillWritesSpec)

/-- ITS FALSE NEIGHBOUR: 'it returns false'. Refute it at one input. -/
def quillWritesWrong : ChangeSpec := { name := "quillWrites", fn := fun _ => fun
  | [d1, d2, d3] => { results := [.lit (.bool false)], args := [d1, d2, d3] }
  | _ => none }
def QuillWritesWrongFalsely : Prop := quillWritesRow.holds Try.pinned (OpenSpec.ofChange quillWritesWrong)

/-- 'curfewlaw01.QuillReads': WHATEVER THE INPUT: true; the input reads as it did. -/
def quillReadsSpec : ChangeSpec := { name := "quillReads", fn := fun _ => fun
  | [d1, d2] => { results := [.lit (.bool true)], args := [d1, d2] }
  | _ => none }
def quillReadsRow : OpenClaim := { program := "ytomapfklpoijbaa", sum := "85e0c19f67ba3e45a75e5a3f6513404493117f2ea9faa286745e9d6e5f47ba12", func := "curfew/curfewlaw01.QuillReads", spec := "quillReads", plainKeys := false, apart := false }
def QuillReadsSaid : Prop := quillReadsRow.holds Try.pinned (OpenSpec.ofChange quillReadsSpec)

/-- ITS FALSE NEIGHBOUR: 'it returns false'. Refute it at one input. -/
def quillReadsWrong : ChangeSpec := { name := "quillReads", fn := fun _ => fun
  | [d1, d2] => { results := [.lit (.bool false)], args := [d1, d2] }
  | _ => none }
def QuillReadsWrongFalsely : Prop := quillReadsRow.holds Try.pinned (OpenSpec.ofChange quillReadsWrong)

/-- 'curfewlaw01.QuillBack': WHATEVER THE INPUT: true; the input reads as it did. -/
def quillBackSpec : ChangeSpec := { name := "quillBack", fn := fun _ => fun
  | [d] => { results := [.lit (.bool true)], args := [d] }
  | _ => none }
def quillBackRow : OpenClaim := { program := "ytomapfklpoijbaa", sum := "85e0c19f67ba3e45a75e5a3f6513404493117f2ea9faa286745e9d6e5f47ba12", func := "curfew/curfewlaw01.QuillBack", spec := "quillBack", unfollowed := true, recurses := true, plainKeys := false, apart := false }
def QuillBackSaid : Prop := quillBackRow.holds Try.pinned (OpenSpec.ofChange quillBackSpec)

/-- ITS FALSE NEIGHBOUR: 'it returns false'. Refute it at one input. -/
def quillBackWrong : ChangeSpec := { name := "quillBack", fn := fun _ => fun
  | [d] => { results := [.lit (.bool false)], args := [d] }
  | _ => none }
def QuillBackWrongFalsely : Prop := quillBackRow.holds Try.pinned (OpenSpec.ofChange quillBackWrong)

/-- 'curfewlaw01.QuillNobody': WHATEVER THE INPUT: true; the input reads as it did. -/
def quillNobodySpec : ChangeSpec := { name := "quillNobody", fn := fun _ => fun
  | [d1, d2, d3] => { results := [.lit (.bool true)], args := [d1, d2, d3] }
  | _ => none }
def quillNobodyRow : OpenClaim := { program := "ytomapfklpoijbaa", sum := "85e0c19f67ba3e45a75e5a3f6513404493117f2ea9faa286745e9d6e5f47ba12", func := "curfew/curfewlaw01.QuillNobody", spec := "quillNobody", unfollowed := true, recurses := true, plainKeys := false, apart := false }
def QuillNobodySaid : Prop := quillNobodyRow.holds Try.pinned (OpenSpec.ofChange quillNobodySpec)

/-- ITS FALSE NEIGHBOUR: 'it returns false'. Refute it at one input. -/
def quillNobodyWrong : ChangeSpec := { name := "quillNobody", fn := fun _ => fun
  | [d1, d2, d3] => { results := [.lit (.bool false)], args := [d1, d2, d3] }
  | _ => none }
def QuillNobodyWrongFalsely : Prop := quillNobodyRow.holds Try.pinned (OpenSpec.ofChange quillNobodyWrong)

/- THE SECOND FORM. 'bulk': how many values and letters a reading holds, each counted each time it is reached (what is shared counts as often as it is met; a slice's spare places count too). A statement '..UptoSaid' is the law's where the arguments, and the package variables that the reading takes, are together of bulk at most 1048576: NARROWER than '..Said'. Prove '..Said' where nothing that the law and all that it calls make is longer than what came in: it says more and counts as full. Else prove '..UptoSaid'. A law counts once. -/
mutual
def uptoBulk {H : Type} : DataW H → Nat
  | .lit (.string bytes) => bytes.length + 1
  | .lit _ => 1
  | .nil => 1
  | .ptr d => uptoBulk d + 1
  | .slice elems spare => uptoBulkAll elems + uptoBulkAll spare + 1
  | .agg parts => uptoBulkAll parts + 1
  | .iface _ d => uptoBulk d + 1
  | .map entries => uptoBulkEntries entries + 1
  | .held _ => 1
def uptoBulkAll {H : Type} : List (DataW H) → Nat
  | [] => 0
  | d :: r => uptoBulk d + uptoBulkAll r
def uptoBulkEntries {H : Type} : List (Lit × DataW H) → Nat
  | [] => 0
  | x :: r => uptoBulkEntry x + uptoBulkEntries r
def uptoBulkEntry {H : Type} : Lit × DataW H → Nat
  | (.string bytes, d) => bytes.length + uptoBulk d + 1
  | (_, d) => uptoBulk d + 1
 end
def uptoSmall : (H : Type) → List (DataW H) → Bool := fun _ ds => decide (uptoBulkAll ds ≤ 1048576)
def OpenSpec.upto (s : _root_.Go.ChangeSpec) : _root_.Go.OpenSpec := { _root_.Go.OpenSpec.ofChange s with cond := some uptoSmall }

/-- 'curfewlaw20.SessionOnce', WHERE WHAT IT READS IS OF BULK AT MOST 1048576: true; the input reads as it did. -/
def sessionOnceUptoRow : OpenClaim := { program := "ytomapfklpoijbaa", sum := "85e0c19f67ba3e45a75e5a3f6513404493117f2ea9faa286745e9d6e5f47ba12", func := "curfew/curfewlaw20.SessionOnce", spec := "sessionOnce", plainKeys := false, apart := false, narrowed := true }
def SessionOnceUptoSaid : Prop := sessionOnceUptoRow.holds Try.pinned (OpenSpec.upto sessionOnceSpec)

/-- 'curfewlaw06.DiceBounds', WHERE WHAT IT READS IS OF BULK AT MOST 1048576: true; the input reads as it did. -/
def diceBoundsUptoRow : OpenClaim := { program := "ytomapfklpoijbaa", sum := "85e0c19f67ba3e45a75e5a3f6513404493117f2ea9faa286745e9d6e5f47ba12", func := "curfew/curfewlaw06.DiceBounds", spec := "diceBounds", unfollowed := true, recurses := true, plainKeys := false, apart := false, narrowed := true }
def DiceBoundsUptoSaid : Prop := diceBoundsUptoRow.holds Try.pinned (OpenSpec.upto diceBoundsSpec)

/-- 'curfewlaw05.MeterOnce', WHERE WHAT IT READS IS OF BULK AT MOST 1048576: true; the input reads as it did. -/
def meterOnceUptoRow : OpenClaim := { program := "ytomapfklpoijbaa", sum := "85e0c19f67ba3e45a75e5a3f6513404493117f2ea9faa286745e9d6e5f47ba12", func := "curfew/curfewlaw05.MeterOnce", spec := "meterOnce", inPlace := ["sync/atomic.LoadUint64", "sync/atomic.CompareAndSwapUint64"], unfollowed := true, recurses := true, plainKeys := false, apart := false, narrowed := true }
def MeterOnceUptoSaid : Prop := meterOnceUptoRow.holds Try.pinned (OpenSpec.upto meterOnceSpec)

/-- 'curfewlaw05.MeterPlays', WHERE WHAT IT READS IS OF BULK AT MOST 1048576: true; the input reads as it did. -/
def meterPlaysUptoRow : OpenClaim := { program := "ytomapfklpoijbaa", sum := "85e0c19f67ba3e45a75e5a3f6513404493117f2ea9faa286745e9d6e5f47ba12", func := "curfew/curfewlaw05.MeterPlays", spec := "meterPlays", inPlace := ["sync/atomic.LoadUint64", "sync/atomic.CompareAndSwapUint64"], unfollowed := true, recurses := true, plainKeys := false, apart := false, narrowed := true }
def MeterPlaysUptoSaid : Prop := meterPlaysUptoRow.holds Try.pinned (OpenSpec.upto meterPlaysSpec)

/-- 'curfewlaw05.MeterSizes', WHERE WHAT IT READS IS OF BULK AT MOST 1048576: true; the input reads as it did. -/
def meterSizesUptoRow : OpenClaim := { program := "ytomapfklpoijbaa", sum := "85e0c19f67ba3e45a75e5a3f6513404493117f2ea9faa286745e9d6e5f47ba12", func := "curfew/curfewlaw05.MeterSizes", spec := "meterSizes", inPlace := ["sync/atomic.LoadUint64", "sync/atomic.CompareAndSwapUint64"], unfollowed := true, recurses := true, plainKeys := false, apart := false, narrowed := true }
def MeterSizesUptoSaid : Prop := meterSizesUptoRow.holds Try.pinned (OpenSpec.upto meterSizesSpec)

/-- 'curfewlaw01.QuillOnce', WHERE WHAT IT READS IS OF BULK AT MOST 1048576: true; the input reads as it did. -/
def quillOnceUptoRow : OpenClaim := { program := "ytomapfklpoijbaa", sum := "85e0c19f67ba3e45a75e5a3f6513404493117f2ea9faa286745e9d6e5f47ba12", func := "curfew/curfewlaw01.QuillOnce", spec := "quillOnce", plainKeys := false, apart := false, narrowed := true }
def QuillOnceUptoSaid : Prop := quillOnceUptoRow.holds Try.pinned (OpenSpec.upto quillOnceSpec)

/-- 'curfewlaw01.QuillWrites', WHERE WHAT IT READS IS OF BULK AT MOST 1048576: true; the input reads as it did. -/
def quillWritesUptoRow : OpenClaim := { program := "ytomapfklpoijbaa", sum := "85e0c19f67ba3e45a75e5a3f6513404493117f2ea9faa286745e9d6e5f47ba12", func := "curfew/curfewlaw01.QuillWrites", spec := "quillWrites", unfollowed := true, recurses := true, plainKeys := false, apart := false, narrowed := true }
def QuillWritesUptoSaid : Prop := quillWritesUptoRow.holds Try.pinned (OpenSpec.upto quillWritesSpec)

/-- 'curfewlaw01.QuillReads', WHERE WHAT IT READS IS OF BULK AT MOST 1048576: true; the input reads as it did. -/
def quillReadsUptoRow : OpenClaim := { program := "ytomapfklpoijbaa", sum := "85e0c19f67ba3e45a75e5a3f6513404493117f2ea9faa286745e9d6e5f47ba12", func := "curfew/curfewlaw01.QuillReads", spec := "quillReads", plainKeys := false, apart := false, narrowed := true }
def QuillReadsUptoSaid : Prop := quillReadsUptoRow.holds Try.pinned (OpenSpec.upto quillReadsSpec)

/-- 'curfewlaw01.QuillBack', WHERE WHAT IT READS IS OF BULK AT MOST 1048576: true; the input reads as it did. -/
def quillBackUptoRow : OpenClaim := { program := "ytomapfklpoijbaa", sum := "85e0c19f67ba3e45a75e5a3f6513404493117f2ea9faa286745e9d6e5f47ba12", func := "curfew/curfewlaw01.QuillBack", spec := "quillBack", unfollowed := true, recurses := true, plainKeys := false, apart := false, narrowed := true }
def QuillBackUptoSaid : Prop := quillBackUptoRow.holds Try.pinned (OpenSpec.upto quillBackSpec)

/-- 'curfewlaw01.QuillNobody', WHERE WHAT IT READS IS OF BULK AT MOST 1048576: true; the input reads as it did. -/
def quillNobodyUptoRow : OpenClaim := { program := "ytomapfklpoijbaa", sum := "85e0c19f67ba3e45a75e5a3f6513404493117f2ea9faa286745e9d6e5f47ba12", func := "curfew/curfewlaw01.QuillNobody", spec := "quillNobody", unfollowed := true, recurses := true, plainKeys := false, apart := false, narrowed := true }
def QuillNobodyUptoSaid : Prop := quillNobodyUptoRow.holds Try.pinned (OpenSpec.upto quillNobodySpec)

end Rows
end Go.Proofs.Ytomapfklpoijbaa
