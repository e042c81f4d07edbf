/-
  No cell of these rows narrows 'for every input' (looked for: loops, veiled, ifaces, maps, wideKeys, modest, calm, conditions, laid).
  DERIVED. THE GIVEN ROWS OF THIS SEAT. 7 by the template 'for every input the law returns true; each argument reads behind the call as it read before'; 0 by the template 'total and deterministic' (their statements: YtbleeejhejkkcaaTotals.lean).
  GIVEN WITH THE SEED: the statements are not yours to turn. If you find one false, say at which input.
  Laid BY PROGRAM, IN A SANDBOX (cutbox-rows.mjs): the forced cells as the released guide's own fill.sh prints them over the translation 7b2f03861524cefd… (all of the seat's roots in one cut). By AI agents, Wed Nov 11 2026. No macro, syntax, notation, axiom, sorry.
-/
import Derived.Test.YtbleeejhejkkcaaChecked
import GoSem.Claim
import GoSem.ClaimJoined
import GoSem.ClaimMapViews
import Derived.JoinedTies
import Derived.KernelRfl
namespace Go.Proofs.Ytbleeejhejkkcaa
/- THE CELL 'sum', in the pinned program and in every row, IS THE sha256 OF THE DUMP (.gsa) THAT YtbleeejhejkkcaaProg.lean LOADS. Nothing in Lean hashes anything: it is a label: what it is worth is what the hold of that sum in a sandbox is worth. -/
noncomputable def Try.pinned : Pinned := { name := "ytbleeejhejkkcaa", sum := "7b2f03861524cefde0220c6a9719a6c95a8e049e347584ba4f419fee64350a5f", checked := Try.checked }
namespace Rows
def none {H : Type} : Left H := { results := [], args := [] }

/-- 'curfewlaw32.PollPlays': WHATEVER THE INPUT: true; the input reads as it did. -/
def pollPlaysSpec : ChangeSpec := { name := "pollPlays", fn := fun _ => fun
  | [d1, d2] => { results := [.lit (.bool true)], args := [d1, d2] }
  | _ => none }
def pollPlaysRow : OpenClaim := { program := "ytbleeejhejkkcaa", sum := "7b2f03861524cefde0220c6a9719a6c95a8e049e347584ba4f419fee64350a5f", func := "curfew/curfewlaw32.PollPlays", spec := "pollPlays", recurses := true, apart := false }
def PollPlaysSaid : Prop := pollPlaysRow.holds Try.pinned (OpenSpec.ofChange pollPlaysSpec)

/-- ITS FALSE NEIGHBOUR: 'it returns false'. Refute it at one input. -/
def pollPlaysWrong : ChangeSpec := { name := "pollPlays", fn := fun _ => fun
  | [d1, d2] => { results := [.lit (.bool false)], args := [d1, d2] }
  | _ => none }
def PollPlaysWrongFalsely : Prop := pollPlaysRow.holds Try.pinned (OpenSpec.ofChange pollPlaysWrong)

/-- 'curfewlaw32.PollStays': WHATEVER THE INPUT: true; the input reads as it did. -/
def pollStaysSpec : ChangeSpec := { name := "pollStays", fn := fun _ => fun
  | [d1, d2, d3] => { results := [.lit (.bool true)], args := [d1, d2, d3] }
  | _ => none }
def pollStaysRow : OpenClaim := { program := "ytbleeejhejkkcaa", sum := "7b2f03861524cefde0220c6a9719a6c95a8e049e347584ba4f419fee64350a5f", func := "curfew/curfewlaw32.PollStays", spec := "pollStays", recurses := true, apart := false }
def PollStaysSaid : Prop := pollStaysRow.holds Try.pinned (OpenSpec.ofChange pollStaysSpec)

/-- ITS FALSE NEIGHBOUR: 'it returns false'. Refute it at one input. -/
def pollStaysWrong : ChangeSpec := { name := "pollStays", fn := fun _ => fun
  | [d1, d2, d3] => { results := [.lit (.bool false)], args := [d1, d2, d3] }
  | _ => none }
def PollStaysWrongFalsely : Prop := pollStaysRow.holds Try.pinned (OpenSpec.ofChange pollStaysWrong)

/-- 'curfewlaw32.PollOne': WHATEVER THE INPUT: true; the input reads as it did. -/
def pollOneSpec : ChangeSpec := { name := "pollOne", fn := fun _ => fun
  | [d1, d2, d3, d4] => { results := [.lit (.bool true)], args := [d1, d2, d3, d4] }
  | _ => none }
def pollOneRow : OpenClaim := { program := "ytbleeejhejkkcaa", sum := "7b2f03861524cefde0220c6a9719a6c95a8e049e347584ba4f419fee64350a5f", func := "curfew/curfewlaw32.PollOne", spec := "pollOne", recurses := true, apart := false }
def PollOneSaid : Prop := pollOneRow.holds Try.pinned (OpenSpec.ofChange pollOneSpec)

/-- ITS FALSE NEIGHBOUR: 'it returns false'. Refute it at one input. -/
def pollOneWrong : ChangeSpec := { name := "pollOne", fn := fun _ => fun
  | [d1, d2, d3, d4] => { results := [.lit (.bool false)], args := [d1, d2, d3, d4] }
  | _ => none }
def PollOneWrongFalsely : Prop := pollOneRow.holds Try.pinned (OpenSpec.ofChange pollOneWrong)

/-- 'curfewlaw32.PollNobody': WHATEVER THE INPUT: true; the input reads as it did. -/
def pollNobodySpec : ChangeSpec := { name := "pollNobody", fn := fun _ => fun
  | [d] => { results := [.lit (.bool true)], args := [d] }
  | _ => none }
def pollNobodyRow : OpenClaim := { program := "ytbleeejhejkkcaa", sum := "7b2f03861524cefde0220c6a9719a6c95a8e049e347584ba4f419fee64350a5f", func := "curfew/curfewlaw32.PollNobody", spec := "pollNobody", recurses := true, apart := false }
def PollNobodySaid : Prop := pollNobodyRow.holds Try.pinned (OpenSpec.ofChange pollNobodySpec)

/-- ITS FALSE NEIGHBOUR: 'it returns false'. Refute it at one input. -/
def pollNobodyWrong : ChangeSpec := { name := "pollNobody", fn := fun _ => fun
  | [d] => { results := [.lit (.bool false)], args := [d] }
  | _ => none }
def PollNobodyWrongFalsely : Prop := pollNobodyRow.holds Try.pinned (OpenSpec.ofChange pollNobodyWrong)

/-- 'curfewlaw20.SessionPlays': WHATEVER THE INPUT: true; the input reads as it did. -/
def sessionPlaysSpec : ChangeSpec := { name := "sessionPlays", fn := fun _ => fun
  | [d] => { results := [.lit (.bool true)], args := [d] }
  | _ => none }
def sessionPlaysRow : OpenClaim := { program := "ytbleeejhejkkcaa", sum := "7b2f03861524cefde0220c6a9719a6c95a8e049e347584ba4f419fee64350a5f", func := "curfew/curfewlaw20.SessionPlays", spec := "sessionPlays", unfollowed := true, recurses := true, apart := false }
def SessionPlaysSaid : Prop := sessionPlaysRow.holds Try.pinned (OpenSpec.ofChange sessionPlaysSpec)

/-- ITS FALSE NEIGHBOUR: 'it returns false'. Refute it at one input. -/
def sessionPlaysWrong : ChangeSpec := { name := "sessionPlays", fn := fun _ => fun
  | [d] => { results := [.lit (.bool false)], args := [d] }
  | _ => none }
def SessionPlaysWrongFalsely : Prop := sessionPlaysRow.holds Try.pinned (OpenSpec.ofChange sessionPlaysWrong)

/-- 'curfewlaw20.SessionReads': WHATEVER THE INPUT: true; the input reads as it did. -/
def sessionReadsSpec : ChangeSpec := { name := "sessionReads", fn := fun _ => fun
  | [d] => { results := [.lit (.bool true)], args := [d] }
  | _ => none }
def sessionReadsRow : OpenClaim := { program := "ytbleeejhejkkcaa", sum := "7b2f03861524cefde0220c6a9719a6c95a8e049e347584ba4f419fee64350a5f", func := "curfew/curfewlaw20.SessionReads", spec := "sessionReads", unfollowed := true, recurses := true, apart := false }
def SessionReadsSaid : Prop := sessionReadsRow.holds Try.pinned (OpenSpec.ofChange sessionReadsSpec)

/-- ITS FALSE NEIGHBOUR: 'it returns false'. Refute it at one input. -/
def sessionReadsWrong : ChangeSpec := { name := "sessionReads", fn := fun _ => fun
  | [d] => { results := [.lit (.bool false)], args := [d] }
  | _ => none }
def SessionReadsWrongFalsely : Prop := sessionReadsRow.holds Try.pinned (OpenSpec.ofChange sessionReadsWrong)

/-- 'curfewlaw20.SessionApart': WHATEVER THE INPUT: true; the input reads as it did. -/
def sessionApartSpec : ChangeSpec := { name := "sessionApart", fn := fun _ => fun
  | [d1, d2] => { results := [.lit (.bool true)], args := [d1, d2] }
  | _ => none }
def sessionApartRow : OpenClaim := { program := "ytbleeejhejkkcaa", sum := "7b2f03861524cefde0220c6a9719a6c95a8e049e347584ba4f419fee64350a5f", func := "curfew/curfewlaw20.SessionApart", spec := "sessionApart", unfollowed := true, recurses := true, apart := false }
def SessionApartSaid : Prop := sessionApartRow.holds Try.pinned (OpenSpec.ofChange sessionApartSpec)

/-- ITS FALSE NEIGHBOUR: 'it returns false'. Refute it at one input. -/
def sessionApartWrong : ChangeSpec := { name := "sessionApart", fn := fun _ => fun
  | [d1, d2] => { results := [.lit (.bool false)], args := [d1, d2] }
  | _ => none }
def SessionApartWrongFalsely : Prop := sessionApartRow.holds Try.pinned (OpenSpec.ofChange sessionApartWrong)

/- THE SECOND FORM. 'bulk': how many values and letters a reading holds, each counted each time it is reached (what is shared counts as often as it is met; a slice's spare places count too). A statement '..UptoSaid' is the law's where the arguments, and the package variables that the reading takes, are together of bulk at most 1048576: NARROWER than '..Said'. Prove '..Said' where nothing that the law and all that it calls make is longer than what came in: it says more and counts as full. Else prove '..UptoSaid'. A law counts once. -/
mutual
def uptoBulk {H : Type} : DataW H → Nat
  | .lit (.string bytes) => bytes.length + 1
  | .lit _ => 1
  | .nil => 1
  | .ptr d => uptoBulk d + 1
  | .slice elems spare => uptoBulkAll elems + uptoBulkAll spare + 1
  | .agg parts => uptoBulkAll parts + 1
  | .iface _ d => uptoBulk d + 1
  | .map entries => uptoBulkEntries entries + 1
  | .held _ => 1
def uptoBulkAll {H : Type} : List (DataW H) → Nat
  | [] => 0
  | d :: r => uptoBulk d + uptoBulkAll r
def uptoBulkEntries {H : Type} : List (Lit × DataW H) → Nat
  | [] => 0
  | x :: r => uptoBulkEntry x + uptoBulkEntries r
def uptoBulkEntry {H : Type} : Lit × DataW H → Nat
  | (.string bytes, d) => bytes.length + uptoBulk d + 1
  | (_, d) => uptoBulk d + 1
 end
def uptoSmall : (H : Type) → List (DataW H) → Bool := fun _ ds => decide (uptoBulkAll ds ≤ 1048576)
def OpenSpec.upto (s : _root_.Go.ChangeSpec) : _root_.Go.OpenSpec := { _root_.Go.OpenSpec.ofChange s with cond := some uptoSmall }

/-- 'curfewlaw32.PollPlays', WHERE WHAT IT READS IS OF BULK AT MOST 1048576: true; the input reads as it did. -/
def pollPlaysUptoRow : OpenClaim := { program := "ytbleeejhejkkcaa", sum := "7b2f03861524cefde0220c6a9719a6c95a8e049e347584ba4f419fee64350a5f", func := "curfew/curfewlaw32.PollPlays", spec := "pollPlays", recurses := true, apart := false, narrowed := true }
def PollPlaysUptoSaid : Prop := pollPlaysUptoRow.holds Try.pinned (OpenSpec.upto pollPlaysSpec)

/-- 'curfewlaw32.PollStays', WHERE WHAT IT READS IS OF BULK AT MOST 1048576: true; the input reads as it did. -/
def pollStaysUptoRow : OpenClaim := { program := "ytbleeejhejkkcaa", sum := "7b2f03861524cefde0220c6a9719a6c95a8e049e347584ba4f419fee64350a5f", func := "curfew/curfewlaw32.PollStays", spec := "pollStays", recurses := true, apart := false, narrowed := true }
def PollStaysUptoSaid : Prop := pollStaysUptoRow.holds Try.pinned (OpenSpec.upto pollStaysSpec)

/-- 'curfewlaw32.PollOne', WHERE WHAT IT READS IS OF BULK AT MOST 1048576: true; the input reads as it did. -/
def pollOneUptoRow : OpenClaim := { program := "ytbleeejhejkkcaa", sum := "7b2f03861524cefde0220c6a9719a6c95a8e049e347584ba4f419fee64350a5f", func := "curfew/curfewlaw32.PollOne", spec := "pollOne", recurses := true, apart := false, narrowed := true }
def PollOneUptoSaid : Prop := pollOneUptoRow.holds Try.pinned (OpenSpec.upto pollOneSpec)

/-- 'curfewlaw32.PollNobody', WHERE WHAT IT READS IS OF BULK AT MOST 1048576: true; the input reads as it did. -/
def pollNobodyUptoRow : OpenClaim := { program := "ytbleeejhejkkcaa", sum := "7b2f03861524cefde0220c6a9719a6c95a8e049e347584ba4f419fee64350a5f", func := "curfew/curfewlaw32.PollNobody", spec := "pollNobody", recurses := true, apart := false, narrowed := true }
def PollNobodyUptoSaid : Prop := pollNobodyUptoRow.holds Try.pinned (OpenSpec.upto pollNobodySpec)

/-- 'curfewlaw20.SessionPlays', WHERE WHAT IT READS IS OF BULK AT MOST 1048576: true; the input reads as it did. -/
def sessionPlaysUptoRow : OpenClaim := { program := "ytbleeejhejkkcaa", sum := "7b2f03861524cefde0220c6a9719a6c95a8e049e347584ba4f419fee64350a5f", func := "curfew/curfewlaw20.SessionPlays", spec := "sessionPlays", unfollowed := true, recurses := true, apart := false, narrowed := true }
def SessionPlaysUptoSaid : Prop := sessionPlaysUptoRow.holds Try.pinned (OpenSpec.upto sessionPlaysSpec)

/-- 'curfewlaw20.SessionReads', WHERE WHAT IT READS IS OF BULK AT MOST 1048576: true; the input reads as it did. -/
def sessionReadsUptoRow : OpenClaim := { program := "ytbleeejhejkkcaa", sum := "7b2f03861524cefde0220c6a9719a6c95a8e049e347584ba4f419fee64350a5f", func := "curfew/curfewlaw20.SessionReads", spec := "sessionReads", unfollowed := true, recurses := true, apart := false, narrowed := true }
def SessionReadsUptoSaid : Prop := sessionReadsUptoRow.holds Try.pinned (OpenSpec.upto sessionReadsSpec)

/-- 'curfewlaw20.SessionApart', WHERE WHAT IT READS IS OF BULK AT MOST 1048576: true; the input reads as it did. -/
def sessionApartUptoRow : OpenClaim := { program := "ytbleeejhejkkcaa", sum := "7b2f03861524cefde0220c6a9719a6c95a8e049e347584ba4f419fee64350a5f", func := "curfew/curfewlaw20.SessionApart", spec := "sessionApart", unfollowed := true, recurses := true, apart := false, narrowed := true }
def SessionApartUptoSaid : Prop := sessionApartUptoRow.holds Try.pinned (OpenSpec.upto sessionApartSpec)

end Rows
end Go.Proofs.Ytbleeejhejkkcaa
