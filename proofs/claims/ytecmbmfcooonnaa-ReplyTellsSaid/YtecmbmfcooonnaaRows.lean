/-
  No cell of these rows narrows 'for every input' (looked for: loops, veiled, ifaces, maps, wideKeys, modest, calm, conditions, laid).
  DERIVED. THE GIVEN ROWS OF THIS SEAT. 10 by the template 'for every input the law returns true; each argument reads behind the call as it read before'; 0 by the template 'total and deterministic' (their statements: YtecmbmfcooonnaaTotals.lean).
  GIVEN WITH THE SEED: the statements are not yours to turn. If you find one false, say at which input.
  Laid BY PROGRAM, IN A SANDBOX (cutbox-rows.mjs): the forced cells as the released guide's own fill.sh prints them over the translation a50ce31ac0c7568f… (all of the seat's roots in one cut). By AI agents, Wed Nov 11 2026. No macro, syntax, notation, axiom, sorry.
-/
import Derived.Test.YtecmbmfcooonnaaChecked
import GoSem.Claim
import GoSem.ClaimJoined
import GoSem.ClaimMapViews
import Derived.JoinedTies
import Derived.KernelRfl
namespace Go.Proofs.Ytecmbmfcooonnaa
/- THE CELL 'sum', in the pinned program and in every row, IS THE sha256 OF THE DUMP (.gsa) THAT YtecmbmfcooonnaaProg.lean LOADS. Nothing in Lean hashes anything: it is a label: what it is worth is what the hold of that sum in a sandbox is worth. -/
noncomputable def Try.pinned : Pinned := { name := "ytecmbmfcooonnaa", sum := "a50ce31ac0c7568f148271adec7b1c03266c08e4740a426b0dea31df25016771", checked := Try.checked }
namespace Rows
def none {H : Type} : Left H := { results := [], args := [] }

/-- 'curfewlaw29.MemberSteps': WHATEVER THE INPUT: true; the input reads as it did. -/
def memberStepsSpec : ChangeSpec := { name := "memberSteps", fn := fun _ => fun
  | [d1, d2] => { results := [.lit (.bool true)], args := [d1, d2] }
  | _ => none }
def memberStepsRow : OpenClaim := { program := "ytecmbmfcooonnaa", sum := "a50ce31ac0c7568f148271adec7b1c03266c08e4740a426b0dea31df25016771", func := "curfew/curfewlaw29.MemberSteps", spec := "memberSteps", apart := false }
def MemberStepsSaid : Prop := memberStepsRow.holds Try.pinned (OpenSpec.ofChange memberStepsSpec)

/-- ITS FALSE NEIGHBOUR: 'it returns false'. Refute it at one input. -/
def memberStepsWrong : ChangeSpec := { name := "memberSteps", fn := fun _ => fun
  | [d1, d2] => { results := [.lit (.bool false)], args := [d1, d2] }
  | _ => none }
def MemberStepsWrongFalsely : Prop := memberStepsRow.holds Try.pinned (OpenSpec.ofChange memberStepsWrong)

/-- 'curfewlaw29.MemberSays': WHATEVER THE INPUT: true; the input reads as it did. -/
def memberSaysSpec : ChangeSpec := { name := "memberSays", fn := fun _ => fun
  | [d1, d2, d3, d4] => { results := [.lit (.bool true)], args := [d1, d2, d3, d4] }
  | _ => none }
def memberSaysRow : OpenClaim := { program := "ytecmbmfcooonnaa", sum := "a50ce31ac0c7568f148271adec7b1c03266c08e4740a426b0dea31df25016771", func := "curfew/curfewlaw29.MemberSays", spec := "memberSays", unfollowed := true, recurses := true, apart := false }
def MemberSaysSaid : Prop := memberSaysRow.holds Try.pinned (OpenSpec.ofChange memberSaysSpec)

/-- ITS FALSE NEIGHBOUR: 'it returns false'. Refute it at one input. -/
def memberSaysWrong : ChangeSpec := { name := "memberSays", fn := fun _ => fun
  | [d1, d2, d3, d4] => { results := [.lit (.bool false)], args := [d1, d2, d3, d4] }
  | _ => none }
def MemberSaysWrongFalsely : Prop := memberSaysRow.holds Try.pinned (OpenSpec.ofChange memberSaysWrong)

/-- 'curfewlaw29.MemberMeets': WHATEVER THE INPUT: true; the input reads as it did. -/
def memberMeetsSpec : ChangeSpec := { name := "memberMeets", fn := fun _ => fun
  | [d1, d2, d3, d4] => { results := [.lit (.bool true)], args := [d1, d2, d3, d4] }
  | _ => none }
def memberMeetsRow : OpenClaim := { program := "ytecmbmfcooonnaa", sum := "a50ce31ac0c7568f148271adec7b1c03266c08e4740a426b0dea31df25016771", func := "curfew/curfewlaw29.MemberMeets", spec := "memberMeets", unfollowed := true, recurses := true, apart := false }
def MemberMeetsSaid : Prop := memberMeetsRow.holds Try.pinned (OpenSpec.ofChange memberMeetsSpec)

/-- ITS FALSE NEIGHBOUR: 'it returns false'. Refute it at one input. -/
def memberMeetsWrong : ChangeSpec := { name := "memberMeets", fn := fun _ => fun
  | [d1, d2, d3, d4] => { results := [.lit (.bool false)], args := [d1, d2, d3, d4] }
  | _ => none }
def MemberMeetsWrongFalsely : Prop := memberMeetsRow.holds Try.pinned (OpenSpec.ofChange memberMeetsWrong)

/-- 'curfewlaw29.MemberBytes': WHATEVER THE INPUT: true; the input reads as it did. -/
def memberBytesSpec : ChangeSpec := { name := "memberBytes", fn := fun _ => fun
  | [d1, d2] => { results := [.lit (.bool true)], args := [d1, d2] }
  | _ => none }
def memberBytesRow : OpenClaim := { program := "ytecmbmfcooonnaa", sum := "a50ce31ac0c7568f148271adec7b1c03266c08e4740a426b0dea31df25016771", func := "curfew/curfewlaw29.MemberBytes", spec := "memberBytes", apart := false }
def MemberBytesSaid : Prop := memberBytesRow.holds Try.pinned (OpenSpec.ofChange memberBytesSpec)

/-- ITS FALSE NEIGHBOUR: 'it returns false'. Refute it at one input. -/
def memberBytesWrong : ChangeSpec := { name := "memberBytes", fn := fun _ => fun
  | [d1, d2] => { results := [.lit (.bool false)], args := [d1, d2] }
  | _ => none }
def MemberBytesWrongFalsely : Prop := memberBytesRow.holds Try.pinned (OpenSpec.ofChange memberBytesWrong)

/-- 'curfewlaw19.ReplyWrites': WHATEVER THE INPUT: true; the input reads as it did. -/
def replyWritesSpec : ChangeSpec := { name := "replyWrites", fn := fun _ => fun
  | [d1, d2] => { results := [.lit (.bool true)], args := [d1, d2] }
  | _ => none }
def replyWritesRow : OpenClaim := { program := "ytecmbmfcooonnaa", sum := "a50ce31ac0c7568f148271adec7b1c03266c08e4740a426b0dea31df25016771", func := "curfew/curfewlaw19.ReplyWrites", spec := "replyWrites", unfollowed := true, recurses := true, apart := false }
def ReplyWritesSaid : Prop := replyWritesRow.holds Try.pinned (OpenSpec.ofChange replyWritesSpec)

/-- ITS FALSE NEIGHBOUR: 'it returns false'. Refute it at one input. -/
def replyWritesWrong : ChangeSpec := { name := "replyWrites", fn := fun _ => fun
  | [d1, d2] => { results := [.lit (.bool false)], args := [d1, d2] }
  | _ => none }
def ReplyWritesWrongFalsely : Prop := replyWritesRow.holds Try.pinned (OpenSpec.ofChange replyWritesWrong)

/-- 'curfewlaw19.ReplyReads': WHATEVER THE INPUT: true; the input reads as it did. -/
def replyReadsSpec : ChangeSpec := { name := "replyReads", fn := fun _ => fun
  | [d] => { results := [.lit (.bool true)], args := [d] }
  | _ => none }
def replyReadsRow : OpenClaim := { program := "ytecmbmfcooonnaa", sum := "a50ce31ac0c7568f148271adec7b1c03266c08e4740a426b0dea31df25016771", func := "curfew/curfewlaw19.ReplyReads", spec := "replyReads", unfollowed := true, recurses := true, apart := false }
def ReplyReadsSaid : Prop := replyReadsRow.holds Try.pinned (OpenSpec.ofChange replyReadsSpec)

/-- ITS FALSE NEIGHBOUR: 'it returns false'. Refute it at one input. -/
def replyReadsWrong : ChangeSpec := { name := "replyReads", fn := fun _ => fun
  | [d] => { results := [.lit (.bool false)], args := [d] }
  | _ => none }
def ReplyReadsWrongFalsely : Prop := replyReadsRow.holds Try.pinned (OpenSpec.ofChange replyReadsWrong)

/-- 'curfewlaw19.ReplyTells': WHATEVER THE INPUT: true; the input reads as it did. -/
def replyTellsSpec : ChangeSpec := { name := "replyTells", fn := fun _ => fun
  | [d1, d2, d3] => { results := [.lit (.bool true)], args := [d1, d2, d3] }
  | _ => none }
def replyTellsRow : OpenClaim := { program := "ytecmbmfcooonnaa", sum := "a50ce31ac0c7568f148271adec7b1c03266c08e4740a426b0dea31df25016771", func := "curfew/curfewlaw19.ReplyTells", spec := "replyTells", unfollowed := true, recurses := true, apart := false }
def ReplyTellsSaid : Prop := replyTellsRow.holds Try.pinned (OpenSpec.ofChange replyTellsSpec)

/-- ITS FALSE NEIGHBOUR: 'it returns false'. Refute it at one input. -/
def replyTellsWrong : ChangeSpec := { name := "replyTells", fn := fun _ => fun
  | [d1, d2, d3] => { results := [.lit (.bool false)], args := [d1, d2, d3] }
  | _ => none }
def ReplyTellsWrongFalsely : Prop := replyTellsRow.holds Try.pinned (OpenSpec.ofChange replyTellsWrong)

/-- 'curfewlaw38.ClientOnce': WHATEVER THE INPUT: true; the input reads as it did. -/
def clientOnceSpec : ChangeSpec := { name := "clientOnce", fn := fun _ => fun
  | [d] => { results := [.lit (.bool true)], args := [d] }
  | _ => none }
def clientOnceRow : OpenClaim := { program := "ytecmbmfcooonnaa", sum := "a50ce31ac0c7568f148271adec7b1c03266c08e4740a426b0dea31df25016771", func := "curfew/curfewlaw38.ClientOnce", spec := "clientOnce", unfollowed := true, recurses := true, apart := false }
def ClientOnceSaid : Prop := clientOnceRow.holds Try.pinned (OpenSpec.ofChange clientOnceSpec)

/-- ITS FALSE NEIGHBOUR: 'it returns false'. Refute it at one input. -/
def clientOnceWrong : ChangeSpec := { name := "clientOnce", fn := fun _ => fun
  | [d] => { results := [.lit (.bool false)], args := [d] }
  | _ => none }
def ClientOnceWrongFalsely : Prop := clientOnceRow.holds Try.pinned (OpenSpec.ofChange clientOnceWrong)

/-- 'curfewlaw38.ClientPlays': WHATEVER THE INPUT: true; the input reads as it did. -/
def clientPlaysSpec : ChangeSpec := { name := "clientPlays", fn := fun _ => fun
  | [d1, d2, d3] => { results := [.lit (.bool true)], args := [d1, d2, d3] }
  | _ => none }
def clientPlaysRow : OpenClaim := { program := "ytecmbmfcooonnaa", sum := "a50ce31ac0c7568f148271adec7b1c03266c08e4740a426b0dea31df25016771", func := "curfew/curfewlaw38.ClientPlays", spec := "clientPlays", unfollowed := true, recurses := true, apart := false }
def ClientPlaysSaid : Prop := clientPlaysRow.holds Try.pinned (OpenSpec.ofChange clientPlaysSpec)

/-- ITS FALSE NEIGHBOUR: 'it returns false'. Refute it at one input. -/
def clientPlaysWrong : ChangeSpec := { name := "clientPlays", fn := fun _ => fun
  | [d1, d2, d3] => { results := [.lit (.bool false)], args := [d1, d2, d3] }
  | _ => none }
def ClientPlaysWrongFalsely : Prop := clientPlaysRow.holds Try.pinned (OpenSpec.ofChange clientPlaysWrong)

/-- 'curfewlaw38.ClientNobody': WHATEVER THE INPUT: true; the input reads as it did. -/
def clientNobodySpec : ChangeSpec := { name := "clientNobody", fn := fun _ => fun
  | [d] => { results := [.lit (.bool true)], args := [d] }
  | _ => none }
def clientNobodyRow : OpenClaim := { program := "ytecmbmfcooonnaa", sum := "a50ce31ac0c7568f148271adec7b1c03266c08e4740a426b0dea31df25016771", func := "curfew/curfewlaw38.ClientNobody", spec := "clientNobody", unfollowed := true, recurses := true, apart := false }
def ClientNobodySaid : Prop := clientNobodyRow.holds Try.pinned (OpenSpec.ofChange clientNobodySpec)

/-- ITS FALSE NEIGHBOUR: 'it returns false'. Refute it at one input. -/
def clientNobodyWrong : ChangeSpec := { name := "clientNobody", fn := fun _ => fun
  | [d] => { results := [.lit (.bool false)], args := [d] }
  | _ => none }
def ClientNobodyWrongFalsely : Prop := clientNobodyRow.holds Try.pinned (OpenSpec.ofChange clientNobodyWrong)

/- THE SECOND FORM. 'bulk': how many values and letters a reading holds, each counted each time it is reached (what is shared counts as often as it is met; a slice's spare places count too). A statement '..UptoSaid' is the law's where the arguments, and the package variables that the reading takes, are together of bulk at most 1048576: NARROWER than '..Said'. Prove '..Said' where nothing that the law and all that it calls make is longer than what came in: it says more and counts as full. Else prove '..UptoSaid'. A law counts once. -/
mutual
def uptoBulk {H : Type} : DataW H → Nat
  | .lit (.string bytes) => bytes.length + 1
  | .lit _ => 1
  | .nil => 1
  | .ptr d => uptoBulk d + 1
  | .slice elems spare => uptoBulkAll elems + uptoBulkAll spare + 1
  | .agg parts => uptoBulkAll parts + 1
  | .iface _ d => uptoBulk d + 1
  | .map entries => uptoBulkEntries entries + 1
  | .held _ => 1
def uptoBulkAll {H : Type} : List (DataW H) → Nat
  | [] => 0
  | d :: r => uptoBulk d + uptoBulkAll r
def uptoBulkEntries {H : Type} : List (Lit × DataW H) → Nat
  | [] => 0
  | x :: r => uptoBulkEntry x + uptoBulkEntries r
def uptoBulkEntry {H : Type} : Lit × DataW H → Nat
  | (.string bytes, d) => bytes.length + uptoBulk d + 1
  | (_, d) => uptoBulk d + 1
 end
def uptoSmall : (H : Type) → List (DataW H) → Bool := fun _ ds => decide (uptoBulkAll ds ≤ 1048576)
def OpenSpec.upto (s : _root_.Go.ChangeSpec) : _root_.Go.OpenSpec := { _root_.Go.OpenSpec.ofChange s with cond := some uptoSmall }

/-- 'curfewlaw29.MemberSteps', WHERE WHAT IT READS IS OF BULK AT MOST 1048576: true; the input reads as it did. -/
def memberStepsUptoRow : OpenClaim := { program := "ytecmbmfcooonnaa", sum := "a50ce31ac0c7568f148271adec7b1c03266c08e4740a426b0dea31df25016771", func := "curfew/curfewlaw29.MemberSteps", spec := "memberSteps", apart := false, narrowed := true }
def MemberStepsUptoSaid : Prop := memberStepsUptoRow.holds Try.pinned (OpenSpec.upto memberStepsSpec)

/-- 'curfewlaw29.MemberSays', WHERE WHAT IT READS IS OF BULK AT MOST 1048576: true; the input reads as it did. -/
def memberSaysUptoRow : OpenClaim := { program := "ytecmbmfcooonnaa", sum := "a50ce31ac0c7568f148271adec7b1c03266c08e4740a426b0dea31df25016771", func := "curfew/curfewlaw29.MemberSays", spec := "memberSays", unfollowed := true, recurses := true, apart := false, narrowed := true }
def MemberSaysUptoSaid : Prop := memberSaysUptoRow.holds Try.pinned (OpenSpec.upto memberSaysSpec)

/-- 'curfewlaw29.MemberMeets', WHERE WHAT IT READS IS OF BULK AT MOST 1048576: true; the input reads as it did. -/
def memberMeetsUptoRow : OpenClaim := { program := "ytecmbmfcooonnaa", sum := "a50ce31ac0c7568f148271adec7b1c03266c08e4740a426b0dea31df25016771", func := "curfew/curfewlaw29.MemberMeets", spec := "memberMeets", unfollowed := true, recurses := true, apart := false, narrowed := true }
def MemberMeetsUptoSaid : Prop := memberMeetsUptoRow.holds Try.pinned (OpenSpec.upto memberMeetsSpec)

/-- 'curfewlaw29.MemberBytes', WHERE WHAT IT READS IS OF BULK AT MOST 1048576: true; the input reads as it did. -/
def memberBytesUptoRow : OpenClaim := { program := "ytecmbmfcooonnaa", sum := "a50ce31ac0c7568f148271adec7b1c03266c08e4740a426b0dea31df25016771", func := "curfew/curfewlaw29.MemberBytes", spec := "memberBytes", apart := false, narrowed := true }
def MemberBytesUptoSaid : Prop := memberBytesUptoRow.holds Try.pinned (OpenSpec.upto memberBytesSpec)

/-- 'curfewlaw19.ReplyWrites', WHERE WHAT IT READS IS OF BULK AT MOST 1048576: true; the input reads as it did. -/
def replyWritesUptoRow : OpenClaim := { program := "ytecmbmfcooonnaa", sum := "a50ce31ac0c7568f148271adec7b1c03266c08e4740a426b0dea31df25016771", func := "curfew/curfewlaw19.ReplyWrites", spec := "replyWrites", unfollowed := true, recurses := true, apart := false, narrowed := true }
def ReplyWritesUptoSaid : Prop := replyWritesUptoRow.holds Try.pinned (OpenSpec.upto replyWritesSpec)

/-- 'curfewlaw19.ReplyReads', WHERE WHAT IT READS IS OF BULK AT MOST 1048576: true; the input reads as it did. -/
def replyReadsUptoRow : OpenClaim := { program := "ytecmbmfcooonnaa", sum := "a50ce31ac0c7568f148271adec7b1c03266c08e4740a426b0dea31df25016771", func := "curfew/curfewlaw19.ReplyReads", spec := "replyReads", unfollowed := true, recurses := true, apart := false, narrowed := true }
def ReplyReadsUptoSaid : Prop := replyReadsUptoRow.holds Try.pinned (OpenSpec.upto replyReadsSpec)

/-- 'curfewlaw19.ReplyTells', WHERE WHAT IT READS IS OF BULK AT MOST 1048576: true; the input reads as it did. -/
def replyTellsUptoRow : OpenClaim := { program := "ytecmbmfcooonnaa", sum := "a50ce31ac0c7568f148271adec7b1c03266c08e4740a426b0dea31df25016771", func := "curfew/curfewlaw19.ReplyTells", spec := "replyTells", unfollowed := true, recurses := true, apart := false, narrowed := true }
def ReplyTellsUptoSaid : Prop := replyTellsUptoRow.holds Try.pinned (OpenSpec.upto replyTellsSpec)

/-- 'curfewlaw38.ClientOnce', WHERE WHAT IT READS IS OF BULK AT MOST 1048576: true; the input reads as it did. -/
def clientOnceUptoRow : OpenClaim := { program := "ytecmbmfcooonnaa", sum := "a50ce31ac0c7568f148271adec7b1c03266c08e4740a426b0dea31df25016771", func := "curfew/curfewlaw38.ClientOnce", spec := "clientOnce", unfollowed := true, recurses := true, apart := false, narrowed := true }
def ClientOnceUptoSaid : Prop := clientOnceUptoRow.holds Try.pinned (OpenSpec.upto clientOnceSpec)

/-- 'curfewlaw38.ClientPlays', WHERE WHAT IT READS IS OF BULK AT MOST 1048576: true; the input reads as it did. -/
def clientPlaysUptoRow : OpenClaim := { program := "ytecmbmfcooonnaa", sum := "a50ce31ac0c7568f148271adec7b1c03266c08e4740a426b0dea31df25016771", func := "curfew/curfewlaw38.ClientPlays", spec := "clientPlays", unfollowed := true, recurses := true, apart := false, narrowed := true }
def ClientPlaysUptoSaid : Prop := clientPlaysUptoRow.holds Try.pinned (OpenSpec.upto clientPlaysSpec)

/-- 'curfewlaw38.ClientNobody', WHERE WHAT IT READS IS OF BULK AT MOST 1048576: true; the input reads as it did. -/
def clientNobodyUptoRow : OpenClaim := { program := "ytecmbmfcooonnaa", sum := "a50ce31ac0c7568f148271adec7b1c03266c08e4740a426b0dea31df25016771", func := "curfew/curfewlaw38.ClientNobody", spec := "clientNobody", unfollowed := true, recurses := true, apart := false, narrowed := true }
def ClientNobodyUptoSaid : Prop := clientNobodyUptoRow.holds Try.pinned (OpenSpec.upto clientNobodySpec)

end Rows
end Go.Proofs.Ytecmbmfcooonnaa
