/- What the calls of the reference's Reader do (chapter 1): they read just as quill's do. The reference's Reader, on: Num, Int, Flag, Raw, Text, End: told by the same Lean functions as quill's. A row's bytes; law29.lives. -/
import Derived.Test.YtpgakkpmpnebnaaVQuillY
import Derived.Test.YtpgakkpmpnebnaaVQuillZ
import Derived.Test.YtpgakkpmpnebnaaVQuillLaw
section
namespace Go.Proofs.Ytpgakkpmpnebnaa
open Go.RowKit
set_option maxHeartbeats 2000000
set_option maxRecDepth 100000

def rfOk (n : Nat) (l : List UInt8) : Bool := decide (n ≤ 8) && decide (n ≤ l.length) && !(decide (0 < n) && l.head? == some 0)

end Go.Proofs.Ytpgakkpmpnebnaa
end

section
namespace Go.Proofs.Ytpgakkpmpnebnaa
open Go.RowKit
set_option maxHeartbeats 2000000
set_option maxRecDepth 100000

theorem rdNum_left_le (m : Nat) (mk b : Bool) (l : List UInt8) : (rdNum m mk b l).left.length ≤ l.length := by
  unfold rdNum
  split
  · simp [rdFail]
  · split
    · split
      · simp; omega
      · simp [rdFail]
    · simp [rdFail]

end Go.Proofs.Ytpgakkpmpnebnaa
end

section
namespace Go.Proofs.Ytpgakkpmpnebnaa
open Go.RowKit
set_option maxHeartbeats 4000000
set_option maxRecDepth 100000
set_option linter.unusedVariables false

theorem Rd.litA (w : World) (g : Nat) (hg : w.heap.size = g) (t : TypeId) (cs : List Value) (n : Nat) (hn : cs.length = n) : Rd (w.alloc (.cells cs.toArray t)) (fun k => k = g) (some ⟨g, 0, none⟩) n cs := by
  subst hg; exact Rd.lit w t cs n hn

def bytesL (l : List Int) : List UInt8 := if Row.soundB l = true then encN 0 (Row.setN l) else []
def bytesE (l : List Int) : Int := if Row.soundB l = true then 0 else 2

theorem lives29_with : withL [0, 2] 1 = [0, 1, 2] ∧ withE [0, 2] 1 = 0 := by decide +kernel
theorem lives29_bytes : bytesL [0, 1, 2] = [1, 7] ∧ bytesE [0, 1, 2] = 0 := by decide +kernel
theorem lives29_quorum : (if Row.soundB [0, 1, 2, 3] = true then ((4 / 2 + 1 : Nat) : Int) else 0) = 3 := by decide +kernel

end Go.Proofs.Ytpgakkpmpnebnaa
end
