/- quill's Writer, on: Flag, Text; law01.lives. -/
import Derived.Test.YtcblbjhhlnmkjaaGreatV16
namespace Go.Proofs.YtcblbjhhlnmkjaaGreat
open Go.RowKit
set_option maxHeartbeats 2000000
set_option maxRecDepth 100000

/-- A literal slice of one element. -/
theorem Rd.lit (w : World) (t : TypeId) (cs : List Value) (n : Nat) (hn : cs.length = n) : Rd (w.alloc (.cells cs.toArray t)) (fun k => k = w.heap.size) (some ⟨w.heap.size, 0, none⟩) n cs :=
  ⟨hn, fun _ => ⟨w.heap.size, 0, rfl, by simp, rfl, fun j u hj => by rw [Nat.zero_add, (Blk.new w t cs.toArray).cell]; simpa using hj⟩⟩

def F8 (b : Bool) : Value := .bool b
def encF (b : Bool) : List UInt8 := if b then encN 0 1 else encN 0 0
def encFs (bs : List Bool) : List UInt8 := bs.flatMap encF
theorem encF_len (b : Bool) : (encF b).length ≤ 9 := by cases b <;> exact encN_len _ _
theorem encFs_len (ns : List Bool) : (encFs ns).length ≤ 9 * ns.length := by
  induction ns with
  | nil => simp [encFs]
  | cons n ns ih => have := encF_len n; simp [encFs] at *; omega
theorem encFs_take (ns : List Bool) (j : Nat) (hj : j < ns.length) : encFs (ns.take (j + 1)) = encFs (ns.take j) ++ encF (ns.getD j false) := by
  rw [encFs, encFs, List.take_succ_eq_append_getElem hj, List.flatMap_append]
  simp [List.getD, List.getElem?_eq_getElem hj]

/-- '[]byte(s)': a new block. -/
theorem conv_str (w : World) (s : ByteArray) (g : Nat) (hg : w.heap.size = g) (hs : s.size ≤ 9223372036854775807) : ∃ c o, (convert 9 49 (.string s)).run Tryz.prog w = .ok (.slice (some ⟨g, 0, none⟩) s.size c) ((w.alloc o).drew) ∧
    Rd ((w.alloc o).drew) (fun k => k = g) (some ⟨g, 0, none⟩) s.size (s.data.toList.map B8) ∧ s.size ≤ c ∧ c ≤ maxLen := by
  subst hg
  refine ⟨_, _, run_bytes_of_string w 9 49 5 s Tryz.underlying9 Tryz.underlying49 Tryz.underlying5, ⟨by rw [List.length_map]; exact Array.length_toList, fun _ => ⟨w.heap.size, 0, rfl, by simp, rfl, fun j u hj => ?_⟩⟩, grownCap_ge w s.size 0 5, grownCap_le_maxLen w s.size 0 5 (by unfold maxLen; omega)⟩
  rw [Nat.zero_add]
  have hj' : j < s.data.size := by simpa using (List.getElem?_eq_some_iff.1 hj).1
  have h1 := cell_of_row (w.drew.alloc (.cells (bytesRow s (grownCap w s.size 0 5)) 5 ((bytesRow s (grownCap w s.size 0 5)).size, (bytesRow s (grownCap w s.size 0 5)).size + 1))) w.heap.size j _ 5 _ (heap_alloc_new w.drew _)
  refine h1.trans ?_
  rw [bytesRow_at s _ j hj', ← hj, List.getElem?_map, show s.data.toList[j]? = some s.data[j] by simp]
  rfl

def encT (s : ByteArray) : List UInt8 := encN 0 s.size ++ s.data.toList

end Go.Proofs.YtcblbjhhlnmkjaaGreat
