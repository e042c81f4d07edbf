/- quill's Reader, on: Raw, Text, End. quill's Writer, on: Num, Int, Flag, Raw, Text, Len, Bytes. quill's Writer, on: Flag, Text; law01.lives. -/
import Derived.Test.YtpgakkpmpnebnaaVQuillR2
import Derived.Laws.IdiomStrings
import Derived.Test.YtpgakkpmpnebnaaVQuillW
section
namespace Go.Proofs.Ytpgakkpmpnebnaa
open Go.RowKit
set_option maxHeartbeats 1000000
set_option maxRecDepth 100000

theorem Rd.str {w : World} {F : Nat → Prop} {A : Option Addr} {n : Nat} {l : List UInt8} (h : Rd w F A n (l.map B8)) (c : Nat) :
    (convert 88 9 (.slice A n c)).run Try.prog w = .ok (.string ⟨l.toArray⟩) w := by
  have hl := h.1
  rw [List.length_map] at hl
  subst hl
  rcases A with _ | ad
  · have : l = [] := by
      rcases l with _ | ⟨x, l⟩
      · rfl
      · obtain ⟨_, _, e, _⟩ := h.2 (by simp); cases e
    subst this
    exact run_convert_bytes_nil w 88 5 Try.underlying88 Try.underlying5 _ _ 9 Try.underlying9
  · refine run_convert_bytes_back w 88 9 5 ad c l Try.underlying88 Try.underlying5 Try.underlying9 (fun j hj => ?_)
    exact h.add j _ (by simp [B8, hj])

structure RTxt where
  txt : List UInt8
  left : List UInt8
  bad : Bool
def rdText (most : Int) (bad : Bool) (l : List UInt8) : RTxt :=
  if most < 0 then ⟨[], [], true⟩
  else if (rdNum most.toNat false bad l).left.length < (rdNum most.toNat false bad l).val then ⟨[], [], true⟩
  else ⟨(rdNum most.toNat false bad l).left.take (rdNum most.toNat false bad l).val, (rdNum most.toNat false bad l).left.drop (rdNum most.toNat false bad l).val, (rdNum most.toNat false bad l).bad⟩

end Go.Proofs.Ytpgakkpmpnebnaa
end

section
namespace Go.Proofs.Ytpgakkpmpnebnaa
open Go.RowKit
set_option maxHeartbeats 2000000
set_option maxRecDepth 100000

def U64 (n : Nat) : Value := .int .u64 (n : Int)
def encs (ns : List Nat) : List UInt8 := ns.flatMap (encN 0)
theorem encN_len (m n : Nat) : (encN m n).length ≤ 9 := by have := dig_le n; simp [encN]; omega
theorem encs_len (ns : List Nat) : (encs ns).length ≤ 9 * ns.length := by
  induction ns with
  | nil => simp [encs]
  | cons n ns ih => have := encN_len 0 n; simp [encs] at *; omega
theorem encs_take (ns : List Nat) (j : Nat) (hj : j < ns.length) : encs (ns.take (j + 1)) = encs (ns.take j) ++ encN 0 (ns.getD j 0) := by
  rw [encs, encs, List.take_succ_eq_append_getElem hj, List.flatMap_append]
  simp [List.getD, List.getElem?_eq_getElem hj]

def I64 (n : Int) : Value := .int .i64 n
def encI (i : Int) : List UInt8 := if i < 0 then encN 128 (-1 - i).toNat else encN 0 i.toNat
def encIs (ns : List Int) : List UInt8 := ns.flatMap encI
theorem encI_len (i : Int) : (encI i).length ≤ 9 := by unfold encI; split <;> exact encN_len _ _
theorem encIs_len (ns : List Int) : (encIs ns).length ≤ 9 * ns.length := by
  induction ns with
  | nil => simp [encIs]
  | cons n ns ih => have := encI_len n; simp [encIs] at *; omega
theorem encIs_take (ns : List Int) (j : Nat) (hj : j < ns.length) : encIs (ns.take (j + 1)) = encIs (ns.take j) ++ encI (ns.getD j 0) := by
  rw [encIs, encIs, List.take_succ_eq_append_getElem hj, List.flatMap_append]
  simp [List.getD, List.getElem?_eq_getElem hj]

end Go.Proofs.Ytpgakkpmpnebnaa
end

section
namespace Go.Proofs.Ytpgakkpmpnebnaa
open Go.RowKit
set_option maxHeartbeats 2000000
set_option maxRecDepth 100000

/-- A literal slice of one element. -/
theorem Rd.lit (w : World) (t : TypeId) (cs : List Value) (n : Nat) (hn : cs.length = n) : Rd (w.alloc (.cells cs.toArray t)) (fun k => k = w.heap.size) (some ⟨w.heap.size, 0, none⟩) n cs :=
  ⟨hn, fun _ => ⟨w.heap.size, 0, rfl, by simp, rfl, fun j u hj => by rw [Nat.zero_add, (Blk.new w t cs.toArray).cell]; simpa using hj⟩⟩

def F8 (b : Bool) : Value := .bool b
def encF (b : Bool) : List UInt8 := if b then encN 0 1 else encN 0 0
def encFs (bs : List Bool) : List UInt8 := bs.flatMap encF
theorem encF_len (b : Bool) : (encF b).length ≤ 9 := by cases b <;> exact encN_len _ _
theorem encFs_len (ns : List Bool) : (encFs ns).length ≤ 9 * ns.length := by
  induction ns with
  | nil => simp [encFs]
  | cons n ns ih => have := encF_len n; simp [encFs] at *; omega
theorem encFs_take (ns : List Bool) (j : Nat) (hj : j < ns.length) : encFs (ns.take (j + 1)) = encFs (ns.take j) ++ encF (ns.getD j false) := by
  rw [encFs, encFs, List.take_succ_eq_append_getElem hj, List.flatMap_append]
  simp [List.getD, List.getElem?_eq_getElem hj]

/-- '[]byte(s)': a new block. -/
theorem conv_str (w : World) (s : ByteArray) (g : Nat) (hg : w.heap.size = g) (hs : s.size ≤ 9223372036854775807) : ∃ c o, (convert 9 88 (.string s)).run Try.prog w = .ok (.slice (some ⟨g, 0, none⟩) s.size c) ((w.alloc o).drew) ∧
    Rd ((w.alloc o).drew) (fun k => k = g) (some ⟨g, 0, none⟩) s.size (s.data.toList.map B8) ∧ s.size ≤ c ∧ c ≤ maxLen := by
  subst hg
  refine ⟨_, _, run_bytes_of_string w 9 88 5 s Try.underlying9 Try.underlying88 Try.underlying5, ⟨by rw [List.length_map]; exact Array.length_toList, fun _ => ⟨w.heap.size, 0, rfl, by simp, rfl, fun j u hj => ?_⟩⟩, grownCap_ge w s.size 0 5, grownCap_le_maxLen w s.size 0 5 (by unfold maxLen; omega)⟩
  rw [Nat.zero_add]
  have hj' : j < s.data.size := by simpa using (List.getElem?_eq_some_iff.1 hj).1
  have h1 := cell_of_row (w.drew.alloc (.cells (bytesRow s (grownCap w s.size 0 5)) 5 ((bytesRow s (grownCap w s.size 0 5)).size, (bytesRow s (grownCap w s.size 0 5)).size + 1))) w.heap.size j _ 5 _ (heap_alloc_new w.drew _)
  refine h1.trans ?_
  rw [bytesRow_at s _ j hj', ← hj, List.getElem?_map, show s.data.toList[j]? = some s.data[j] by simp]
  rfl

def encT (s : ByteArray) : List UInt8 := encN 0 s.size ++ s.data.toList

end Go.Proofs.Ytpgakkpmpnebnaa
end
