/- What the calls of quill's Writer do. quill's Reader, on: Raw, Text, End. quill's Writer, on: Num, Int, Flag, Raw, Text, Len, Bytes. quill's Writer, on: Flag, Text; law01.lives. -/
import Derived.Test.YtpgakkpmpnebnaaOwn
import Derived.Test.YtpgakkpmpnebnaaVQuillR2
import Derived.Deep.RegionHeld3
import Derived.Deep.RegionLaw
import Derived.Laws.ShiftsVarLaws
import Derived.Laws.IdiomStrings
section
namespace Go.Proofs.Ytpgakkpmpnebnaa
open Go.RowKit
set_option maxHeartbeats 2000000
set_option maxRecDepth 100000

/-- The digits of n to the base 256, the greatest first (at most f). -/
def dg : Nat → Nat → List UInt8
  | 0, _ => []
  | f + 1, n => if n = 0 then [] else dg f (n / 256) ++ [UInt8.ofNat (n % 256)]
def dig (n : Nat) : List UInt8 := dg 8 n
def encN (mark n : Nat) : List UInt8 := UInt8.ofNat (mark + (dig n).length) :: dig n

theorem dg_len : ∀ f n, (dg f n).length ≤ f
  | 0, _ => by simp [dg]
  | f + 1, n => by
    unfold dg
    split
    · simp
    · have := dg_len f (n / 256)
      simp; omega
theorem dg_more : ∀ f n, n < 256 ^ f → dg (f + 1) n = dg f n
  | 0, n, h => by
    have : n = 0 := by simpa using h
    subst this; simp [dg]
  | f + 1, n, h => by
    rw [dg]
    split
    · rename_i h0; simp [dg, h0]
    · rename_i h0
      have hd : n / 256 < 256 ^ f := by rw [Nat.pow_succ] at h; omega
      rw [dg_more f (n / 256) hd]
      conv => rhs; rw [dg, if_neg h0]
theorem dg_get : ∀ f n j, n < 256 ^ f → j < (dg f n).length → (dg f n).getD j 0 = UInt8.ofNat (n / 256 ^ ((dg f n).length - 1 - j) % 256)
  | 0, n, j, _, hj => by simp [dg] at hj
  | f + 1, n, j, h, hj => by
    unfold dg at hj ⊢
    split
    · rename_i h0; simp [h0] at hj
    · rename_i h0
      rw [if_neg h0] at hj
      have hd : n / 256 < 256 ^ f := by rw [Nat.pow_succ] at h; omega
      simp only [List.length_append, List.length_singleton] at hj ⊢
      by_cases hl : j < (dg f (n / 256)).length
      · have ih := dg_get f (n / 256) j hd hl
        have ea : (dg f (n / 256) ++ [UInt8.ofNat (n % 256)]).getD j 0 = (dg f (n / 256)).getD j 0 := by
          simp only [List.getD_eq_getElem?_getD]
          rw [List.getElem?_append_left hl]
        rw [ea, ih, Nat.div_div_eq_div_mul]
        congr 3
        rw [← Nat.pow_succ']
        congr 1
        omega
      · have hj' : j = (dg f (n / 256)).length := by omega
        subst hj'
        simp

/-- How many digits. -/
theorem dg_size : ∀ f k n, n / 256 ^ k < 256 ^ f → n < 256 ^ (f + k) → (n / 256 ^ k ≠ 0 ∨ k = 0 ∨ n / 256 ^ (k - 1) ≠ 0) → (dg (f + k) n).length = k + (dg f (n / 256 ^ k)).length := by
  intro f k
  induction k with
  | zero => intro n _ _ _; simp
  | succ k ih =>
    intro n h1 h2 h3
    have e : n / 256 ^ (k + 1) = n / 256 / 256 ^ k := by rw [Nat.div_div_eq_div_mul, ← Nat.pow_succ']
    have hn0 : n ≠ 0 := by
      rcases h3 with h3 | h3 | h3
      · intro h; subst h; simp at h3
      · omega
      · intro h; subst h; simp at h3
    rw [show f + (k + 1) = (f + k) + 1 by omega, dg, if_neg hn0, List.length_append, List.length_singleton]
    rw [e] at h1 ⊢
    rw [ih (n / 256) h1 (by rw [show f + (k + 1) = f + k + 1 by omega, Nat.pow_succ] at h2; omega) ?_]
    · omega
    · rcases h3 with h3 | h3 | h3
      · rw [e] at h3; exact .inl h3
      · omega
      · rcases Nat.eq_zero_or_pos k with rfl | hk
        · exact .inr (.inl rfl)
        · refine .inr (.inr ?_)
          rw [show k + 1 - 1 = (k - 1) + 1 by omega, Nat.pow_succ', ← Nat.div_div_eq_div_mul] at h3
          exact h3

theorem dig_size (n k : Nat) (hn : n < 256 ^ 8) (hk : k ≤ 8) (h0 : n / 256 ^ k = 0) (h1 : k = 0 ∨ n / 256 ^ (k - 1) ≠ 0) : (dig n).length = k := by
  have := dg_size (8 - k) k n (by rw [h0]; exact Nat.pow_pos (by decide)) (by rw [Nat.sub_add_cancel hk]; exact hn) (by
    rcases h1 with h1 | h1
    · exact .inr (.inl h1)
    · exact .inr (.inr h1))
  rw [Nat.sub_add_cancel hk, h0] at this
  unfold dig
  rw [this]
  have e : dg (8 - k) 0 = [] := by cases 8 - k <;> simp [dg]
  rw [e]; simp
theorem dig_getD (n j : Nat) (hn : n < 256 ^ 8) (hj : j < (dig n).length) : (dig n).getD j 0 = UInt8.ofNat (n / 256 ^ ((dig n).length - 1 - j) % 256) := dg_get 8 n j hn hj
theorem dig_le (n : Nat) : (dig n).length ≤ 8 := dg_len 8 n

theorem byte_at (n j k : Nat) (hk : (dig n).length = k) (hn : n < 256 ^ 8) (hj : j < k) : (Value.int .u8 (IntKind.u8.wrap ((n : Int) / 2 ^ (8 * ((k : Int) - 1 - j)).toNat))) = B8 ((dig n).getD j 0) := by
  subst hk
  rw [dig_getD n j hn hj, B8, IntKind.wrap_u8]
  have e : (8 * (((dig n).length : Int) - 1 - j)).toNat = 8 * ((dig n).length - 1 - j) := by omega
  have e2 : ((2 : Int) ^ (8 * ((dig n).length - 1 - j))) = ((256 ^ ((dig n).length - 1 - j) : Nat) : Int) := by
    rw [Int.natCast_pow]
    rw [Int.pow_mul]; rfl
  rw [e, e2]
  congr 1
  rw [UInt8.toNat_ofNat']
  omega

end Go.Proofs.Ytpgakkpmpnebnaa
end

section
namespace Go.Proofs.Ytpgakkpmpnebnaa
open Go.RowKit
set_option maxHeartbeats 1000000
set_option maxRecDepth 100000

theorem Rd.str {w : World} {F : Nat → Prop} {A : Option Addr} {n : Nat} {l : List UInt8} (h : Rd w F A n (l.map B8)) (c : Nat) :
    (convert 88 9 (.slice A n c)).run Try.prog w = .ok (.string ⟨l.toArray⟩) w := by
  have hl := h.1
  rw [List.length_map] at hl
  subst hl
  rcases A with _ | ad
  · have : l = [] := by
      rcases l with _ | ⟨x, l⟩
      · rfl
      · obtain ⟨_, _, e, _⟩ := h.2 (by simp); cases e
    subst this
    exact run_convert_bytes_nil w 88 5 Try.underlying88 Try.underlying5 _ _ 9 Try.underlying9
  · refine run_convert_bytes_back w 88 9 5 ad c l Try.underlying88 Try.underlying5 Try.underlying9 (fun j hj => ?_)
    exact h.add j _ (by simp [B8, hj])

structure RTxt where
  txt : List UInt8
  left : List UInt8
  bad : Bool
def rdText (most : Int) (bad : Bool) (l : List UInt8) : RTxt :=
  if most < 0 then ⟨[], [], true⟩
  else if (rdNum most.toNat false bad l).left.length < (rdNum most.toNat false bad l).val then ⟨[], [], true⟩
  else ⟨(rdNum most.toNat false bad l).left.take (rdNum most.toNat false bad l).val, (rdNum most.toNat false bad l).left.drop (rdNum most.toNat false bad l).val, (rdNum most.toNat false bad l).bad⟩

end Go.Proofs.Ytpgakkpmpnebnaa
end

section
namespace Go.Proofs.Ytpgakkpmpnebnaa
open Go.RowKit
set_option maxHeartbeats 2000000
set_option maxRecDepth 100000

def U64 (n : Nat) : Value := .int .u64 (n : Int)
def encs (ns : List Nat) : List UInt8 := ns.flatMap (encN 0)
theorem encN_len (m n : Nat) : (encN m n).length ≤ 9 := by have := dig_le n; simp [encN]; omega
theorem encs_len (ns : List Nat) : (encs ns).length ≤ 9 * ns.length := by
  induction ns with
  | nil => simp [encs]
  | cons n ns ih => have := encN_len 0 n; simp [encs] at *; omega
theorem encs_take (ns : List Nat) (j : Nat) (hj : j < ns.length) : encs (ns.take (j + 1)) = encs (ns.take j) ++ encN 0 (ns.getD j 0) := by
  rw [encs, encs, List.take_succ_eq_append_getElem hj, List.flatMap_append]
  simp [List.getD, List.getElem?_eq_getElem hj]

def I64 (n : Int) : Value := .int .i64 n
def encI (i : Int) : List UInt8 := if i < 0 then encN 128 (-1 - i).toNat else encN 0 i.toNat
def encIs (ns : List Int) : List UInt8 := ns.flatMap encI
theorem encI_len (i : Int) : (encI i).length ≤ 9 := by unfold encI; split <;> exact encN_len _ _
theorem encIs_len (ns : List Int) : (encIs ns).length ≤ 9 * ns.length := by
  induction ns with
  | nil => simp [encIs]
  | cons n ns ih => have := encI_len n; simp [encIs] at *; omega
theorem encIs_take (ns : List Int) (j : Nat) (hj : j < ns.length) : encIs (ns.take (j + 1)) = encIs (ns.take j) ++ encI (ns.getD j 0) := by
  rw [encIs, encIs, List.take_succ_eq_append_getElem hj, List.flatMap_append]
  simp [List.getD, List.getElem?_eq_getElem hj]

end Go.Proofs.Ytpgakkpmpnebnaa
end

section
namespace Go.Proofs.Ytpgakkpmpnebnaa
open Go.RowKit
set_option maxHeartbeats 2000000
set_option maxRecDepth 100000

/-- A literal slice of one element. -/
theorem Rd.lit (w : World) (t : TypeId) (cs : List Value) (n : Nat) (hn : cs.length = n) : Rd (w.alloc (.cells cs.toArray t)) (fun k => k = w.heap.size) (some ⟨w.heap.size, 0, none⟩) n cs :=
  ⟨hn, fun _ => ⟨w.heap.size, 0, rfl, by simp, rfl, fun j u hj => by rw [Nat.zero_add, (Blk.new w t cs.toArray).cell]; simpa using hj⟩⟩

def F8 (b : Bool) : Value := .bool b
def encF (b : Bool) : List UInt8 := if b then encN 0 1 else encN 0 0
def encFs (bs : List Bool) : List UInt8 := bs.flatMap encF
theorem encF_len (b : Bool) : (encF b).length ≤ 9 := by cases b <;> exact encN_len _ _
theorem encFs_len (ns : List Bool) : (encFs ns).length ≤ 9 * ns.length := by
  induction ns with
  | nil => simp [encFs]
  | cons n ns ih => have := encF_len n; simp [encFs] at *; omega
theorem encFs_take (ns : List Bool) (j : Nat) (hj : j < ns.length) : encFs (ns.take (j + 1)) = encFs (ns.take j) ++ encF (ns.getD j false) := by
  rw [encFs, encFs, List.take_succ_eq_append_getElem hj, List.flatMap_append]
  simp [List.getD, List.getElem?_eq_getElem hj]

/-- '[]byte(s)': a new block. -/
theorem conv_str (w : World) (s : ByteArray) (g : Nat) (hg : w.heap.size = g) (hs : s.size ≤ 9223372036854775807) : ∃ c o, (convert 9 88 (.string s)).run Try.prog w = .ok (.slice (some ⟨g, 0, none⟩) s.size c) ((w.alloc o).drew) ∧
    Rd ((w.alloc o).drew) (fun k => k = g) (some ⟨g, 0, none⟩) s.size (s.data.toList.map B8) ∧ s.size ≤ c ∧ c ≤ maxLen := by
  subst hg
  refine ⟨_, _, run_bytes_of_string w 9 88 5 s Try.underlying9 Try.underlying88 Try.underlying5, ⟨by rw [List.length_map]; exact Array.length_toList, fun _ => ⟨w.heap.size, 0, rfl, by simp, rfl, fun j u hj => ?_⟩⟩, grownCap_ge w s.size 0 5, grownCap_le_maxLen w s.size 0 5 (by unfold maxLen; omega)⟩
  rw [Nat.zero_add]
  have hj' : j < s.data.size := by simpa using (List.getElem?_eq_some_iff.1 hj).1
  have h1 := cell_of_row (w.drew.alloc (.cells (bytesRow s (grownCap w s.size 0 5)) 5 ((bytesRow s (grownCap w s.size 0 5)).size, (bytesRow s (grownCap w s.size 0 5)).size + 1))) w.heap.size j _ 5 _ (heap_alloc_new w.drew _)
  refine h1.trans ?_
  rw [bytesRow_at s _ j hj', ← hj, List.getElem?_map, show s.data.toList[j]? = some s.data[j] by simp]
  rfl

def encT (s : ByteArray) : List UInt8 := encN 0 s.size ++ s.data.toList

end Go.Proofs.Ytpgakkpmpnebnaa
end
