/- quill's Reader, on: Raw, Text, End. quill's Writer, on: Num, Int, Flag, Raw, Text, Len, Bytes. quill's Writer, on: Flag, Text; law01.lives. -/
import Derived.Test.YtlcefchbfjfifaaGreatVQuillR2
import Derived.Laws.IdiomStrings
import Derived.Test.YtlcefchbfjfifaaGreatVQuillW
section
namespace Go.Proofs.YtlcefchbfjfifaaGreat
open Go.RowKit
set_option maxHeartbeats 1000000
set_option maxRecDepth 100000

/-- What Raw hands back: a new slice of the bytes xs; the reader is left as (l, bad). -/
def RawPost (n : Nat) (xs l : List UInt8) (bad : Bool) (w : World) (g : Nat) (F : Nat → Prop) (e : Ending) (w' : World) : Prop :=
  ∃ A c, e = .returned (.slice A n c) ∧ n ≤ c ∧ c ≤ maxLen ∧ Rd w' (fun k => w.heap.size ≤ k) A n (xs.map B8) ∧ RdAt w' g F l bad ∧ Touch (fun k => k = g) w w'

theorem rdAt_touch {w w' : World} {g : Nat} {F S : Nat → Prop} {l : List UInt8} {bad : Bool} (h : RdAt w g F l bad) (ht : Touch S w w') (hg : ¬ S g) (hF : ∀ k, F k → ¬ S k) : RdAt w' g F l bad := by
  obtain ⟨hgF, A, cap, hl, hm, hb, hr⟩ := h
  exact ⟨hgF, A, cap, hl, hm, ht.blk hb hg, hr.touch ht hF⟩

theorem Rd.str {w : World} {F : Nat → Prop} {A : Option Addr} {n : Nat} {l : List UInt8} (h : Rd w F A n (l.map B8)) (c : Nat) :
    (convert 25 9 (.slice A n c)).run Tryz.prog w = .ok (.string ⟨l.toArray⟩) w := by
  have hl := h.1
  rw [List.length_map] at hl
  subst hl
  rcases A with _ | ad
  · have : l = [] := by
      rcases l with _ | ⟨x, l⟩
      · rfl
      · obtain ⟨_, _, e, _⟩ := h.2 (by simp); cases e
    subst this
    exact run_convert_bytes_nil w 25 5 Tryz.underlying25 Tryz.underlying5 _ _ 9 Tryz.underlying9
  · refine run_convert_bytes_back w 25 9 5 ad c l Tryz.underlying25 Tryz.underlying5 Tryz.underlying9 (fun j hj => ?_)
    exact h.add j _ (by simp [B8, hj])

structure RTxt where
  txt : List UInt8
  left : List UInt8
  bad : Bool
def rdText (most : Int) (bad : Bool) (l : List UInt8) : RTxt :=
  if most < 0 then ⟨[], [], true⟩
  else if (rdNum most.toNat false bad l).left.length < (rdNum most.toNat false bad l).val then ⟨[], [], true⟩
  else ⟨(rdNum most.toNat false bad l).left.take (rdNum most.toNat false bad l).val, (rdNum most.toNat false bad l).left.drop (rdNum most.toNat false bad l).val, (rdNum most.toNat false bad l).bad⟩

end Go.Proofs.YtlcefchbfjfifaaGreat
end

section
namespace Go.Proofs.YtlcefchbfjfifaaGreat
open Go.RowKit
set_option maxHeartbeats 2000000
set_option maxRecDepth 100000

def U64 (n : Nat) : Value := .int .u64 (n : Int)
def encs (ns : List Nat) : List UInt8 := ns.flatMap (encN 0)
theorem encN_len (m n : Nat) : (encN m n).length ≤ 9 := by have := dig_le n; simp [encN]; omega
theorem encs_len (ns : List Nat) : (encs ns).length ≤ 9 * ns.length := by
  induction ns with
  | nil => simp [encs]
  | cons n ns ih => have := encN_len 0 n; simp [encs] at *; omega
theorem encs_take (ns : List Nat) (j : Nat) (hj : j < ns.length) : encs (ns.take (j + 1)) = encs (ns.take j) ++ encN 0 (ns.getD j 0) := by
  rw [encs, encs, List.take_succ_eq_append_getElem hj, List.flatMap_append]
  simp [List.getD, List.getElem?_eq_getElem hj]

theorem wnum_any (g : Nat) (r : Option Nat) (l : List UInt8) (F : Nat → Prop) (A : Option Addr) (c : Nat) (ns : List Nat) (w : World) (h : WAt w g r l) (hr : Rd w F A ns.length (ns.map U64)) (hF : ∀ k, F k → k ≠ g ∧ r ≠ some k)
    (hns : ∀ n ∈ ns, n < 256 ^ 8) (hsm : l.length + 9 * ns.length ≤ 1000000) :
    Calls Tryz.prog 41 #[.pointer (some ⟨g, 0, none⟩), .slice A ns.length c] w (WPost w g r (l ++ encs ns)) := by
  have Hr := Lib.hid hr
  have H := Lib.hid (WGo.start h)
  have HN := Lib.hid hns
  have hgl := h.lt
  have HF := Lib.hid hF
  have hsm' : ns.length ≤ 1000000 := by omega
  clear hr h hns hF
  go_enter Tryz.func41, Tryz.ntmps41
  go_wp2_with fail
  go_loopw [10] (fun i wr => ∃ j : Nat, j ≤ ns.length ∧ i = .int .i64 j ∧ WGo w g r (l ++ encs (ns.take j)) wr) (fun i _ => ns.length - (intOf i).toNat)
  case atStart => exact ⟨0, by omega, rfl, by simpa [encs] using H.out⟩
  case round =>
    obtain ⟨j, hj, rfl, hM⟩ := hrel
    have hM := Lib.hid hM
    by_cases hjk : j < ns.length
    · have hrj := hM.out.rd Hr.out HF.out
      obtain ⟨a, off, rfl, _, _, hc⟩ := hrj.2 (by omega)
      have hcj := hc j (U64 (ns.getD j 0)) (by simp [List.getD, List.getElem?_eq_getElem hjk])
      simp only [U64] at hcj
      have hnj := HN.out (ns.getD j 0) (by simp [List.getD, List.getElem?_eq_getElem hjk])
      have HE := Lib.hid (encs_take ns j hjk)
      have hnb : ns.getD j 0 < 18446744073709551616 := by simpa using hnj
      have HNj := Lib.hid hnj
      have hel := encs_len (ns.take j)
      have hel2 : (ns.take j).length ≤ j := by simp; omega
      clear hc hrj hnj
      generalize ns.getD j 0 = n at *
      obtain ⟨r1, hw1, t1, hf1⟩ := hM.out
      have HW := Lib.hid hw1
      have HT := Lib.hid t1
      have HF1 := Lib.hid hf1
      clear hw1 t1 hf1
      go_wp2_with (
        go_at_call 78
        go_must (refine (wnumber_any g r1 _ n 0 _ (by exact HW.out) HNj.out (by omega) (by rw [List.length_append]; omega)).mono ?_)
        rintro e w2 ⟨rfl, h2⟩
        have H2 := Lib.hid (WGo.next HT.out HF1.out h2)
        clear h2)
      go_roundw
      case rel => exact ⟨j + 1, by omega, by go_num, by rw [HE.out, ← List.append_assoc]; exact H2.out⟩
      case measure => simp [intOf]; omega
    · obtain rfl : j = ns.length := by omega
      go_wp2
      go_end0
      exact ⟨rfl, by have := hM.out; rwa [List.take_length] at this⟩

def I64 (n : Int) : Value := .int .i64 n
def encI (i : Int) : List UInt8 := if i < 0 then encN 128 (-1 - i).toNat else encN 0 i.toNat
def encIs (ns : List Int) : List UInt8 := ns.flatMap encI
theorem encI_len (i : Int) : (encI i).length ≤ 9 := by unfold encI; split <;> exact encN_len _ _
theorem encIs_len (ns : List Int) : (encIs ns).length ≤ 9 * ns.length := by
  induction ns with
  | nil => simp [encIs]
  | cons n ns ih => have := encI_len n; simp [encIs] at *; omega
theorem encIs_take (ns : List Int) (j : Nat) (hj : j < ns.length) : encIs (ns.take (j + 1)) = encIs (ns.take j) ++ encI (ns.getD j 0) := by
  rw [encIs, encIs, List.take_succ_eq_append_getElem hj, List.flatMap_append]
  simp [List.getD, List.getElem?_eq_getElem hj]

theorem wint_any (g : Nat) (r : Option Nat) (l : List UInt8) (F : Nat → Prop) (A : Option Addr) (c : Nat) (ns : List Int) (w : World) (h : WAt w g r l) (hr : Rd w F A ns.length (ns.map I64)) (hF : ∀ k, F k → k ≠ g ∧ r ≠ some k)
    (hns : ∀ n ∈ ns, -9223372036854775808 ≤ n ∧ n ≤ 9223372036854775807) (hsm : l.length + 9 * ns.length ≤ 1000000) :
    Calls Tryz.prog 117 #[.pointer (some ⟨g, 0, none⟩), .slice A ns.length c] w (WPost w g r (l ++ encIs ns)) := by
  have Hr := Lib.hid hr
  have H := Lib.hid (WGo.start h)
  have HN := Lib.hid hns
  have hgl := h.lt
  have HF := Lib.hid hF
  have hsm' : ns.length ≤ 1000000 := by omega
  clear hr h hns hF
  go_enter Tryz.func117, Tryz.ntmps117
  go_wp2_with fail
  go_loopw [10] (fun i wr => ∃ j : Nat, j ≤ ns.length ∧ i = .int .i64 j ∧ WGo w g r (l ++ encIs (ns.take j)) wr) (fun i _ => ns.length - (intOf i).toNat)
  case atStart => exact ⟨0, by omega, rfl, by simpa [encIs] using H.out⟩
  case round =>
    obtain ⟨j, hj, rfl, hM⟩ := hrel
    have hM := Lib.hid hM
    by_cases hjk : j < ns.length
    · have hrj := hM.out.rd Hr.out HF.out
      obtain ⟨a, off, rfl, _, _, hc⟩ := hrj.2 (by omega)
      have hcj := hc j (I64 (ns.getD j 0)) (by simp [List.getD, List.getElem?_eq_getElem hjk])
      simp only [I64] at hcj
      have hnj := HN.out (ns.getD j 0) (by simp [List.getD, List.getElem?_eq_getElem hjk])
      have HE := Lib.hid (encIs_take ns j hjk)
      obtain ⟨hn1, hn2⟩ := hnj
      have hel := encIs_len (ns.take j)
      have hel2 : (ns.take j).length ≤ j := by simp; omega
      clear hc hrj
      generalize ns.getD j 0 = n at *
      obtain ⟨r1, hw1, t1, hf1⟩ := hM.out
      have HW := Lib.hid hw1
      have HT := Lib.hid t1
      have HF1 := Lib.hid hf1
      clear hw1 t1 hf1
      by_cases hneg : n < 0
      · have HE2 := Lib.hid (show encI n = encN 128 (-1 - n).toNat by simp [encI, hneg])
        obtain ⟨m, hm⟩ := Int.eq_ofNat_of_zero_le (show 0 ≤ -1 - n by omega)
        have hmn : (-1 - n).toNat = m := by omega
        have HMN := Lib.hid hmn
        clear hmn
        go_wp2_with (
          go_at_call 78
          go_must (refine (wnumber_any g r1 _ m 128 _ (by exact HW.out) (by omega) (by omega) (by rw [List.length_append]; omega)).mono ?_)
          rintro e w2 ⟨rfl, h2⟩
          have H2 := Lib.hid (WGo.next HT.out HF1.out h2)
          clear h2)
        go_roundw
        case rel => exact ⟨j + 1, by omega, by go_num, by rw [HE.out, HE2.out, HMN.out, ← List.append_assoc]; exact H2.out⟩
        case measure => simp [intOf]; omega
      · have HE2 := Lib.hid (show encI n = encN 0 n.toNat by simp [encI, hneg])
        obtain ⟨m, rfl⟩ := Int.eq_ofNat_of_zero_le (show 0 ≤ n by omega)
        go_wp2_with (
          go_at_call 78
          go_must (refine (wnumber_any g r1 _ m 0 _ (by exact HW.out) (by omega) (by omega) (by rw [List.length_append]; omega)).mono ?_)
          rintro e w2 ⟨rfl, h2⟩
          have H2 := Lib.hid (WGo.next HT.out HF1.out h2)
          clear h2)
        go_roundw
        case rel => exact ⟨j + 1, by omega, by go_num, by rw [HE.out, HE2.out, Int.toNat_natCast, ← List.append_assoc]; exact H2.out⟩
        case measure => simp [intOf]; omega
    · obtain rfl : j = ns.length := by omega
      go_wp2
      go_end0
      exact ⟨rfl, by have := hM.out; rwa [List.take_length] at this⟩

theorem wbytes_any (g : Nat) (r : Option Nat) (l : List UInt8) (w : World) (h : WAt w g r l) (hsm : l.length ≤ 140737488355328) :
    Calls Tryz.prog 17 #[.pointer (some ⟨g, 0, none⟩)] w (NewSl w (l.map B8)) := by
  obtain ⟨hne, v, hb, ho⟩ := h
  obtain ⟨A0, c0, rfl, -, -, -, hr⟩ := ho.rd
  have h0 := hb.cell 0
  simp at h0
  have HC := Lib.hid (clone_any _ A0 l.length c0 l w hr hsm)
  clear ho hr
  go_enter Tryz.func17, Tryz.ntmps17
  go_wp2_with (
    go_at_call 45
    go_must (refine HC.out.mono ?_)
    rintro e w1 ⟨A1, c1, rfl, k1, k2, k3, k4⟩)
  go_ret
  exact ⟨A1, c1, ret_val (by simp), k1, k2, k3, k4⟩

end Go.Proofs.YtlcefchbfjfifaaGreat
end

section
namespace Go.Proofs.YtlcefchbfjfifaaGreat
open Go.RowKit
set_option maxHeartbeats 2000000
set_option maxRecDepth 100000

/-- A literal slice of one element. -/
theorem Rd.lit (w : World) (t : TypeId) (cs : List Value) (n : Nat) (hn : cs.length = n) : Rd (w.alloc (.cells cs.toArray t)) (fun k => k = w.heap.size) (some ⟨w.heap.size, 0, none⟩) n cs :=
  ⟨hn, fun _ => ⟨w.heap.size, 0, rfl, by simp, rfl, fun j u hj => by rw [Nat.zero_add, (Blk.new w t cs.toArray).cell]; simpa using hj⟩⟩

def F8 (b : Bool) : Value := .bool b
def encF (b : Bool) : List UInt8 := if b then encN 0 1 else encN 0 0
def encFs (bs : List Bool) : List UInt8 := bs.flatMap encF
theorem encF_len (b : Bool) : (encF b).length ≤ 9 := by cases b <;> exact encN_len _ _
theorem encFs_len (ns : List Bool) : (encFs ns).length ≤ 9 * ns.length := by
  induction ns with
  | nil => simp [encFs]
  | cons n ns ih => have := encF_len n; simp [encFs] at *; omega
theorem encFs_take (ns : List Bool) (j : Nat) (hj : j < ns.length) : encFs (ns.take (j + 1)) = encFs (ns.take j) ++ encF (ns.getD j false) := by
  rw [encFs, encFs, List.take_succ_eq_append_getElem hj, List.flatMap_append]
  simp [List.getD, List.getElem?_eq_getElem hj]

/-- '[]byte(s)': a new block. -/
theorem conv_str (w : World) (s : ByteArray) (g : Nat) (hg : w.heap.size = g) (hs : s.size ≤ 9223372036854775807) : ∃ c o, (convert 9 25 (.string s)).run Tryz.prog w = .ok (.slice (some ⟨g, 0, none⟩) s.size c) ((w.alloc o).drew) ∧
    Rd ((w.alloc o).drew) (fun k => k = g) (some ⟨g, 0, none⟩) s.size (s.data.toList.map B8) ∧ s.size ≤ c ∧ c ≤ maxLen := by
  subst hg
  refine ⟨_, _, run_bytes_of_string w 9 25 5 s Tryz.underlying9 Tryz.underlying25 Tryz.underlying5, ⟨by rw [List.length_map]; exact Array.length_toList, fun _ => ⟨w.heap.size, 0, rfl, by simp, rfl, fun j u hj => ?_⟩⟩, grownCap_ge w s.size 0 5, grownCap_le_maxLen w s.size 0 5 (by unfold maxLen; omega)⟩
  rw [Nat.zero_add]
  have hj' : j < s.data.size := by simpa using (List.getElem?_eq_some_iff.1 hj).1
  have h1 := cell_of_row (w.drew.alloc (.cells (bytesRow s (grownCap w s.size 0 5)) 5 ((bytesRow s (grownCap w s.size 0 5)).size, (bytesRow s (grownCap w s.size 0 5)).size + 1))) w.heap.size j _ 5 _ (heap_alloc_new w.drew _)
  refine h1.trans ?_
  rw [bytesRow_at s _ j hj', ← hj, List.getElem?_map, show s.data.toList[j]? = some s.data[j] by simp]
  rfl

def encT (s : ByteArray) : List UInt8 := encN 0 s.size ++ s.data.toList

end Go.Proofs.YtlcefchbfjfifaaGreat
end
