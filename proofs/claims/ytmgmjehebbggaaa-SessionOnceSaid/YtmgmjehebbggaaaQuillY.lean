/- quill's Writer, on: Flag, Text; law01.lives. -/
import Derived.Test.YtmgmjehebbggaaaQuillX
namespace Go.Proofs.Ytmgmjehebbggaaa
open Go.RowKit
set_option maxHeartbeats 2000000
set_option maxRecDepth 100000

/-- A literal slice of one element. -/
theorem Rd.lit (w : World) (t : TypeId) (cs : List Value) (n : Nat) (hn : cs.length = n) : Rd (w.alloc (.cells cs.toArray t)) (fun k => k = w.heap.size) (some ⟨w.heap.size, 0, none⟩) n cs :=
  ⟨hn, fun _ => ⟨w.heap.size, 0, rfl, by simp, rfl, fun j u hj => by rw [Nat.zero_add, (Blk.new w t cs.toArray).cell]; simpa using hj⟩⟩

def F8 (b : Bool) : Value := .bool b
def encF (b : Bool) : List UInt8 := if b then encN 0 1 else encN 0 0
def encFs (bs : List Bool) : List UInt8 := bs.flatMap encF
theorem encF_len (b : Bool) : (encF b).length ≤ 9 := by cases b <;> exact encN_len _ _
theorem encFs_len (ns : List Bool) : (encFs ns).length ≤ 9 * ns.length := by
  induction ns with
  | nil => simp [encFs]
  | cons n ns ih => have := encF_len n; simp [encFs] at *; omega
theorem encFs_take (ns : List Bool) (j : Nat) (hj : j < ns.length) : encFs (ns.take (j + 1)) = encFs (ns.take j) ++ encF (ns.getD j false) := by
  rw [encFs, encFs, List.take_succ_eq_append_getElem hj, List.flatMap_append]
  simp [List.getD, List.getElem?_eq_getElem hj]

theorem wflag_any (g : Nat) (r : Option Nat) (l : List UInt8) (F : Nat → Prop) (A : Option Addr) (c : Nat) (ns : List Bool) (w : World) (h : WAt w g r l) (hr : Rd w F A ns.length (ns.map F8)) (hF : ∀ k, F k → k ≠ g ∧ r ≠ some k)
    (hsm : l.length + 9 * ns.length ≤ 1000000) :
    Calls Try.prog 71 #[.pointer (some ⟨g, 0, none⟩), .slice A ns.length c] w (WPost w g r (l ++ encFs ns)) := by
  have Hr := Lib.hid hr
  have H := Lib.hid (WGo.start h)
  have hgl := h.lt
  have HF := Lib.hid hF
  have hsm' : ns.length ≤ 1000000 := by omega
  clear hr h hF
  go_enter Try.func71, Try.ntmps71
  go_wp2_with fail
  go_loopw [11] (fun i wr => ∃ j : Nat, j ≤ ns.length ∧ i = .int .i64 j ∧ WGo w g r (l ++ encFs (ns.take j)) wr) (fun i _ => ns.length - (intOf i).toNat)
  case atStart => exact ⟨0, by omega, rfl, by simpa [encFs] using H.out⟩
  case round =>
    obtain ⟨j, hj, rfl, hM⟩ := hrel
    have hM := Lib.hid hM
    by_cases hjk : j < ns.length
    · have hrj := hM.out.rd Hr.out HF.out
      obtain ⟨a, off, rfl, _, _, hc⟩ := hrj.2 (by omega)
      have hcj := hc j (F8 (ns.getD j false)) (by simp [List.getD, List.getElem?_eq_getElem hjk])
      simp only [F8] at hcj
      have HE := Lib.hid (encFs_take ns j hjk)
      have hel := encFs_len (ns.take j)
      have hel2 : (ns.take j).length ≤ j := by simp; omega
      clear hc hrj
      generalize ns.getD j false = b at *
      obtain ⟨r1, hw1, t1, hf1⟩ := hM.out
      have hwl := hw1.lt
      have hrl : r1 ≠ some wr.heap.size := by
        intro e
        obtain ⟨_, v, _, ho⟩ := hw1
        have := ho.lt _ e
        omega
      have HW := Lib.hid hw1
      have HT := Lib.hid t1
      have HF1 := Lib.hid hf1
      clear hw1 t1 hf1
      cases b
      · have HTl := Lib.hid ((Touch.refl (fun _ => False) wr).alloc (.cells #[U64 0] 29))
        go_wp2_with (
          go_at_call 47
          go_must (refine (wnum_any g r1 _ (fun k => k = wr.heap.size) _ 1 [0] _ (by exact HW.out.touch HTl.out (fun e => e) (fun _ _ e => e)) (by exact Rd.lit wr 29 [U64 0] 1 rfl) (fun k hk => ⟨by omega, by rw [hk]; exact hrl⟩) (by simp) (by rw [List.length_append]; simp; omega)).mono ?_)
          rintro e w2 ⟨rfl, h2⟩
          have H2 := Lib.hid (WGo.next (HT.out.trans HTl.out (fun _ _ e => e.elim)) (by rcases HF1.out with e | e; exact .inl e; exact .inr e) h2)
          clear h2)
        go_roundw
        case rel => exact ⟨j + 1, by omega, by go_num, by rw [HE.out, ← List.append_assoc]; exact H2.out⟩
        case measure => simp [intOf]; omega
      · have HTl := Lib.hid ((Touch.refl (fun _ => False) wr).alloc (.cells #[U64 1] 29))
        go_wp2_with (
          go_at_call 47
          go_must (refine (wnum_any g r1 _ (fun k => k = wr.heap.size) _ 1 [1] _ (by exact HW.out.touch HTl.out (fun e => e) (fun _ _ e => e)) (by exact Rd.lit wr 29 [U64 1] 1 rfl) (fun k hk => ⟨by omega, by rw [hk]; exact hrl⟩) (by simp) (by rw [List.length_append]; simp; omega)).mono ?_)
          rintro e w2 ⟨rfl, h2⟩
          have H2 := Lib.hid (WGo.next (HT.out.trans HTl.out (fun _ _ e => e.elim)) (by rcases HF1.out with e | e; exact .inl e; exact .inr e) h2)
          clear h2)
        go_roundw
        case rel => exact ⟨j + 1, by omega, by go_num, by rw [HE.out, ← List.append_assoc]; exact H2.out⟩
        case measure => simp [intOf]; omega
    · obtain rfl : j = ns.length := by omega
      go_wp2
      go_end0
      exact ⟨rfl, by have := hM.out; rwa [List.take_length] at this⟩

/-- '[]byte(s)': a new block. -/
theorem conv_str (w : World) (s : ByteArray) (g : Nat) (hg : w.heap.size = g) (hs : s.size ≤ 9223372036854775807) : ∃ c o, (convert 9 52 (.string s)).run Try.prog w = .ok (.slice (some ⟨g, 0, none⟩) s.size c) ((w.alloc o).drew) ∧
    Rd ((w.alloc o).drew) (fun k => k = g) (some ⟨g, 0, none⟩) s.size (s.data.toList.map B8) ∧ s.size ≤ c ∧ c ≤ maxLen := by
  subst hg
  refine ⟨_, _, run_bytes_of_string w 9 52 5 s Try.underlying9 Try.underlying52 Try.underlying5, ⟨by rw [List.length_map]; exact Array.length_toList, fun _ => ⟨w.heap.size, 0, rfl, by simp, rfl, fun j u hj => ?_⟩⟩, grownCap_ge w s.size 0 5, grownCap_le_maxLen w s.size 0 5 (by unfold maxLen; omega)⟩
  rw [Nat.zero_add]
  have hj' : j < s.data.size := by simpa using (List.getElem?_eq_some_iff.1 hj).1
  have h1 := cell_of_row (w.drew.alloc (.cells (bytesRow s (grownCap w s.size 0 5)) 5 ((bytesRow s (grownCap w s.size 0 5)).size, (bytesRow s (grownCap w s.size 0 5)).size + 1))) w.heap.size j _ 5 _ (heap_alloc_new w.drew _)
  refine h1.trans ?_
  rw [bytesRow_at s _ j hj', ← hj, List.getElem?_map, show s.data.toList[j]? = some s.data[j] by simp]
  rfl

def encT (s : ByteArray) : List UInt8 := encN 0 s.size ++ s.data.toList

end Go.Proofs.Ytmgmjehebbggaaa
