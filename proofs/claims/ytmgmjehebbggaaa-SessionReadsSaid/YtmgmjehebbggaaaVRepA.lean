/- quill's Writer, on: Flag, Text; law01.lives. Whether a ticket is sound, the program's and the reference's. -/
import Derived.Test.YtmgmjehebbggaaaVQuillX
section
namespace Go.Proofs.Ytmgmjehebbggaaa
open Go.RowKit
set_option maxHeartbeats 2000000
set_option maxRecDepth 100000

/-- A literal slice of one element. -/
theorem Rd.lit (w : World) (t : TypeId) (cs : List Value) (n : Nat) (hn : cs.length = n) : Rd (w.alloc (.cells cs.toArray t)) (fun k => k = w.heap.size) (some ⟨w.heap.size, 0, none⟩) n cs :=
  ⟨hn, fun _ => ⟨w.heap.size, 0, rfl, by simp, rfl, fun j u hj => by rw [Nat.zero_add, (Blk.new w t cs.toArray).cell]; simpa using hj⟩⟩

def F8 (b : Bool) : Value := .bool b
def encF (b : Bool) : List UInt8 := if b then encN 0 1 else encN 0 0
def encFs (bs : List Bool) : List UInt8 := bs.flatMap encF
theorem encF_len (b : Bool) : (encF b).length ≤ 9 := by cases b <;> exact encN_len _ _
theorem encFs_len (ns : List Bool) : (encFs ns).length ≤ 9 * ns.length := by
  induction ns with
  | nil => simp [encFs]
  | cons n ns ih => have := encF_len n; simp [encFs] at *; omega
theorem encFs_take (ns : List Bool) (j : Nat) (hj : j < ns.length) : encFs (ns.take (j + 1)) = encFs (ns.take j) ++ encF (ns.getD j false) := by
  rw [encFs, encFs, List.take_succ_eq_append_getElem hj, List.flatMap_append]
  simp [List.getD, List.getElem?_eq_getElem hj]

theorem wflag_any (g : Nat) (r : Option Nat) (l : List UInt8) (F : Nat → Prop) (A : Option Addr) (c : Nat) (ns : List Bool) (w : World) (h : WAt w g r l) (hr : Rd w F A ns.length (ns.map F8)) (hF : ∀ k, F k → k ≠ g ∧ r ≠ some k)
    (hsm : l.length + 9 * ns.length ≤ 1000000) :
    Calls Try.prog 71 #[.pointer (some ⟨g, 0, none⟩), .slice A ns.length c] w (WPost w g r (l ++ encFs ns)) := by
  have Hr := Lib.hid hr
  have H := Lib.hid (WGo.start h)
  have hgl := h.lt
  have HF := Lib.hid hF
  have hsm' : ns.length ≤ 1000000 := by omega
  clear hr h hF
  go_enter Try.func71, Try.ntmps71
  go_wp2_with fail
  go_loopw [11] (fun i wr => ∃ j : Nat, j ≤ ns.length ∧ i = .int .i64 j ∧ WGo w g r (l ++ encFs (ns.take j)) wr) (fun i _ => ns.length - (intOf i).toNat)
  case atStart => exact ⟨0, by omega, rfl, by simpa [encFs] using H.out⟩
  case round =>
    obtain ⟨j, hj, rfl, hM⟩ := hrel
    have hM := Lib.hid hM
    by_cases hjk : j < ns.length
    · have hrj := hM.out.rd Hr.out HF.out
      obtain ⟨a, off, rfl, _, _, hc⟩ := hrj.2 (by omega)
      have hcj := hc j (F8 (ns.getD j false)) (by simp [List.getD, List.getElem?_eq_getElem hjk])
      simp only [F8] at hcj
      have HE := Lib.hid (encFs_take ns j hjk)
      have hel := encFs_len (ns.take j)
      have hel2 : (ns.take j).length ≤ j := by simp; omega
      clear hc hrj
      generalize ns.getD j false = b at *
      obtain ⟨r1, hw1, t1, hf1⟩ := hM.out
      have hwl := hw1.lt
      have hrl : r1 ≠ some wr.heap.size := by
        intro e
        obtain ⟨_, v, _, ho⟩ := hw1
        have := ho.lt _ e
        omega
      have HW := Lib.hid hw1
      have HT := Lib.hid t1
      have HF1 := Lib.hid hf1
      clear hw1 t1 hf1
      cases b
      · have HTl := Lib.hid ((Touch.refl (fun _ => False) wr).alloc (.cells #[U64 0] 29))
        go_wp2_with (
          go_at_call 47
          go_must (refine (wnum_any g r1 _ (fun k => k = wr.heap.size) _ 1 [0] _ (by exact HW.out.touch HTl.out (fun e => e) (fun _ _ e => e)) (by exact Rd.lit wr 29 [U64 0] 1 rfl) (fun k hk => ⟨by omega, by rw [hk]; exact hrl⟩) (by simp) (by rw [List.length_append]; simp; omega)).mono ?_)
          rintro e w2 ⟨rfl, h2⟩
          have H2 := Lib.hid (WGo.next (HT.out.trans HTl.out (fun _ _ e => e.elim)) (by rcases HF1.out with e | e; exact .inl e; exact .inr e) h2)
          clear h2)
        go_roundw
        case rel => exact ⟨j + 1, by omega, by go_num, by rw [HE.out, ← List.append_assoc]; exact H2.out⟩
        case measure => simp [intOf]; omega
      · have HTl := Lib.hid ((Touch.refl (fun _ => False) wr).alloc (.cells #[U64 1] 29))
        go_wp2_with (
          go_at_call 47
          go_must (refine (wnum_any g r1 _ (fun k => k = wr.heap.size) _ 1 [1] _ (by exact HW.out.touch HTl.out (fun e => e) (fun _ _ e => e)) (by exact Rd.lit wr 29 [U64 1] 1 rfl) (fun k hk => ⟨by omega, by rw [hk]; exact hrl⟩) (by simp) (by rw [List.length_append]; simp; omega)).mono ?_)
          rintro e w2 ⟨rfl, h2⟩
          have H2 := Lib.hid (WGo.next (HT.out.trans HTl.out (fun _ _ e => e.elim)) (by rcases HF1.out with e | e; exact .inl e; exact .inr e) h2)
          clear h2)
        go_roundw
        case rel => exact ⟨j + 1, by omega, by go_num, by rw [HE.out, ← List.append_assoc]; exact H2.out⟩
        case measure => simp [intOf]; omega
    · obtain rfl : j = ns.length := by omega
      go_wp2
      go_end0
      exact ⟨rfl, by have := hM.out; rwa [List.take_length] at this⟩

/-- '[]byte(s)': a new block. -/
theorem conv_str (w : World) (s : ByteArray) (g : Nat) (hg : w.heap.size = g) (hs : s.size ≤ 9223372036854775807) : ∃ c o, (convert 9 52 (.string s)).run Try.prog w = .ok (.slice (some ⟨g, 0, none⟩) s.size c) ((w.alloc o).drew) ∧
    Rd ((w.alloc o).drew) (fun k => k = g) (some ⟨g, 0, none⟩) s.size (s.data.toList.map B8) ∧ s.size ≤ c ∧ c ≤ maxLen := by
  subst hg
  refine ⟨_, _, run_bytes_of_string w 9 52 5 s Try.underlying9 Try.underlying52 Try.underlying5, ⟨by rw [List.length_map]; exact Array.length_toList, fun _ => ⟨w.heap.size, 0, rfl, by simp, rfl, fun j u hj => ?_⟩⟩, grownCap_ge w s.size 0 5, grownCap_le_maxLen w s.size 0 5 (by unfold maxLen; omega)⟩
  rw [Nat.zero_add]
  have hj' : j < s.data.size := by simpa using (List.getElem?_eq_some_iff.1 hj).1
  have h1 := cell_of_row (w.drew.alloc (.cells (bytesRow s (grownCap w s.size 0 5)) 5 ((bytesRow s (grownCap w s.size 0 5)).size, (bytesRow s (grownCap w s.size 0 5)).size + 1))) w.heap.size j _ 5 _ (heap_alloc_new w.drew _)
  refine h1.trans ?_
  rw [bytesRow_at s _ j hj', ← hj, List.getElem?_map, show s.data.toList[j]? = some s.data[j] by simp]
  rfl

def encT (s : ByteArray) : List UInt8 := encN 0 s.size ++ s.data.toList

end Go.Proofs.Ytmgmjehebbggaaa
end

section
namespace Go.Proofs.Ytmgmjehebbggaaa
open Go.RowKit
set_option maxHeartbeats 4000000
set_option maxRecDepth 100000
set_option linter.unusedVariables false

structure TkV where
  id : Nat
  contract : Int
  state : Int
  level : Int
  gen : Nat
  from_ : Int
  left : Int
  due : Int
  told : Int
def TkV.cells (t : TkV) : List Value := [.int .u64 t.id, .int .i64 t.contract, .int .i64 t.state, .int .i64 t.level, .int .u64 t.gen, .int .i64 t.from_, .int .i64 t.left, .int .i64 t.due, .int .i64 t.told]
def TkV.ok (t : TkV) : Prop := -9223372036854775808 ≤ t.from_ ∧ t.from_ ≤ 9223372036854775807 ∧ -9223372036854775808 ≤ t.left ∧ t.left ≤ 9223372036854775807 ∧ -9223372036854775808 ≤ t.due ∧ t.due ≤ 9223372036854775807
def tkHead (t : TkV) : Prop := 0 ≤ t.contract ∧ t.contract < 16 ∧ 0 ≤ t.level ∧ t.level < 6 ∧ 0 ≤ t.told ∧ t.told ≤ 2147483648 ∧ t.gen ≤ 1152921504606846976
def tkRuns (t : TkV) : Prop := t.gen ≠ 0 ∧ 1 ≤ t.left ∧ 0 ≤ t.from_ ∧ t.due ≤ 1125899906842624 ∧ t.from_ ≤ t.due ∧ t.left ≤ t.due - t.from_
def tkStands (t : TkV) : Prop := t.gen = 0 ∧ t.due = 0 ∧ 1 ≤ t.left ∧ t.left ≤ 1125899906842624 ∧ 0 ≤ t.from_ ∧ t.from_ ≤ 1125899906842624
def tkDone (t : TkV) : Prop := t.gen = 0 ∧ t.from_ = 0 ∧ t.left = 0 ∧ t.due = 0
instance (t : TkV) : Decidable (tkHead t) := inferInstanceAs (Decidable (_ ∧ _))
instance (t : TkV) : Decidable (tkRuns t) := inferInstanceAs (Decidable (_ ∧ _))
instance (t : TkV) : Decidable (tkStands t) := inferInstanceAs (Decidable (_ ∧ _))
instance (t : TkV) : Decidable (tkDone t) := inferInstanceAs (Decidable (_ ∧ _))
def tkSound (t : TkV) : Bool := decide (tkHead t) && (if t.state = 1 then decide (tkRuns t) else if t.state = 2 then decide (tkStands t) else decide (t.state = 3 ∨ t.state = 4) && decide (tkDone t))

theorem instant_any (n : Int) (w : World) : Calls Try.prog 64 #[.int .i64 n] w fun e w' => e = .returned (.bool (decide (0 ≤ n ∧ n ≤ 1125899906842624))) ∧ w = w' := by
  by_cases h0 : 0 ≤ n
  · by_cases h7 : n ≤ 1125899906842624
    · go_enter Try.func64, Try.ntmps64
      go_wp2
      go_ret
      simp [h7]; omega
    · go_enter Try.func64, Try.ntmps64
      go_wp2
      go_ret
      simp; omega
  · go_enter Try.func64, Try.ntmps64
    go_wp2
    go_ret
    simp; omega

theorem rtk_any (t : TkV) (w : World) (h : t.ok) :
    Calls Try.prog 65 #[.agg #[.int .u64 t.id, .int .i64 t.contract, .int .i64 t.state, .int .i64 t.level, .int .u64 t.gen, .int .i64 t.from_, .int .i64 t.left, .int .i64 t.due, .int .i64 t.told]] w fun e w' => e = .returned (.bool (tkSound t)) ∧ Touch (fun _ => False) w w' := by
  obtain ⟨id, con, st, lev, gen, fr, le, du, to_⟩ := t
  obtain ⟨b1, b2, b3, b4, b5, b6⟩ := h
  simp only at b1 b2 b3 b4 b5 b6 ⊢
  obtain ⟨b, hb⟩ : ∃ b, b = tkSound ⟨id, con, st, lev, gen, fr, le, du, to_⟩ := ⟨_, rfl⟩
  rw [← hb]
  have HS := Lib.hid (hb.trans (show tkSound ⟨id, con, st, lev, gen, fr, le, du, to_⟩ = (decide (0 ≤ con ∧ con < 16 ∧ 0 ≤ lev ∧ lev < 6 ∧ 0 ≤ to_ ∧ to_ ≤ 2147483648 ∧ gen ≤ 1152921504606846976) && (if st = 1 then decide (gen ≠ 0 ∧ 1 ≤ le ∧ 0 ≤ fr ∧ du ≤ 1125899906842624 ∧ fr ≤ du ∧ le ≤ du - fr) else if st = 2 then decide (gen = 0 ∧ du = 0 ∧ 1 ≤ le ∧ le ≤ 1125899906842624 ∧ 0 ≤ fr ∧ fr ≤ 1125899906842624) else decide (st = 3 ∨ st = 4) && decide (gen = 0 ∧ fr = 0 ∧ le = 0 ∧ du = 0))) from rfl))
  clear hb
  by_cases s1 : st = 1
  · subst s1
    have HS := Lib.hid (HS.out.trans (show _ = (decide (0 ≤ con ∧ con < 16 ∧ 0 ≤ lev ∧ lev < 6 ∧ 0 ≤ to_ ∧ to_ ≤ 2147483648 ∧ gen ≤ 1152921504606846976) && decide (gen ≠ 0 ∧ 1 ≤ le ∧ 0 ≤ fr ∧ du ≤ 1125899906842624 ∧ fr ≤ du ∧ le ≤ du - fr)) by rw [if_pos rfl]))
    go_enter Try.func65, Try.ntmps65
    go_wp2
    all_goals (
      go_ret
      refine ⟨ret_bool ?_, (Touch.refl _ w).alloc _⟩
      rw [HS.out]
      by_cases hh : 0 ≤ con ∧ con < 16 ∧ 0 ≤ lev ∧ lev < 6 ∧ 0 ≤ to_ ∧ to_ ≤ 2147483648 ∧ gen ≤ 1152921504606846976
      · rw [decide_eq_true hh, Bool.true_and]
        all_goals (rw [Bool.eq_iff_iff])
        all_goals first | (simp; done) | (simp; omega) | omega | (simp [wrap64]; omega)
      · rw [decide_eq_false hh, Bool.false_and]
        all_goals first | rfl | (exfalso; omega))
  by_cases s2 : st = 2
  · subst s2
    have HS := Lib.hid (HS.out.trans (show _ = (decide (0 ≤ con ∧ con < 16 ∧ 0 ≤ lev ∧ lev < 6 ∧ 0 ≤ to_ ∧ to_ ≤ 2147483648 ∧ gen ≤ 1152921504606846976) && decide (gen = 0 ∧ du = 0 ∧ 1 ≤ le ∧ le ≤ 1125899906842624 ∧ 0 ≤ fr ∧ fr ≤ 1125899906842624)) by rw [if_neg (by decide), if_pos rfl]))
    go_enter Try.func65, Try.ntmps65
    go_wp2
    all_goals (
      go_ret
      refine ⟨ret_bool ?_, (Touch.refl _ w).alloc _⟩
      rw [HS.out]
      by_cases hh : 0 ≤ con ∧ con < 16 ∧ 0 ≤ lev ∧ lev < 6 ∧ 0 ≤ to_ ∧ to_ ≤ 2147483648 ∧ gen ≤ 1152921504606846976
      · rw [decide_eq_true hh, Bool.true_and]
        all_goals (rw [Bool.eq_iff_iff])
        all_goals first | (simp; done) | (simp; omega) | omega | (simp [wrap64]; omega)
      · rw [decide_eq_false hh, Bool.false_and]
        all_goals first | rfl | (exfalso; omega))
  by_cases s3 : st = 3
  · subst s3
    have HS := Lib.hid (HS.out.trans (show _ = (decide (0 ≤ con ∧ con < 16 ∧ 0 ≤ lev ∧ lev < 6 ∧ 0 ≤ to_ ∧ to_ ≤ 2147483648 ∧ gen ≤ 1152921504606846976) && decide (gen = 0 ∧ fr = 0 ∧ le = 0 ∧ du = 0)) by rw [if_neg (by decide), if_neg (by decide), decide_eq_true (show (3 : Int) = 3 ∨ (3 : Int) = 4 by decide), Bool.true_and]))
    go_enter Try.func65, Try.ntmps65
    go_wp2
    all_goals (
      go_ret
      refine ⟨ret_bool ?_, (Touch.refl _ w).alloc _⟩
      rw [HS.out]
      by_cases hh : 0 ≤ con ∧ con < 16 ∧ 0 ≤ lev ∧ lev < 6 ∧ 0 ≤ to_ ∧ to_ ≤ 2147483648 ∧ gen ≤ 1152921504606846976
      · rw [decide_eq_true hh, Bool.true_and]
        all_goals (rw [Bool.eq_iff_iff])
        all_goals first | (simp; done) | (simp; omega) | omega | (simp [wrap64]; omega)
      · rw [decide_eq_false hh, Bool.false_and]
        all_goals first | rfl | (exfalso; omega))
  by_cases s4 : st = 4
  · subst s4
    have HS := Lib.hid (HS.out.trans (show _ = (decide (0 ≤ con ∧ con < 16 ∧ 0 ≤ lev ∧ lev < 6 ∧ 0 ≤ to_ ∧ to_ ≤ 2147483648 ∧ gen ≤ 1152921504606846976) && decide (gen = 0 ∧ fr = 0 ∧ le = 0 ∧ du = 0)) by rw [if_neg (by decide), if_neg (by decide), decide_eq_true (show (4 : Int) = 3 ∨ (4 : Int) = 4 by decide), Bool.true_and]))
    go_enter Try.func65, Try.ntmps65
    go_wp2
    all_goals (
      go_ret
      refine ⟨ret_bool ?_, (Touch.refl _ w).alloc _⟩
      rw [HS.out]
      by_cases hh : 0 ≤ con ∧ con < 16 ∧ 0 ≤ lev ∧ lev < 6 ∧ 0 ≤ to_ ∧ to_ ≤ 2147483648 ∧ gen ≤ 1152921504606846976
      · rw [decide_eq_true hh, Bool.true_and]
        all_goals (rw [Bool.eq_iff_iff])
        all_goals first | (simp; done) | (simp; omega) | omega | (simp [wrap64]; omega)
      · rw [decide_eq_false hh, Bool.false_and]
        all_goals first | rfl | (exfalso; omega))
  have e1 : (st == 1) = false := by simpa using s1
  have e2 : (st == 2) = false := by simpa using s2
  have e3 : (st == 3) = false := by simpa using s3
  have e4 : (st == 4) = false := by simpa using s4
  have HN := Lib.hid (And.intro s1 (And.intro s2 (And.intro s3 s4)))
  have HS := Lib.hid (HS.out.trans (show _ = (decide (0 ≤ con ∧ con < 16 ∧ 0 ≤ lev ∧ lev < 6 ∧ 0 ≤ to_ ∧ to_ ≤ 2147483648 ∧ gen ≤ 1152921504606846976) && false) by rw [if_neg HN.out.1, if_neg HN.out.2.1, decide_eq_false (show ¬ (st = 3 ∨ st = 4) from fun h => h.elim HN.out.2.2.1 HN.out.2.2.2), Bool.false_and]))
  clear s1 s2 s3 s4
  go_enter Try.func65, Try.ntmps65
  go_wp2
  all_goals (
    go_ret
    refine ⟨ret_bool ?_, (Touch.refl _ w).alloc _⟩
    rw [HS.out]
    by_cases hh : 0 ≤ con ∧ con < 16 ∧ 0 ≤ lev ∧ lev < 6 ∧ 0 ≤ to_ ∧ to_ ≤ 2147483648 ∧ gen ≤ 1152921504606846976
    · rw [decide_eq_true hh, Bool.true_and]
      all_goals (rw [Bool.eq_iff_iff])
      all_goals first | (simp; done) | (simp; omega) | omega | (simp [wrap64]; omega)
    · rw [decide_eq_false hh, Bool.false_and]
      all_goals first | rfl | (exfalso; omega))
end Go.Proofs.Ytmgmjehebbggaaa
end
