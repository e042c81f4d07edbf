/- slices.Clone at spans; package almanac: New, all, Row, Next, Closed. -/
import Derived.Test.YtcblbjhhlnmkjaaCalH
import Derived.Carry
namespace Go.Proofs.Ytcblbjhhlnmkjaa
open Go.RowKit Cal
set_option maxHeartbeats 4000000
set_option maxRecDepth 100000
set_option linter.unusedVariables false
attribute [local irreducible] wpPlan

theorem spC_one (l : List Sp) : ∀ u ∈ l.flatMap spC, u.oneCell' = true := by
  intro u hu
  obtain ⟨s, -, hs⟩ := List.mem_flatMap.1 hu
  simp [spC] at hs
  rcases hs with rfl | rfl <;> rfl
theorem SpR.near {w : World} {F : Nat → Prop} {A : Option Addr} {n : Nat} {l : List Sp} (h : SpR w F A n l) : SpR w (fun k => F k ∧ k < w.heap.size) A n l :=
  ⟨h.1, h.2.1, fun hn => by obtain ⟨g, off, e, hl, hf, hc⟩ := h.2.2 hn; exact ⟨g, off, e, hl, ⟨hf, hl⟩, hc⟩⟩
theorem SpR.isN {w : World} {F : Nat → Prop} {n : Nat} {l : List Sp} (h : SpR w F none n l) : n = 0 ∧ l = [] := by
  have h0 : n = 0 := by
    rcases Nat.eq_zero_or_pos n with h0 | h0
    · exact h0
    · obtain ⟨_, _, e, _⟩ := h.2.2 h0; cases e
  exact ⟨h0, List.eq_nil_of_length_eq_zero (by rw [h.1, h0])⟩
theorem SpR.isS {w : World} {F : Nat → Prop} {ad : Addr} {n : Nat} {l : List Sp} (h : SpR w F (some ad) n l) : ∀ j u, (l.flatMap spC)[j]? = some u → w.cell? (ad.add j) = some u := by
  intro j u hj
  have hjl := (List.getElem?_eq_some_iff.1 hj).1
  have hlen : (l.flatMap spC).length = n * 2 := h.2.1
  obtain ⟨g, off, e, _, _, hc⟩ := h.2.2 (by omega)
  injection e with e
  subst e
  rw [addr_add]
  exact hc j u hj
theorem sclone_any (F : Nat → Prop) (A : Option Addr) (c : Nat) (l : List Sp) (w : World) (h : SpR w F A l.length l) (hn : l.length ≤ 1000000) :
    Calls Try.prog 114 #[.slice A l.length c] w (NewSpan w l) := by
  rcases A with _ | ad
  · obtain ⟨h0, rfl⟩ := h.isN
    clear h hn h0
    have hbin : ∀ w, (binOp .eql 23 (.slice none 0 c) (.slice none 0 0)).run Try.prog w = .ok (.bool true) w := fun w => by first | rfl | simp [go_sem]
    simp only [List.length_nil]
    go_enter Try.func114, Try.ntmps114
    go_wp2
    go_ret
    exact ⟨none, 0, rfl, Nat.le_refl _, by simp, fun _ => rfl, SpR.nil _ _ _, Touch.refl _ _⟩
  · have Hn := Lib.hid (show ∀ j u, (l.flatMap spC)[j]? = some u → (w.alloc (.cells #[] 165)).cell? (ad.add j) = some u from fun j u hj => (World.cell?_alloc_lt _ _ _ (World.block_lt_of_cell? w _ (h.isS j u hj))).trans (h.isS j u hj))
    have h1 := Lib.hid (spC_one l)
    have hfl := Lib.hid (show (l.flatMap spC).length = l.length * 2 from h.2.1)
    obtain ⟨i0, hi, hz0, hz1, hz2⟩ := info_parts infoS
    have HO := Lib.hid (show Own (w.alloc (.cells #[] 165)) 165 2 (.slice (some ⟨w.heap.size, 0, none⟩) 0 0) (some w.heap.size) 0 [] from by simpa using Own.lit w 165 2 #[] 0 (by simp) (by simp))
    clear h
    generalize hm : l.length = m at *
    have hbin : ∀ w, (binOp .eql 23 (.slice (some ad) m c) (.slice none 0 0)).run Try.prog w = .ok (.bool false) w := fun w => by first | rfl | simp [go_sem]
    have HM := Lib.hid hm
    clear hm
    go_enter Try.func114, Try.ntmps114
    go_wp2_with (at_builtin; go_must (refine wpList_own_append rfl _ _ 23 23 rfl 165 i0 (.agg #[.int .i64 0, .int .i64 0]) 2 16 Try.underlying23 hi hz0 hz1 hz2 rfl _ (some w.heap.size) 0 [] rfl (by exact HO.out) _ m (l.flatMap spC) rfl (by exact Src.ofSlice _ Try.underlying23 ad m c _ hfl.out Hn.out h1.out) (by simp only [maxLen]; omega) (by omega) ?_); intro v1 r1 w1 ho1 ht1 hr1; have HR1 := Lib.hid (And.intro ho1 (And.intro ht1 hr1)); clear ho1 ht1 hr1)
    go_ret
    obtain ⟨ho1, ht1, hr1⟩ := HR1.out
    obtain ⟨A', c', hv, k1, k2, k3, k4⟩ := ho1.spR (l := l) (by simp) (by simp [HM.out])
    rw [Nat.zero_add, ← HM.out] at k4 hv k1
    refine ⟨A', c', by rw [← hv]; rfl, k1, k2, k3, k4.mono (fun q hq => ?_), ((Touch.refl _ w).alloc _).trans ht1 (fun q hq e => ?_)⟩
    · rcases hr1 with e | ⟨q', e, hq'⟩
      · rw [e] at hq; injection hq with hq; omega
      · rw [e] at hq; injection hq with hq; simp at hq'; omega
    · injection e with e; omega
/-- An almanac. -/
structure AlAt (w : World) (g : Nat) (cl : List Sp) (B : Option Addr) (m : Nat) (F : Nat → Prop) : Prop where
  blk : Blk w g 189 #[.slice B cl.length m]
  row : SpR w F B cl.length cl
theorem AlAt.touch {w w' : World} {g : Nat} {cl : List Sp} {B : Option Addr} {m : Nat} {F S : Nat → Prop} (h : AlAt w g cl B m F) (ht : Touch S w w') (hg : ¬ S g) (hd : ∀ k, F k → ¬ S k) : AlAt w' g cl B m F := ⟨ht.blk h.blk hg, h.row.touch ht hd⟩
theorem all_any (g : Nat) (cl : List Sp) (B : Option Addr) (m : Nat) (F : Nat → Prop) (w : World) (h : AlAt w g cl B m F) :
    Calls Try.prog 137 #[.pointer (some ⟨g, 0, none⟩)] w fun e w' => e = .returned (.slice B cl.length m) ∧ w = w' := by
  have q := h.blk.cell 0
  simp at q
  clear h
  go_enter Try.func137, Try.ntmps137
  go_wp2
  go_ret
  exact ⟨rfl, rfl⟩
def NewAl (w : World) (l : List Sp) (e : Ending) (w' : World) : Prop :=
  ∃ g B m, e = .returned (.tuple #[.pointer (some ⟨g, 0, none⟩), .int .i64 0]) ∧ AlAt w' g l B m (fun k => w.heap.size ≤ k ∧ k ≠ g) ∧ w.heap.size ≤ g ∧ Touch (fun _ => False) w w'
theorem alnew_yes (F : Nat → Prop) (A : Option Addr) (c : Nat) (l : List Sp) (w : World) (h : SpR w F A l.length l) (hr : rowE l = 0) :
    Calls Try.prog 88 #[.slice A l.length c] w (NewAl w l) := by
  have hlen := (rowE_row hr).2
  have HF := Lib.hid (row_any F A c l w h (by omega))
  rw [hr] at HF
  have HC := Lib.hid (fun w1 h => sclone_any F A c l w1 h (by omega))
  have HR := Lib.hid h
  clear h hr
  go_enter Try.func88, Try.ntmps88
  go_wp2_with (first
    | (go_at_call 113; go_must (refine HF.out.mono ?_); rintro e w0 ⟨rfl, t0⟩; have HT0 := Lib.hid t0; clear t0)
    | (go_at_call 114; go_must (refine (HC.out _ (by exact HR.out.touch HT0.out (fun _ _ e => e))).mono ?_); rintro e w1 ⟨A1, c1, rfl, -, -, -, h4, h5⟩; have HQ := Lib.hid (And.intro h4 h5); clear h4 h5))
  go_ret2
  obtain ⟨h4, h5⟩ := HQ.out
  have s0 := HT0.out.size
  have s1 := h5.size
  have hal := (Touch.refl (fun _ => False) w1).alloc (.cells #[.slice A1 l.length c1] 189)
  exact ⟨w1.heap.size, A1, c1, rfl, ⟨Blk.new _ _ _, (h4.near.touch hal (fun _ _ e => e)).mono (fun k hk => ⟨by have := hk.1; omega, by have := hk.2; omega⟩)⟩, by omega, (HT0.out.trans h5 (fun _ _ e => e)).trans hal (fun _ _ e => e)⟩
theorem alnew_no (F : Nat → Prop) (A : Option Addr) (c : Nat) (l : List Sp) (w : World) (h : SpR w F A l.length l) (hr : rowE l ≠ 0) (hn : l.length ≤ 1000000) :
    Calls Try.prog 88 #[.slice A l.length c] w fun e w' => e = .returned (.tuple #[.pointer none, .int .i64 (rowE l)]) ∧ Touch (fun _ => False) w w' := by
  have HF := Lib.hid (row_any F A c l w h hn)
  have hb : (rowE l != 0) = true := by simpa using hr
  generalize rowE l = v at *
  clear h hr
  go_enter Try.func88, Try.ntmps88
  go_wp2_with (go_at_call 113; go_must (refine HF.out.mono ?_); rintro e w0 ⟨rfl, t0⟩; have HT0 := Lib.hid t0; clear t0)
  go_ret2
  exact ⟨rfl, HT0.out⟩
end Go.Proofs.Ytcblbjhhlnmkjaa
