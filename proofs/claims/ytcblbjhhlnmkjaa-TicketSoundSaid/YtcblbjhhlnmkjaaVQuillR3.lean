/- quill's Reader, on: Raw, Text, End. -/
import Derived.Test.YtcblbjhhlnmkjaaVQuillR2
import Derived.Laws.IdiomStrings
namespace Go.Proofs.Ytcblbjhhlnmkjaa
open Go.RowKit
set_option maxHeartbeats 1000000
set_option maxRecDepth 100000

/-- What Raw hands back: a new slice of the bytes xs; the reader is left as (l, bad). -/
def RawPost (n : Nat) (xs l : List UInt8) (bad : Bool) (w : World) (g : Nat) (F : Nat → Prop) (e : Ending) (w' : World) : Prop :=
  ∃ A c, e = .returned (.slice A n c) ∧ n ≤ c ∧ c ≤ maxLen ∧ Rd w' (fun k => w.heap.size ≤ k) A n (xs.map B8) ∧ RdAt w' g F l bad ∧ Touch (fun k => k = g) w w'

theorem rdAt_touch {w w' : World} {g : Nat} {F S : Nat → Prop} {l : List UInt8} {bad : Bool} (h : RdAt w g F l bad) (ht : Touch S w w') (hg : ¬ S g) (hF : ∀ k, F k → ¬ S k) : RdAt w' g F l bad := by
  obtain ⟨hgF, A, cap, hl, hm, hb, hr⟩ := h
  exact ⟨hgF, A, cap, hl, hm, ht.blk hb hg, hr.touch ht hF⟩

theorem Rd.str {w : World} {F : Nat → Prop} {A : Option Addr} {n : Nat} {l : List UInt8} (h : Rd w F A n (l.map B8)) (c : Nat) :
    (convert 33 9 (.slice A n c)).run Try.prog w = .ok (.string ⟨l.toArray⟩) w := by
  have hl := h.1
  rw [List.length_map] at hl
  subst hl
  rcases A with _ | ad
  · have : l = [] := by
      rcases l with _ | ⟨x, l⟩
      · rfl
      · obtain ⟨_, _, e, _⟩ := h.2 (by simp); cases e
    subst this
    exact run_convert_bytes_nil w 33 5 Try.underlying33 Try.underlying5 _ _ 9 Try.underlying9
  · refine run_convert_bytes_back w 33 9 5 ad c l Try.underlying33 Try.underlying5 Try.underlying9 (fun j hj => ?_)
    exact h.add j _ (by simp [B8, hj])

structure RTxt where
  txt : List UInt8
  left : List UInt8
  bad : Bool
def rdText (most : Int) (bad : Bool) (l : List UInt8) : RTxt :=
  if most < 0 then ⟨[], [], true⟩
  else if (rdNum most.toNat false bad l).left.length < (rdNum most.toNat false bad l).val then ⟨[], [], true⟩
  else ⟨(rdNum most.toNat false bad l).left.take (rdNum most.toNat false bad l).val, (rdNum most.toNat false bad l).left.drop (rdNum most.toNat false bad l).val, (rdNum most.toNat false bad l).bad⟩

theorem end_any (g : Nat) (F : Nat → Prop) (bad : Bool) (l : List UInt8) (w : World) (h : RdAt w g F l bad) :
    Calls Try.prog 69 #[.pointer (some ⟨g, 0, none⟩)] w fun e w' => e = .returned (.int .i64 (if bad || !l.isEmpty then 20 else 0)) ∧ w = w' := by
  obtain ⟨hg, A, cap, hl, hm, hb, hr⟩ := h
  have h0 := hb.cell 0
  have h1 := hb.cell 1
  simp at h0 h1
  clear hr
  cases bad
  · rcases l with _ | ⟨c, l⟩
    · simp only [List.length_nil] at h0
      go_enter Try.func69, Try.ntmps69
      go_wp2
      go_ret
      simp
    · simp only [List.length_cons] at h0
      go_enter Try.func69, Try.ntmps69
      go_wp2
      go_ret
      simp
  · go_enter Try.func69, Try.ntmps69
    go_wp2
    go_ret
    simp
end Go.Proofs.Ytcblbjhhlnmkjaa
