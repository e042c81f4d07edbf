/- A region that draws its order, in the round of a range over a function: walked by a plan. What calls leave as it lay. No program in sight. -/
import Derived.Test.YtcblbjhhlnmkjaaPlan
import Derived.RangeFuncNested
import Derived.RangeFuncBound
import Derived.RangeFuncCalls
import Derived.RangeFuncLeaves
import Derived.OwnWalkIn
import Derived.TacticsInMore
import Derived.LoopNIn
import Derived.LoopIn
namespace Go.Proofs.Ytcblbjhhlnmkjaa
open Go
set_option linter.unusedVariables false
section
variable {P : Program} {ops : Array Oper} {Q : Exit → Act → World → Prop} {md : Region.Mode} {n l : Nat}

theorem rows_in {row : String} {args : Array Value} {w : World} {R : Value → World → Prop} (h : Rows P row args w R) : RowsIn (Fence.wide.inRound l) n P row args w R :=
  fun c cs _ => let ⟨v, w', r, s⟩ := h c cs; ⟨v, w', r, by rw [fenced_inRound]; exact stepsIn_wide.2 s⟩
theorem upon_in {o : Oper} {a : Act} {K : Act → World → Prop} {r : Result Next} (h : o.upon P a K Q r) : o.uponIn (Fence.wide.inRound l) n P a K Q r := by
  cases r with
  | ok x w' =>
    cases x <;> first
      | exact h.elim
      | exact h
      | exact ⟨fun e => by simp [Fence.wide] at e, CallsIn.inRound l (callsIn_wide.2 h)⟩
      | exact ⟨fun e => by simp [Fence.wide] at e, rows_in h⟩
  | halt x w' => cases x <;> first | exact h | exact h.elim
/-- No operation lays a deferred call. -/
def noDefer (ops : Array Oper) : Bool := ops.all fun o => match o.op with | .defer _ => false | _ => true
theorem noDefer_spec (h : noDefer ops = true) {i : Nat} {o : Oper} (ho : ops[i]? = some o) : ∀ c, o.op ≠ .defer c := by
  intro c hc
  obtain ⟨hi, he⟩ := Array.getElem?_eq_some_iff.1 ho
  have := (Array.all_eq_true.1 h) i hi
  rw [he, hc] at this
  cases this
theorem wpOp_in (hL : ¬ LetsOut Q) (hd : noDefer ops = true) {i : Nat} {K : Act → World → Prop} {a : Act} {w : World} (h : wpOp P ops Q i K a w) : wpOpIn (Fence.wide.inRound l) n P ops Q i K a w := by
  unfold wpOp at h
  unfold wpOpIn
  cases ho : ops[i]? with
  | none => rw [ho] at h; exact h
  | some o =>
    rw [ho] at h
    simp only at h ⊢
    split
    · rename_i hw
      simp only [hw, if_true] at h
      refine ⟨fun _ _ => trivial, ?_⟩
      rw [show (Fence.wide.inRound l).round = some l from rfl, Oper.semAt_some l _ _ (noDefer_spec hd ho)]
      exact upon_in (h.resolve_right (fun e => hL e.2))
    · rename_i hw
      simp only [hw] at h
      exact ⟨fun _ _ => trivial, h⟩
theorem wpOp_mono' {i : Nat} {a : Act} {w : World} {K K' : Act → World → Prop} (h : ∀ a w, K a w → K' a w) (hh : wpOp P ops Q i K a w) : wpOp P ops Q i K' a w := wpOp_mono h hh
theorem wpAny_in (hL : ¬ LetsOut Q) (hd : noDefer ops = true) : ∀ (f : Nat) (listed : Array Bool) (a : Act) (w : World), wpAny P md ops Q f listed a w → wpAnyIn (Fence.wide.inRound l) n P md ops Q f listed a w
  | 0, _, _, _, h => h
  | f + 1, listed, a, w, h => ⟨h.1, fun i hi => wpOp_in hL hd (wpOp_mono (fun a' w' h' => wpAny_in hL hd f _ a' w' h') (h.2 i hi))⟩
/-- The beginning, in a round. -/
theorem wpIn_region_plan {id : Nat} {a : Act} {w : World} {L : List Oper} (plan : List Stp) (T : Nat → Prop) (hm : P.follows .mixedOrders = true) (hB : planB L.toArray plan = true) (hd : noDefer L.toArray = true) (hL : ¬ LetsOut Q)
    (hQ : ∀ c a d v w, Q (.panic c) (Act.put a d v) w → Q (.panic c) a w) (h : wpPlan P L.toArray Q T plan a w.drew) : (Code.region id L.toArray true).wpIn (Fence.wide.inRound l) n P Q a w := by
  simp only [planB, Bool.and_eq_true, beq_iff_eq] at hB
  obtain ⟨⟨hsel, hlen⟩, hB⟩ := hB
  refine wpIn_region_any hm (wpAny_in hL hd _ _ _ _ (wpMix_sound (T := T) (fl := flOf plan) (lt := ltOf plan) _ _ _ _ ?_))
  rw [← hlen]
  have := wpPlan_sound (md := .any) hQ hsel plan (Array.replicate L.toArray.size false) a w.drew hB h
  simpa [hlen] using this
end
theorem Touch.others {S : Nat → Prop} {W W' : World} (h : Touch S W W') (hS : ∀ k, S k → ∃ o, W.heap[k]? = some o ∧ o.isCells = true) : KeepsOthers W W' :=
  ⟨h.size, fun k o hk ho => by
    refine (h.block k (Array.getElem?_eq_some_iff.1 hk).1 (fun e => ?_)).trans hk
    obtain ⟨o', h1, h2⟩ := hS k e
    rw [hk] at h1
    injection h1 with h1
    subst h1
    rw [ho] at h2; cases h2⟩
theorem Touch.othersB {S : Nat → Prop} {W W' : World} (h : Touch S W W') (hS : ∀ k, S k → ∃ g t cs, k = g ∧ Blk W g t cs) : KeepsOthers W W' :=
  h.others (fun k e => by obtain ⟨g, t, cs, rfl, hb⟩ := hS k e; exact ⟨_, hb, rfl⟩)
theorem Touch.grown {W W' : World} (h : Touch (fun _ => False) W W') : W.grownBy W' none := ⟨h.os, h.tape, h.output, h.size, fun k hk _ => h.block k hk (fun e => e)⟩
/-- What a range over a function does beside the rounds, as a touch. -/
theorem Touch.of_row {W W' : World} {B : Nat} {row : Option Nat} (h : W.grownBy W' row) (hr : ∀ r, row = some r → B ≤ r) : Touch (fun k => B ≤ k) W W' :=
  ⟨h.os, h.tape, h.output, h.size, fun k hk hn => h.block k hk (fun e => hn (hr k e.symm))⟩
/-- Cells lie as they lay, but for the blocks in T. -/
def KeepT (T : Nat → Prop) (W W' : World) : Prop := W.heap.size ≤ W'.heap.size ∧ ∀ k o, W.heap[k]? = some o → o.isCells = true → ¬ T k → W'.heap[k]? = some o
theorem KeepT.refl (T : Nat → Prop) (W : World) : KeepT T W W := ⟨Nat.le_refl _, fun _ _ h _ _ => h⟩
theorem KeepT.t {T : Nat → Prop} {A B C : World} (h : KeepT T A B) (h' : KeepT T B C) : KeepT T A C := ⟨Nat.le_trans h.1 h'.1, fun k o hk hc hn => h'.2 k o (h.2 k o hk hc hn) hc hn⟩
theorem KeepT.b {T : Nat → Prop} {B : Nat} (W : World) (l : Nat) (o o' : Obj) (_ : B ≤ l) (h : W.heap[l]? = some o) (ho : o.isCells = false) (_ : o.isWalk = false) : KeepT T W (W.putObj l o') :=
  ⟨by simp, fun k q hk hc hn => (World.putObj_heap_other (fun e => by subst e; rw [hk] at h; injection h with h; subst h; rw [hc] at ho; cases ho)).trans hk⟩
theorem KeepT.of_touch {T S : Nat → Prop} {W W' : World} (h : Touch S W W') (hS : ∀ k, S k → T k) : KeepT T W W' :=
  ⟨h.size, fun k o hk hc hn => (h.block k (Array.getElem?_eq_some_iff.1 hk).1 (fun e => hn (hS k e))).trans hk⟩
theorem KeepT.cell {T : Nat → Prop} {W W' : World} (h : KeepT T W W') {g i : Nat} (hg : ¬ T g) {v : Value} (hc : W.cell? ⟨g, i, none⟩ = some v) : W'.cell? ⟨g, i, none⟩ = some v := by
  obtain ⟨o, ho, hcs⟩ := cells_of_cell hc
  exact (World.cell?_of_block (w := W) (a := ⟨g, i, none⟩) ((h.2 g o ho hcs hg).trans ho.symm)).trans hc
theorem KeepT.blk {T : Nat → Prop} {W W' : World} (h : KeepT T W W') {g : Nat} {t : TypeId} {cs : Array Value} (hb : Blk W g t cs) (hg : ¬ T g) : Blk W' g t cs := h.2 g _ hb rfl hg
end Go.Proofs.Ytcblbjhhlnmkjaa
