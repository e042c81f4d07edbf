/- The plain law of polls: what is won or lost stays so. -/
import Derived.Test.YtbleeejhejkkcaaPolE
import Derived.Test.YtbleeejhejkkcaaMemN
namespace Go.Proofs.Ytbleeejhejkkcaa
open Go.Proofs.Ytbleeejhejkkcaa.Row
set_option linter.unusedVariables false
theorem countP_sum (p q r : Nat → Bool) (h1 : ∀ i, p i = true → r i = true) (h2 : ∀ i, q i = true → r i = true) (h3 : ∀ i, p i = true → q i = false) : ∀ l : List Nat, l.countP p + l.countP q ≤ l.countP r
  | [] => by simp
  | x :: l => by
    have ih := countP_sum p q r h1 h2 h3 l
    simp only [List.countP_cons]
    have a1 := h1 x; have a2 := h2 x; have a3 := h3 x
    cases hp : p x <;> cases hq : q x <;> cases hr : r x <;> simp_all <;> omega
theorem who_count (f : Int → Option Int) (x : Int) : (whoV f x).length = (List.range 7).countP fun (i : Nat) => f (i : Int) == some x := by
  rw [whoV, rowOf, List.length_map, List.countP_eq_length_filter]
theorem who_mono {f f' : Int → Option Int} {x : Int} (h : ∀ k, f k = some x → f' k = some x) : (whoV f x).length ≤ (whoV f' x).length := by
  rw [who_count, who_count]
  refine List.countP_mono_left fun i _ hi => ?_
  have := h i (by simpa using hi)
  simpa using this
theorem who_sum {L : List Int} {f : Int → Option Int} (hL : soundB L = true) (hf : ∀ k v, f k = some v → L.contains k = true) : (whoV f 1).length + (whoV f 2).length ≤ L.length := by
  rw [who_count, who_count, length_row hL]
  refine countP_sum (fun (i : Nat) => f (i : Int) == some 1) (fun (i : Nat) => f (i : Int) == some 2) (fun (i : Nat) => L.contains (i : Int)) (fun i h => hf i 1 (by simpa using h)) (fun i h => hf i 2 (by simpa using h)) (fun i h => ?_) _
  have h1 : f (i : Int) = some 1 := by simpa using h
  rw [h1]; decide
def FIn (L : List Int) (f : Int → Option Int) : Prop := ∀ k v, f k = some v → L.contains k = true ∧ (v = 1 ∨ v = 2)
theorem noteF_in {L : List Int} {f : Int → Option Int} {k : Int} {ok : Bool} (h : FIn L f) : FIn L (noteF L f k ok) := by
  intro i v hv
  unfold noteF at hv
  split at hv
  · rename_i hb
    simp only [setI] at hv
    split at hv
    · rename_i e
      subst e
      rw [noteB, Bool.and_eq_true] at hb
      refine ⟨hb.1, ?_⟩
      injection hv with hv
      cases ok
      · right; simpa using hv.symm
      · left; simpa using hv.symm
    · exact h i v hv
  · exact h i v hv
theorem noteF_keeps {L : List Int} {f : Int → Option Int} {k : Int} {ok : Bool} (h : FIn L f) {i x : Int} (hx : f i = some x) : noteF L f k ok i = some x := by
  unfold noteF
  split
  · rename_i hb
    simp only [setI]
    split
    · rename_i e
      subst e
      rw [noteB, Bool.and_eq_true, hx] at hb
      have h0 := (h i x hx).2
      have := hb.2
      simp at this
      omega
    · exact hx
  · exact hx
theorem state_stays {L : List Int} {f : Int → Option Int} {k : Int} {ok : Bool} (hL : soundB L = true) (h : FIn L f) (hs : stateV L f ≠ 1) : stateV L (noteF L f k ok) = stateV L f := by
  have h1 := who_mono (x := 1) (f := f) (f' := noteF L f k ok) (fun i hi => noteF_keeps h hi)
  have h2 := who_mono (x := 2) (f := f) (f' := noteF L f k ok) (fun i hi => noteF_keeps h hi)
  have h3 := who_sum (f := noteF L f k ok) hL (fun i v hv => (noteF_in (ok := ok) h i v hv).1)
  unfold stateV at *
  split at hs
  · rename_i ha; rw [if_pos ha, if_pos (by omega)]
  · rename_i ha
    rw [if_neg ha]
    split at hs
    · rename_i hb; rw [if_pos hb, if_neg (by omega), if_pos (by omega)]
    · exact absurd rfl hs
theorem state_in (L : List Int) (f : Int → Option Int) : 1 ≤ stateV L f ∧ stateV L f ≤ 3 := by
  unfold stateV
  split
  · omega
  · split <;> omega
end Go.Proofs.Ytbleeejhejkkcaa
