/- The plain law of two polls, and the words for PollOne's loop. -/
import Derived.Test.YtbleeejhejkkcaaPolN
import Derived.Test.YtbleeejhejkkcaaMemI
namespace Go.Proofs.Ytbleeejhejkkcaa
open Go.RowKit
set_option maxHeartbeats 4000000
set_option maxRecDepth 100000
set_option linter.unusedVariables false

theorem who_mem (f : Int → Option Int) (x : Int) (i : Nat) (hi : i < 7) : (whoV f x).contains (i : Int) = (f (i : Int) == some x) := by
  rw [Bool.eq_iff_iff, List.contains_iff_mem, whoV, Row.rowOf]
  simp only [List.mem_map, List.mem_filter, List.mem_range]
  constructor
  · rintro ⟨j, ⟨h1, h2⟩, e⟩
    have : j = i := by omega
    subst this; exact h2
  · intro h; exact ⟨i, ⟨hi, h⟩, rfl⟩
theorem who_countP {L : List Int} {f : Int → Option Int} (hL : Row.soundB L = true) (hf : FIn L f) : L.countP (fun n => (Row.setN (whoV f 1)).testBit n.toNat) = (whoV f 1).length := by
  rw [Row.countP_row hL, who_count]
  refine List.countP_congr fun i hi => ?_
  have hi' := List.mem_range.1 hi
  rw [Int.toNat_natCast, Row.setN_bit, who_mem f 1 i hi']
  simp only [Bool.and_eq_true, decide_eq_true_eq]
  constructor
  · rintro ⟨_, _, h⟩; exact h
  · intro h; exact ⟨(hf i 1 (by simpa using h)).1, hi', h⟩
/-- Of two polls whose rows are near, in which nobody says yes to both, one at most is won. -/
theorem two_won {a b : List Int} {f f' : Int → Option Int} (hn : nearB a b = true) (hf : FIn a f) (hf' : FIn b f') (ho : ∀ i : Nat, i < 7 → f i = some 1 → f' i = some 1 → False) : stateV a f = 2 → stateV b f' = 2 → False := by
  intro h1 h2
  simp only [nearB, Bool.and_eq_true] at hn
  have h3 := hn.2
  rw [Row.near_eq, decide_eq_true_eq] at h3
  have e1 : a.length / 2 + 1 ≤ (whoV f 1).length := by
    unfold stateV at h1; split at h1
    · assumption
    · split at h1 <;> omega
  have e2 : b.length / 2 + 1 ≤ (whoV f' 1).length := by
    unfold stateV at h2; split at h2
    · assumption
    · split at h2 <;> omega
  have hm := Row.meets (x := Row.setN (whoV f 1)) (y := Row.setN (whoV f' 1)) hn.1.1 hn.1.2 h3 (by rw [who_countP hn.1.1 hf]; omega) (by rw [who_countP hn.1.2 hf']; omega)
  obtain ⟨n, hna, hnb⟩ := List.any_eq_true.1 hm
  have hnr := ((Row.sound_iff a).1 hn.1.1).2.2 n hna
  obtain ⟨i, rfl⟩ := Int.eq_ofNat_of_zero_le hnr.1
  have hi : i < 7 := by omega
  rw [Bool.and_eq_true, Nat.testBit_and, Int.toNat_natCast, Row.setN_bit, Row.setN_bit, who_mem f 1 i hi, who_mem f' 1 i hi] at hnb
  simp only [Bool.and_eq_true] at hnb
  exact ho i hi (by simpa using hnb.2.1.2) (by simpa using hnb.2.2.2)

theorem PlAt.near {w : World} {g : Nat} {L : List Int} {b n : Nat} {f : Int → Option Int} {F : Nat → Prop} (h : PlAt w g L b n f F) : PlAt w g L b n f (fun k => F k ∧ k < w.heap.size) := by
  obtain ⟨⟨A, c, hb, hr⟩, hm, hn, hF⟩ := h
  exact ⟨⟨A, c, hb, hr.near⟩, hm, hn, fun h => hF.1 h.1, fun h => hF.2 h.1⟩
/-- Seven bools as cells. -/
def boolsA (p : Nat → Bool) : Array Value := ((List.range 7).map fun i => Value.bool (p i)).toArray
theorem boolsA_get (p : Nat → Bool) {i : Nat} (hi : i < 7) : (boolsA p)[i]? = some (.bool (p i)) := by
  simp [boolsA, hi]
def setB (p : Nat → Bool) (k : Nat) (v : Bool) : Nat → Bool := fun i => if i = k then v else p i
theorem boolsA_set (p : Nat → Bool) {k : Nat} (hk : k < 7) (v : Bool) : (boolsA p).setIfInBounds k (.bool v) = boolsA (setB p k v) := by
  apply Array.ext
  · simp [boolsA]
  · intro i h1 h2
    have hi : i < 7 := by simpa [boolsA] using h2
    by_cases e : k = i
    · subst e; simp [boolsA, setB]
    · have e' : ¬ i = k := fun h => e h.symm
      simp [boolsA, setB, Array.getElem_setIfInBounds, e, e']
/-- In PollOne's loop. -/
structure Two (w0 w : World) (g : Nat) (a : List Int) (m : Nat) (f : Int → Option Int) (F : Nat → Prop) (g' : Nat) (b : List Int) (m' : Nat) (f' : Int → Option Int) (F' : Nat → Prop) (tp tq : Nat) (ps qs : Nat → Bool) : Prop where
  p : PlLoop w0 w g a m f F
  q : PlLoop w0 w g' b m' f' F'
  hp : Blk w tp 42 (boolsA ps)
  hq : Blk w tq 42 (boolsA qs)
  once : ∀ i, i < 7 → ps i = true → qs i = true → False
  yp : ∀ i : Nat, i < 7 → f i = some 1 → ps i = true
  yq : ∀ i : Nat, i < 7 → f' i = some 1 → qs i = true
theorem PlLoop.touch {w0 w w' : World} {g : Nat} {L : List Int} {b : Nat} {f : Int → Option Int} {F S : Nat → Prop} (h : PlLoop w0 w g L b f F) (t : Touch S w w') (h0 : ∀ k, k < w0.heap.size → ¬ S k) (h1 : ¬ S g) (h2 : ¬ S b) (h3 : ∀ k, F k → ¬ S k) : PlLoop w0 w' g L b f F :=
  ⟨h.at_.touch t h1 h2 h3, h.node, h.in_, h.t.trans t (fun k hk e => h0 k hk e)⟩
theorem noteF_yes {L : List Int} {f : Int → Option Int} {k i : Int} {ok : Bool} (h : noteF L f k ok i = some 1) : f i = some 1 ∨ (i = k ∧ ok = true) := by
  unfold noteF at h
  split at h
  · simp only [setI] at h
    split at h
    · rename_i e
      cases ok
      · simp at h
      · exact .inr ⟨e, rfl⟩
    · exact .inl h
  · exact .inl h
end Go.Proofs.Ytbleeejhejkkcaa
