/- Words for memory, of my own: a block known whole, a world that is another one but for some blocks, a slice that reads as a list. No program in sight. -/
import Derived.WalkKit
import Derived.WalkSpells
import Derived.WalkLawsBesides
import Derived.Lib.Hide
import Derived.Deep.AppendLies
namespace Go.Proofs.Ytpgakkpmpnebnaa
open Go.RowKit

/-- Block g is just the cells cs of element type t, none frozen. -/
def Blk (w : World) (g : Nat) (t : TypeId) (cs : Array Value) : Prop := w.heap[g]? = some (.cells cs t (0, 0))
section
variable {w w' : World} {g : Nat} {t : TypeId} {cs : Array Value}
theorem Blk.lt (h : Blk w g t cs) : g < w.heap.size := by
  rcases Nat.lt_or_ge g w.heap.size with hlt | hge
  · exact hlt
  · unfold Blk at h; rw [Array.getElem?_eq_none hge] at h; cases h
theorem Blk.cell (h : Blk w g t cs) (i : Nat) : w.cell? ⟨g, i, none⟩ = cs[i]? := cell_of_row w g i cs t (0, 0) h
theorem Blk.frozen (h : Blk w g t cs) (i : Nat) : w.frozen? ⟨g, i, none⟩ = false := by
  unfold Blk at h
  simp [World.frozen?, h]
theorem Blk.new (w : World) (t : TypeId) (cs : Array Value) : Blk (w.alloc (.cells cs t)) w.heap.size t cs := heap_alloc_new w _
theorem Blk.drewN (h : Blk w g t cs) (n : Nat) : Blk (w.drewN n) g t cs := h
theorem Blk.alloc (h : Blk w g t cs) (o : Obj) : Blk (w.alloc o) g t cs := (Below.heap_alloc w o g h.lt).trans h
theorem Blk.set_ (h : Blk w g t cs) (i : Nat) (u : Value) : Blk (w.setCell ⟨g, i, none⟩ u) g t (cs.setIfInBounds i u) := by
  unfold Blk at h ⊢
  simp [World.setCell, Array.getElem?_modify, h]
theorem Blk.far (h : Blk w g t cs) {p : Addr} (hp : g ≠ p.block) (u : Value) : Blk (w.setCell p u) g t cs := (Below.heap_setCell w p u g hp).trans h
theorem Blk.ne_ {g' : Nat} {t' : TypeId} {cs' : Array Value} (h : Blk w g t cs) (h' : Blk w g' t' cs') (hne : t ≠ t') : g ≠ g' := by
  rintro rfl
  unfold Blk at h h'
  rw [h] at h'
  injection h' with h'
  injection h' with h1 h2
  exact hne h2
end

/-- w' is w but for the blocks in S, and new ones. -/
structure Touch (S : Nat → Prop) (w w' : World) : Prop where
  os : w'.os = w.os
  tape : w'.tape = w.tape
  output : w'.output = w.output
  size : w.heap.size ≤ w'.heap.size
  block : ∀ k, k < w.heap.size → ¬ S k → w'.heap[k]? = w.heap[k]?
section
variable {S S' : Nat → Prop} {w w1 w2 : World}
theorem Touch.refl (S : Nat → Prop) (w : World) : Touch S w w := ⟨rfl, rfl, rfl, Nat.le_refl _, fun _ _ _ => rfl⟩
theorem Touch.trans (h : Touch S w w1) (h' : Touch S' w1 w2) (hs : ∀ k, k < w.heap.size → S' k → S k) : Touch S w w2 :=
  ⟨h'.os.trans h.os, h'.tape.trans h.tape, h'.output.trans h.output, Nat.le_trans h.size h'.size,
    fun k hk hn => (h'.block k (Nat.lt_of_lt_of_le hk h.size) (fun e => hn (hs k hk e))).trans (h.block k hk hn)⟩
theorem Touch.mono (h : Touch S w w1) (hs : ∀ k, k < w.heap.size → S k → S' k) : Touch S' w w1 :=
  ⟨h.os, h.tape, h.output, h.size, fun k hk hn => h.block k hk (fun e => hn (hs k hk e))⟩
theorem Touch.set (h : Touch S w w1) {b o : Nat} (hp : b < w.heap.size → S b) (u : Value) : Touch S w (w1.setCell ⟨b, o, none⟩ u) :=
  ⟨h.os, h.tape, h.output, by have := h.size; simpa [World.setCell] using this, fun k hk hn => by
    rw [Below.heap_setCell _ _ _ _ (fun e => hn (by subst e; exact hp hk))]; exact h.block k hk hn⟩
theorem Touch.alloc (h : Touch S w w1) (o : Obj) : Touch S w (w1.alloc o) :=
  ⟨h.os, h.tape, h.output, by have := h.size; simp; omega, fun k hk hn => by
    rw [Below.heap_alloc _ _ _ (Nat.lt_of_lt_of_le hk h.size)]; exact h.block k hk hn⟩
theorem Touch.drewN (h : Touch S w w1) (n : Nat) : Touch S w (w1.drewN n) := ⟨h.os, h.tape, h.output, h.size, h.block⟩
theorem Touch.drew (h : Touch S w w1) : Touch S w w1.drew := ⟨h.os, h.tape, h.output, h.size, h.block⟩
theorem Touch.below (h : Touch (fun _ => False) w w1) : Below w.heap.size w w1 := ⟨h.os, h.tape, h.output, h.size, fun k hk => h.block k hk (fun e => e)⟩
theorem Touch.of_below (h : Below w.heap.size w w1) : Touch S w w1 := ⟨h.os, h.tape, h.output, h.size, fun k hk _ => h.block k hk⟩
theorem Touch.of_grown {row : Option Nat} (h : w.grownBy w1 row) : Touch (fun k => row = some k) w w1 := ⟨h.os, h.tape, h.output, h.size, fun k hk hn => h.block k hk (fun e => hn e.symm)⟩
theorem Touch.cell (h : Touch S w w1) {p : Addr} (hp : p.block < w.heap.size) (hn : ¬ S p.block) : w1.cell? p = w.cell? p := World.cell?_of_block (w := w) (h.block p.block hp hn)
theorem Touch.blk (h : Touch S w w1) {g : Nat} {t : TypeId} {cs : Array Value} (hb : Blk w g t cs) (hn : ¬ S g) : Blk w1 g t cs := (h.block g hb.lt hn).trans hb
end

/-- The slice value (A, n, c) reads as the cells xs; its block lies in F. -/
def Rd (w : World) (F : Nat → Prop) (A : Option Addr) (n : Nat) (xs : List Value) : Prop :=
  xs.length = n ∧ (0 < n → ∃ g off, A = some ⟨g, off, none⟩ ∧ g < w.heap.size ∧ F g ∧ ∀ j u, xs[j]? = some u → w.cell? ⟨g, off + j, none⟩ = some u)
section
variable {w w' : World} {F F' S : Nat → Prop} {A : Option Addr} {n : Nat} {xs : List Value}
theorem Rd.nil (w : World) (F : Nat → Prop) (A : Option Addr) : Rd w F A 0 [] := ⟨rfl, fun h => absurd h (by omega)⟩
theorem Rd.touch (h : Rd w F A n xs) (ht : Touch S w w') (hd : ∀ k, F k → ¬ S k) : Rd w' F A n xs :=
  ⟨h.1, fun hn => by
    obtain ⟨g, off, e, hl, hF, hc⟩ := h.2 hn
    exact ⟨g, off, e, Nat.lt_of_lt_of_le hl ht.size, hF, fun j u hj => (ht.cell (p := ⟨g, off + j, none⟩) hl (hd g hF)).trans (hc j u hj)⟩⟩
theorem Rd.mono (h : Rd w F A n xs) (hF : ∀ k, F k → F' k) : Rd w F' A n xs :=
  ⟨h.1, fun hn => by
    obtain ⟨g, off, e, hl, hf, hc⟩ := h.2 hn
    exact ⟨g, off, e, hl, hF g hf, hc⟩⟩
/-- What a cut 's[k:]' leaves. -/
theorem Rd.cut {k cap : Nat} (h : Rd w F A n xs) (hk : k ≤ n) (hc : n ≤ cap) : Rd w F (if cap = k then A else A.map (·.add k)) (n - k) (xs.drop k) := by
  refine ⟨by rw [List.length_drop, h.1], fun hn => ?_⟩
  obtain ⟨g, off, rfl, hl, hF, hcell⟩ := h.2 (by omega)
  rw [if_neg (by omega)]
  refine ⟨g, off + k, by unfold Addr.add; split <;> simp_all, hl, hF, fun j u hu => ?_⟩
  rw [Nat.add_assoc]
  exact hcell _ u (by rw [← hu, List.getElem?_drop])
theorem Rd.take {k : Nat} (h : Rd w F A n xs) (hk : k ≤ n) : Rd w F A k (xs.take k) := by
  refine ⟨by rw [List.length_take, h.1]; omega, fun hn => ?_⟩
  obtain ⟨g, off, rfl, hl, hF, hcell⟩ := h.2 (by omega)
  refine ⟨g, off, rfl, hl, hF, fun j u hu => ?_⟩
  rw [List.getElem?_take] at hu
  split at hu
  · exact hcell _ u hu
  · cases hu
/-- An owned row reads. -/
theorem Rd.of_own {base : Nat} {e : TypeId} {v : Value} {n : Nat} {xs : List Value} (h : w.ownsRow base e 1 v n xs) :
    ∃ A c, v = .slice A n c ∧ n ≤ c ∧ c ≤ maxLen ∧ Rd w (fun k => v.ownBlock = some k) A n xs := by
  rcases h.2 with ⟨rfl, rfl⟩ | ⟨g, cap, cur, rfl, hb, hg, hn, hc, hs, ht⟩
  · have : xs = [] := List.eq_nil_of_length_eq_zero (by simpa using h.1)
    subst this
    exact ⟨none, 0, rfl, Nat.le_refl _, by simp, Rd.nil _ _ _⟩
  · refine ⟨_, cap, rfl, hn, hc, by simpa using h.1, fun hpos => ⟨g, 0, rfl, (Array.getElem?_eq_some_iff.1 hg).1, rfl, fun j u hj => ?_⟩⟩
    have := h.cells (g := g) rfl j u hj
    have e : (⟨g, 0, none⟩ : Addr).add j = ⟨g, 0 + j, none⟩ := by unfold Addr.add; split <;> simp_all
    rw [← e]; exact this
end

theorem addr_add (g off k : Nat) : (⟨g, off, none⟩ : Addr).add k = ⟨g, off + k, none⟩ := by unfold Addr.add; split <;> simp_all
theorem ret_int {k : IntKind} {a b : Int} (h : a = b) : Ending.returned (.int k a) = .returned (.int k b) := by rw [h]
theorem ret_bool {a b : Bool} (h : a = b) : Ending.returned (.bool a) = .returned (.bool b) := by rw [h]
theorem ret_str {a b : ByteArray} (h : a = b) : Ending.returned (.string a) = .returned (.string b) := by rw [h]
theorem ret_val {a b : Value} (h : a = b) : Ending.returned a = .returned b := by rw [h]

/-- A byte as a value. -/
def B8 (c : UInt8) : Value := .int .u8 (c.toNat : Int)
theorem B8_lt (c : UInt8) : c.toNat < 256 := c.toBitVec.isLt

end Go.Proofs.Ytpgakkpmpnebnaa
