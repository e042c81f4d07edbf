/- Arguments opened: a slice of whatever elements reads as a list. No program in sight. -/
import Derived.Test.YtpgakkpmpnebnaaMem
import Derived.Deep.Slices
import Derived.Deep.Fields
import Derived.ChangeArms
import Derived.ProofKit
namespace Go.Proofs.Ytpgakkpmpnebnaa
open Go.RowKit Go.ChangeShapes Go.WideShapes Go.Deep

/-- The slice value (A, n, c), its elements of sz cells each, reads as the cells xs, in a block in F. -/
def RdZ (w : World) (F : Nat → Prop) (sz : Nat) (A : Option Addr) (n : Nat) (xs : List Value) : Prop :=
  xs.length = n * sz ∧ (0 < n → ∃ g off, A = some ⟨g, off, none⟩ ∧ g < w.heap.size ∧ F g ∧ ∀ j u, xs[j]? = some u → w.cell? ⟨g, off + j, none⟩ = some u)
theorem RdZ.rd {w : World} {F : Nat → Prop} {A : Option Addr} {n : Nat} {xs : List Value} (h : RdZ w F 1 A n xs) : Rd w F A n xs := ⟨by simpa using h.1, h.2⟩
theorem RdZ.touch {w w' : World} {F S : Nat → Prop} {sz : Nat} {A : Option Addr} {n : Nat} {xs : List Value} (h : RdZ w F sz A n xs) (ht : Touch S w w') (hd : ∀ k, F k → ¬ S k) : RdZ w' F sz A n xs :=
  ⟨h.1, fun hn => by
    obtain ⟨g, off, e, hl, hF, hc⟩ := h.2 hn
    exact ⟨g, off, e, Nat.lt_of_lt_of_le hl ht.size, hF, fun j u hj => (ht.cell (p := ⟨g, off + j, none⟩) hl (hd g hF)).trans (hc j u hj)⟩⟩

theorem flat_get {α : Type} (f : α → List Value) (sz : Nat) : ∀ (as : List α), (∀ a ∈ as, (f a).length = sz) → ∀ (i : Nat) (a : α), as[i]? = some a → ∀ j, j < sz → (as.flatMap f)[i * sz + j]? = (f a)[j]?
  | [], _, i, a, h, _, _ => by simp at h
  | b :: as, hl, 0, a, h, j, hj => by
    simp at h; subst h
    have hb : (f b).length = sz := hl b (by simp)
    rw [List.flatMap_cons, Nat.zero_mul, Nat.zero_add, List.getElem?_append_left (by omega)]
  | b :: as, hl, i + 1, a, h, j, hj => by
    have hb : (f b).length = sz := hl b (by simp)
    simp only [List.getElem?_cons_succ] at h
    rw [List.flatMap_cons, List.getElem?_append_right (by rw [hb, Nat.add_mul]; omega), hb, show (i + 1) * sz + j - sz = i * sz + j by rw [Nat.add_mul]; omega]
    exact flat_get f sz as (fun a ha => hl a (by simp [ha])) i a h j hj

theorem flat_len {α : Type} (f : α → List Value) (sz : Nat) : ∀ (as : List α), (∀ a ∈ as, (f a).length = sz) → (as.flatMap f).length = as.length * sz
  | [], _ => by simp
  | b :: as, hl => by
    rw [List.flatMap_cons, List.length_append, hl b (by simp), flat_len f sz as (fun a ha => hl a (by simp [ha])), List.length_cons, Nat.add_mul]; omega

/-- The cells of the i-th element. -/
theorem RdZ.at_ {α : Type} {w : World} {F : Nat → Prop} {sz : Nat} {A : Option Addr} {n : Nat} {f : α → List Value} {as : List α} (h : RdZ w F sz A n (as.flatMap f)) (hl : ∀ a ∈ as, (f a).length = sz) (hn : as.length = n) {i : Nat} {a : α} (ha : as[i]? = some a) :
    ∃ g off, A = some ⟨g, off, none⟩ ∧ g < w.heap.size ∧ F g ∧ ∀ j u, (f a)[j]? = some u → w.cell? ⟨g, off + (i * sz + j), none⟩ = some u := by
  have hi : i < as.length := (List.getElem?_eq_some_iff.1 ha).1
  obtain ⟨g, off, e, hg, hF, hc⟩ := h.2 (by omega)
  refine ⟨g, off, e, hg, hF, fun j u hj => hc _ _ ?_⟩
  have hjl : j < (f a).length := (List.getElem?_eq_some_iff.1 hj).1
  rw [flat_get f sz as hl i a ha j (by rw [hl a (List.mem_of_getElem? ha)] at hjl; exact hjl)]
  exact hj

theorem choose_list {α : Type} {p : Nat → α → Prop} : ∀ n : Nat, (∀ i, i < n → ∃ x, p i x) → ∃ as : List α, as.length = n ∧ ∀ i x, as[i]? = some x → p i x
  | 0, _ => ⟨[], rfl, fun i x h => by simp at h⟩
  | n + 1, h => by
    obtain ⟨as, hal, has⟩ := choose_list n (fun i hi => h i (by omega))
    obtain ⟨x, hx⟩ := h n (by omega)
    refine ⟨as ++ [x], by simp [hal], fun i y hy => ?_⟩
    rcases Nat.lt_or_ge i n with hlt | hge
    · rw [List.getElem?_append_left (by omega)] at hy
      exact has i y hy
    · have : i = n := by
        have := (List.getElem?_eq_some_iff.1 hy).1
        simp [hal] at this
        omega
      subst this
      rw [List.getElem?_append_right (by omega), hal] at hy
      simp at hy
      subst hy
      exact hx

section
variable {H : Type} {enc : TypeId × Value → H} {P : Program} {w : World} {spare : Nat → Bool} {held : Bool}
/-- An argument that is a slice. -/
theorem open_list {α : Type} (f : α → List Value) (okp : α → Prop) {t e : TypeId} {sz : Nat} {v : Value} {d : DataW H} {ps : List MemPlace} (ht : P.underlying t = some (.slice e)) (hsz : P.cellsOf e = sz) (hsz0 : 0 < sz)
    (helem : ∀ fuel cs x, DataW.trod enc P w 0 spare held fuel e cs = some x → ∃ a, cs = f a ∧ okp a)
    (A : Option Addr) (n c : Nat) (hv : v = .slice A n c) (h : DataW.Trod enc P w 0 spare held t v d ps) :
    ∃ as : List α, as.length = n ∧ (∀ a ∈ as, okp a) ∧ (∀ a ∈ as, (f a).length = sz) ∧ (A = none → c = 0) ∧ n ≤ c ∧ c ≤ maxLen ∧ RdZ w (fun k => k < w.heap.size) sz A n (as.flatMap f) := by
  subst hv
  obtain ⟨fuel, hf⟩ := h
  rcases open_slice ht hf with ⟨hcs, _⟩ | ⟨a, len, cap, m, k, D, Pl, hcs, _, hl, hm, hmm, _, hi⟩
  · simp [Value.cells] at hcs
    obtain ⟨rfl, rfl, rfl⟩ := hcs
    exact ⟨[], rfl, by simp, by simp, fun _ => rfl, by omega, by simp, by simp, fun h => absurd h (by omega)⟩
  · simp [Value.cells] at hcs
    obtain ⟨rfl, rfl, rfl⟩ := hcs
    have hnm : n ≤ m := by rw [hmm]; split <;> omega
    have hel : ∀ i, i < n → ∃ x : α, okp x ∧ (f x).length = sz ∧ ∀ j u, (f x)[j]? = some u → w.cell? (a.add (i * sz + j)) = some u := by
      intro i hin
      obtain ⟨cs', hc, htr⟩ := hi i (by omega)
      rw [hsz] at hc
      obtain ⟨_, hcl, hat⟩ := World.cells?_some hc
      obtain ⟨x, rfl, hx⟩ := helem _ _ _ htr
      refine ⟨x, hx, hcl, fun j u hj => ?_⟩
      have hjl : j < (f x).length := (List.getElem?_eq_some_iff.1 hj).1
      rw [← add_add, hat j (by omega)]
      exact hj
    have hex : ∃ as : List α, as.length = n ∧ ∀ i x, as[i]? = some x → okp x ∧ (f x).length = sz ∧ ∀ j u, (f x)[j]? = some u → w.cell? (a.add (i * sz + j)) = some u := by
      exact choose_list n hel
    obtain ⟨as, hal, has⟩ := hex
    have hlen : ∀ x ∈ as, (f x).length = sz := fun x hx => by
      obtain ⟨i, hi⟩ := List.mem_iff_getElem?.1 hx
      exact (has i x hi).2.1
    refine ⟨as, hal, fun x hx => ?_, hlen, fun e => (by cases e), hl, hm, by rw [flat_len f sz as hlen, hal], fun hn => ?_⟩
    · obtain ⟨i, hi⟩ := List.mem_iff_getElem?.1 hx
      exact (has i x hi).1
    · obtain ⟨b, off, spot⟩ := a
      have h0 : as[0]? = some as[0] := List.getElem?_eq_getElem (by omega)
      have hl0 : 0 < (f as[0]).length := by rw [hlen _ (by simp)]; exact hsz0
      have hc0 := (has 0 as[0] h0).2.2 0 (f as[0])[0] (List.getElem?_eq_getElem hl0)
      have hspot : spot = none := by simpa [Addr.add] using World.cell?_spot hc0
      subst hspot
      refine ⟨b, off, rfl, by have := World.block_lt_of_cell? w _ hc0; simpa [Addr.add] using this, ?_, fun j u hj => ?_⟩
      · have := World.block_lt_of_cell? w _ hc0
        simpa [Addr.add] using this
      · have hjl : j < as.length * sz := by
          have := (List.getElem?_eq_some_iff.1 hj).1
          rwa [flat_len f sz as hlen] at this
        have hq : j / sz < as.length := by rw [Nat.div_lt_iff_lt_mul hsz0]; exact hjl
        have hr : j % sz < sz := Nat.mod_lt _ hsz0
        have hjj : j = j / sz * sz + j % sz := by rw [Nat.mul_comm]; exact (Nat.div_add_mod j sz).symm
        have ha : as[j / sz]? = some as[j / sz] := List.getElem?_eq_getElem hq
        rw [hjj, flat_get f sz as hlen _ _ ha _ hr] at hj
        have := (has _ _ ha).2.2 _ _ hj
        rw [← hjj, addr_add] at this
        exact this
/-- A byte. -/
theorem elem_u8 {e : TypeId} (he : P.underlying e = some (.int .u8)) {fuel : Nat} {cs : List Value} {x : DataW H × List MemPlace} (h : DataW.trod enc P w 0 spare held fuel e cs = some x) : ∃ c : UInt8, cs = [B8 c] ∧ True := by
  obtain ⟨n, rfl, _, hw⟩ := DataW.trod_int he h
  simp [Lit.wf, IntKind.min, IntKind.max, IntKind.signed, IntKind.bits] at hw
  refine ⟨UInt8.ofNat n.toNat, ?_, trivial⟩
  rw [B8, UInt8.toNat_ofNat']
  congr 2
  omega
theorem flat_map1 {α : Type} (g : α → Value) (l : List α) : l.flatMap (fun a => [g a]) = l.map g := by
  induction l with
  | nil => rfl
  | cons a l ih => rw [List.flatMap_cons, ih]; rfl
/-- A []byte. -/
theorem open_bytes {t e : TypeId} {v : Value} {d : DataW H} {ps : List MemPlace} (ht : P.underlying t = some (.slice e)) (he : P.underlying e = some (.int .u8)) (hsz : P.cellsOf e = 1)
    (A : Option Addr) (n c : Nat) (hv : v = .slice A n c) (h : DataW.Trod enc P w 0 spare held t v d ps) :
    ∃ l : List UInt8, l.length = n ∧ (A = none → c = 0) ∧ n ≤ c ∧ c ≤ maxLen ∧ Rd w (fun k => k < w.heap.size) A n (l.map B8) := by
  obtain ⟨l, h1, _, _, h2, h3, h4, h5⟩ := open_list (fun c => [B8 c]) (fun _ => True) ht hsz (by decide) (fun _ _ _ hx => elem_u8 he hx) A n c hv h
  rw [flat_map1] at h5
  exact ⟨l, h1, h2, h3, h4, h5.rd⟩
/-- A struct of one-cell fields: each field's own reading. -/
theorem struct_cells {e : TypeId} {fs : Array Field} (he : P.underlying e = some (.struct fs)) (hone : oneCellFields P fs = true) (hC : P.cellsOf e = fs.size) {fuel : Nat} {cs : List Value} {x : DataW H × List MemPlace} (h : DataW.trod enc P w 0 spare held fuel e cs = some x) :
    cs.length = fs.size ∧ ∀ (j : Nat) (f : Field), fs[j]? = some f → ∃ v n y, cs[j]? = some v ∧ DataW.trod enc P w 0 spare held n f.type [v] = some y := by
  obtain ⟨ys, n, _, _, hlen, hyl, hf⟩ := DataW.trod_struct he h
  refine ⟨hlen.trans hC, fun j f hj => ?_⟩
  obtain ⟨ho, hk⟩ := hone_of hone j f hj
  have hjl : j < fs.size := (Array.getElem?_eq_some_iff.1 hj).1
  have hjc : j < cs.length := by rw [hlen, hC]; exact hjl
  have h1 := hf j f hj
  rw [ho, hk, List.drop_eq_getElem_cons hjc, List.take_succ_cons, List.take_zero, List.getElem?_eq_getElem (by rw [hyl]; exact hjl)] at h1
  exact ⟨_, _, _, List.getElem?_eq_getElem hjc, h1⟩
end
end Go.Proofs.Ytpgakkpmpnebnaa
