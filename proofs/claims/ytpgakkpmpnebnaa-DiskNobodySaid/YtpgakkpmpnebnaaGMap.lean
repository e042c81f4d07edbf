/- Maps of whatever keys and elements in words of my own: what the block says of each key, the element's value whole. No program in sight. -/
import Derived.Test.YtpgakkpmpnebnaaMem
import Derived.Maps.OwnOps
import Derived.Maps.OwnSet
import Derived.Maps.RangeWalk
import Derived.Maps.Ext
import Derived.OwnWalk
namespace Go.Proofs.Ytpgakkpmpnebnaa
open Go.RowKit Go.Maps
set_option maxHeartbeats 1000000
set_option maxRecDepth 100000
set_option linter.unusedVariables false

/-- An element read whole. -/
def valR (v : Value) : Option (DataW Value × List MemPlace) := some (.held v, [])
def SaysV (P : Program) (k : TypeId) (D : DataW Value) (f : Lit → Option Value) : Prop :=
  ∀ kl, KeysOf P k kl → Maps.has D kl = (f kl).isSome ∧ (∀ v, f kl = some v → ∀ z, D.atKey kl z = .held v)
def MapV (P : Program) (k : TypeId) (w : World) (b n : Nat) (f : Lit → Option Value) : Prop :=
  ∃ D : DataW Value, w.ownsMap P k valR b n D ∧ SaysV P k D f
open Classical in
noncomputable def setV (f : Lit → Option Value) (kl : Lit) (v : Value) : Lit → Option Value := fun i => if i = kl then some v else f i
open Classical in
noncomputable def delV (f : Lit → Option Value) (kl : Lit) : Lit → Option Value := fun i => if i = kl then none else f i
section
variable {P : Program} {k e t : TypeId} {w w' : World} {b n : Nat} {f : Lit → Option Value} {S : Nat → Prop}
theorem MapV.touch (h : MapV P k w b n f) (tt : Touch S w w') (hb : ¬ S b) : MapV P k w' b n f := by
  obtain ⟨D, ⟨es, clock, hbk, rest⟩, hs⟩ := h
  have hlt : b < w.heap.size := (Array.getElem?_eq_some_iff.1 hbk).1
  exact ⟨D, ⟨es, clock, (tt.block b hlt hb).trans hbk, rest⟩, hs⟩
theorem MapV.lt (h : MapV P k w b n f) : b < w.heap.size := by obtain ⟨D, h, _⟩ := h; exact h.lt
theorem MapV.mono (h : MapV P k w b n f) {n' : Nat} (hn : n ≤ n') : MapV P k w b n' f := by obtain ⟨D, h, hs⟩ := h; exact ⟨D, h.mono hn, hs⟩
theorem MapV.new (P : Program) (k : TypeId) (w : World) : MapV P k (w.alloc (.map #[] 0)) w.heap.size 0 (fun _ => none) :=
  ⟨.map [], World.ownsMap_made _ _ _ _, fun kl _ => ⟨rfl, fun v e => by cases e⟩⟩
theorem MapV.congr (h : MapV P k w b n f) {g : Lit → Option Value} (hg : ∀ kl, KeysOf P k kl → f kl = g kl) : MapV P k w b n g := by
  obtain ⟨D, h, hs⟩ := h
  exact ⟨D, h, fun kl hk => by rw [← hg kl hk]; exact hs kl hk⟩
theorem valR_inv {v : Value} {d : DataW Value} {ps : List MemPlace} (h : valR v = some (d, ps)) : d = .held v := by
  unfold valR at h; injection h with h; injection h with h _; exact h.symm
theorem SaysV.at_ {D : DataW Value} (hs : SaysV P k D f) {kl : Lit} (hk : KeysOf P k kl) (z : Value) : D.atKey kl (.held z) = .held ((f kl).getD z) := by
  obtain ⟨h1, h2⟩ := hs kl hk
  cases hf : f kl with
  | none => rw [hf] at h1; rw [atKey_of_not_has h1]; rfl
  | some v => rw [h2 v hf]; rfl
/-- A look-up, as an equation on its run. -/
theorem MapV.look (h : MapV P k w b n f) (K : Keyed P k) (ht : P.underlying t = some (.map k e)) {z : Value} (hz : (zeroValue e).run P w = .ok z w) {key : Value} {kl : Lit} (hkey : keyOf P k key = some kl) :
    (Instr.lookup t (.map (some b)) key false).run P w = .ok ((f kl).getD z) w := by
  obtain ⟨D, hown, hs⟩ := h
  obtain ⟨v, ps, hrun, hv⟩ := hown.lookup K ht hz (show valR z = some (.held z, []) from rfl) hkey
  have := valR_inv hv
  rw [hs.at_ ⟨key, hkey⟩] at this
  injection this with this
  rw [this]; exact hrun
theorem MapV.lookOk (h : MapV P k w b n f) (K : Keyed P k) (ht : P.underlying t = some (.map k e)) {z : Value} (hz : (zeroValue e).run P w = .ok z w) {key : Value} {kl : Lit} (hkey : keyOf P k key = some kl) :
    (Instr.lookup t (.map (some b)) key true).run P w = .ok (.tuple #[(f kl).getD z, .bool (f kl).isSome]) w := by
  obtain ⟨D, hown, hs⟩ := h
  obtain ⟨v, ps, hrun, hv⟩ := hown.look_ok K ht hz (show valR z = some (.held z, []) from rfl) hkey
  have := valR_inv hv
  rw [hs.at_ ⟨key, hkey⟩] at this
  injection this with this
  rw [this, ← (hs kl ⟨key, hkey⟩).1]; exact hrun
theorem Touch.of_grownV {b : Nat} (h : w.grownBy w' (some b)) : Touch (fun k => k = b) w w' := (Touch.of_grown h).mono (fun k _ e => by injection e with e; exact e.symm)
theorem SaysV.put {D : DataW Value} (hs : SaysV P k D f) (hm : IsMap D) (K : Keyed P k) {key : Value} {kl : Lit} (hkey : keyOf P k key = some kl) (v : Value) : SaysV P k (D.put kl (.held v)) (setV f kl v) := by
  intro i hi
  by_cases e : i = kl
  · subst e
    refine ⟨by simp [setV, has_put_same hm (K.key hkey)], fun u hu z => ?_⟩
    simp only [setV, if_true] at hu
    injection hu with hu
    subst hu
    exact atKey_put_same hm (K.key hkey) _ _
  · obtain ⟨h1, h2⟩ := hs i hi
    refine ⟨by rw [has_put_other e, h1]; simp [setV, e], fun u hu z => ?_⟩
    simp only [setV, if_neg e] at hu
    rw [atKey_put_other e]
    exact h2 u hu z
theorem SaysV.del {D : DataW Value} (hs : SaysV P k D f) (K : Keyed P k) {key : Value} {kl : Lit} (hkey : keyOf P k key = some kl) : SaysV P k (D.del kl) (delV f kl) := by
  intro i hi
  by_cases e : i = kl
  · subst e
    refine ⟨by simp [delV, has_del_same], fun u hu z => ?_⟩
    simp [delV] at hu
  · obtain ⟨h1, h2⟩ := hs i hi
    refine ⟨by rw [has_del_other e, h1]; simp [delV, e], fun u hu z => ?_⟩
    simp only [delV, if_neg e] at hu
    rw [atKey_del_other e]
    exact h2 u hu z
end
section
variable {P : Program} {ops : Array Oper} {rest : List Oper} {o : Oper} {a : Act} {Q : Exit → Act → World → Prop}
/-- A store. -/
theorem storeV (w : World) (hg : o.guard = none) (m x v : Operand) (t : TypeId) (hop : o.op = Op.mapUpdate t m x v) (k e : TypeId) (K : Keyed P k) (ht : P.underlying t = some (.map k e))
    (b n : Nat) (f : Lit → Option Value) (hm : a.eval m = .map (some b)) (h : MapV P k w b n f) (hn : n < 1000000) (key u : Value) (kl : Lit) (hx : a.eval x = key) (hv : a.eval v = u) (hkey : keyOf P k key = some kl)
    (hK : ∀ w', MapV P k w' b (n + 1) (setV f kl u) → Touch (fun q => q = b) w w' → wpList P ops Q rest (a.put o.dst undef) w') : wpList P ops Q (o :: rest) a w := by
  obtain ⟨D, hown, hs⟩ := h
  refine wpList_mapUpdate_own w hg m x v t hop k e K ht valR b n D hm hown (by unfold maxLen; omega) key u kl hx hv hkey (.held u) [] rfl ?_
  intro w' h' hgr
  exact hK w' ⟨_, h', hs.put (hown.tidy K).isMap K hkey u⟩ (Touch.of_grownV hgr)
/-- A delete. -/
theorem dropV (w : World) (hg : o.guard = none) (m x : Operand) (t k : TypeId) (hop : o.op = Op.call { callee := Callee.builtin Builtin.delete, args := #[m, x], argTypes := #[t, k] }) (e : TypeId) (K : Keyed P k) (ht : P.underlying t = some (.map k e))
    (b n : Nat) (f : Lit → Option Value) (hm : a.eval m = .map (some b)) (h : MapV P k w b n f) (key : Value) (kl : Lit) (hx : a.eval x = key) (hkey : keyOf P k key = some kl)
    (hK : ∀ w', MapV P k w' b n (delV f kl) → Touch (fun q => q = b) w w' → wpList P ops Q rest (a.put o.dst (.tuple #[])) w') : wpList P ops Q (o :: rest) a w := by
  obtain ⟨D, hown, hs⟩ := h
  refine wpList_delete_own w hg m x t k hop e K ht valR b n D hm hown key kl hx hkey ?_
  intro w' h' htn
  exact hK w' ⟨_, h', hs.del K hkey⟩ (Touch.of_grownV htn.grown)
end

/-! ### how many -/
theorem mem_insertW {H : Type} (x p : Lit × DataW H) : ∀ l : List (Lit × DataW H), p ∈ DataW.insert x l ↔ p = x ∨ p ∈ l
  | [] => by simp [DataW.insert]
  | y :: r => by
    unfold DataW.insert
    split
    · simp
    · simp [mem_insertW x p r]; constructor
      · rintro (h | h | h)
        · exact .inr (.inl h)
        · exact .inl h
        · exact .inr (.inr h)
      · rintro (h | h | h)
        · exact .inr (.inl h)
        · exact .inl h
        · exact .inr (.inr h)
theorem mem_sortedW {H : Type} (p : Lit × DataW H) : ∀ l : List (Lit × DataW H), p ∈ l.foldr DataW.insert [] ↔ p ∈ l
  | [] => by simp
  | x :: r => by rw [List.foldr_cons, mem_insertW, mem_sortedW p r, List.mem_cons]
theorem subset_len {α : Type} : ∀ {l l' : List α}, l.Nodup → l ⊆ l' → l.length ≤ l'.length
  | [], _, _, _ => by simp
  | x :: l, l', hn, hs => by
    rw [List.nodup_cons] at hn
    have hx : x ∈ l' := hs (by simp)
    obtain ⟨a, b, rfl⟩ := List.append_of_mem hx
    have : l.length ≤ (a ++ b).length := subset_len hn.2 fun y hy => by
      have := hs (List.mem_cons_of_mem _ hy)
      simp only [List.mem_append, List.mem_cons] at this ⊢
      rcases this with h | rfl | h
      · exact .inl h
      · exact absurd hy hn.1
      · exact .inr h
    simp at this ⊢; omega
theorem nodup_len_eq {α : Type} {l l' : List α} (h1 : l.Nodup) (h2 : l'.Nodup) (h : ∀ x, x ∈ l ↔ x ∈ l') : l.length = l'.length :=
  ((List.perm_ext_iff_of_nodup h1 h2).2 fun x => h x).length_eq
section
variable {P : Program} {k e t : TypeId} {w w' : World} {b n : Nat} {f : Lit → Option Value} {S : Nat → Prop}
/-- How many entries: those of a list of all keys that there may be. -/
theorem MapV.size (h : MapV P k w b n f) (K : Keyed P k) (ks : List Lit) (hnd : ks.Nodup) (hks : ∀ kl, KeysOf P k kl → (f kl).isSome = true → kl ∈ ks) (hkk : ∀ kl ∈ ks, KeysOf P k kl) (ht : P.underlying t = some (.map k e)) (ty : TypeId) :
    (Builtin.len_ #[t] ty #[.map (some b)]).run P w = .ok (.int .i64 ((ks.filter fun kl => (f kl).isSome).length : Nat)) w := by
  obtain ⟨D, hown, hs⟩ := h
  have hl := hown.len ht ty
  have hc := hown.canon K
  obtain ⟨es, hD, hpw, hkl⟩ := hc
  have hkeys : ∀ p ∈ es, KeysOf P k p.1 := by
    obtain ⟨es0, clock, hb, F, hn, hDe⟩ := hown
    rw [hD] at hDe
    injection hDe with hDe
    intro p hp
    rw [hDe, mem_sortedW] at hp
    exact fit_keys F p hp
  have hlen : es.length = (ks.filter fun kl => (f kl).isSome).length := by
    rw [← List.length_map (f := fun p : Lit × DataW Value => p.1) (as := es)]
    refine nodup_len_eq ?_ (hnd.filter _) fun x => ?_
    · exact List.pairwise_map.2 (apart_of_rising hpw)
    · rw [List.mem_map, List.mem_filter]
      constructor
      · rintro ⟨p, hp, rfl⟩
        have hK := hkeys p hp
        have hh : Maps.has D p.1 = true := by rw [hD, has_eq]; exact List.any_eq_true.2 ⟨p, hp, WideAt.sameKey_self (hkl p hp)⟩
        rw [(hs p.1 hK).1] at hh
        exact ⟨hks _ hK hh, hh⟩
      · rintro ⟨hx, hf⟩
        have hh := (hs x (hkk x hx)).1
        rw [hf, hD, has_eq] at hh
        obtain ⟨p, hp, e⟩ := List.any_eq_true.1 hh
        exact ⟨p, hp, WideAt.sameKey_eq e⟩
  rw [hD] at hl
  simp only [Maps.size] at hl
  rw [hlen] at hl
  exact hl
/-- The bound on the number of entries, from a list of all keys that there may be. -/
theorem MapV.tight (h : MapV P k w b n f) (K : Keyed P k) (ks : List Lit) (hks : ∀ kl, KeysOf P k kl → (f kl).isSome = true → kl ∈ ks) : MapV P k w b ks.length f := by
  obtain ⟨D, hown, hs⟩ := h
  obtain ⟨es', hD, hpw, hkl⟩ := hown.canon K
  obtain ⟨es, clock, hb, F, hn, hDe⟩ := hown
  refine ⟨D, ⟨es, clock, hb, F, ?_, hDe⟩, hs⟩
  rw [hD] at hDe
  injection hDe with hDe
  have hlen : es'.length = es.size := by rw [hDe, length_sorted]; simp
  have hkeys : ∀ p ∈ es', KeysOf P k p.1 := by
    intro p hp
    rw [hDe, mem_sortedW] at hp
    exact fit_keys F p hp
  have hsub : es'.map (fun p => p.1) ⊆ ks := by
    intro x hx
    obtain ⟨p, hp, rfl⟩ := List.mem_map.1 hx
    have hK := hkeys p hp
    have hh : Maps.has D p.1 = true := by rw [hD, has_eq]; exact List.any_eq_true.2 ⟨p, hp, WideAt.sameKey_self (hkl p hp)⟩
    rw [(hs p.1 hK).1] at hh
    exact hks _ hK hh
  have hnd : (es'.map (fun p => p.1)).Nodup := List.pairwise_map.2 (apart_of_rising hpw)
  rw [← hlen, ← List.length_map (f := fun p : Lit × DataW Value => p.1) (as := es')]
  exact (subset_len hnd hsub)
/-- A store, as an equation on its run. -/
theorem MapV.store (h : MapV P k w b n f) (K : Keyed P k) (ht : P.underlying t = some (.map k e)) (hn : n < 1000000) {key : Value} {kl : Lit} (hkey : keyOf P k key = some kl) (u : Value) :
    ∃ w', (Instr.mapUpdate t (.map (some b)) key u).run P w = .ok () w' ∧ MapV P k w' b (n + 1) (setV f kl u) ∧ Touch (fun q => q = b) w w' := by
  obtain ⟨D, hown, hs⟩ := h
  obtain ⟨w', hrun, h', hgr⟩ := hown.update K ht (by unfold maxLen; omega) hkey (show valR u = some (.held u, []) from rfl)
  exact ⟨w', hrun, ⟨_, h', hs.put (hown.tidy K).isMap K hkey u⟩, Touch.of_grownV hgr⟩
/-- Under way through the map. -/
def RangeV (P : Program) (k : TypeId) (w : World) (b r n : Nat) (f : Lit → Option Value) (left : Lit → Bool) : Prop :=
  ∃ (D : DataW Value) (lf : Lit → Bool) (cnt : Nat), w.ranges P k valR b r n D lf cnt ∧ SaysV P k D f ∧ ∀ kl, KeysOf P k kl → lf kl = left kl
theorem RangeV.touch {r : Nat} {left : Lit → Bool} (h : RangeV P k w b r n f left) (t : Touch S w w') (hb : ¬ S b) (hr : ¬ S r) : RangeV P k w' b r n f left := by
  obtain ⟨D, lf, cnt, ⟨es, clock, since, seen, c0, h1, h2, h3, h4, h5, h6⟩, hs⟩ := h
  exact ⟨D, lf, cnt, ⟨es, clock, since, seen, c0, (t.block b (Array.getElem?_eq_some_iff.1 h1).1 hb).trans h1, h2, h3, h4, (t.block r (Array.getElem?_eq_some_iff.1 h5).1 hr).trans h5, h6⟩, hs⟩
theorem RangeV.map {r : Nat} {left : Lit → Bool} (h : RangeV P k w b r n f left) : MapV P k w b n f := by
  obtain ⟨D, lf, cnt, h, hs, _⟩ := h
  exact ⟨D, h.owns, hs⟩
theorem RangeV.lt {r : Nat} {left : Lit → Bool} (h : RangeV P k w b r n f left) : r < w.heap.size := by
  obtain ⟨D, lf, cnt, ⟨es, clock, since, seen, c0, h1, h2, h3, h4, h5, h6⟩, hs⟩ := h
  exact (Array.getElem?_eq_some_iff.1 h5).1
theorem rangeLeftV_touch {w w' : World} {S : Nat → Prop} {b r : Nat} (t : Touch S w w') (hb : ¬ S b) (hr : ¬ S r) (hbl : b < w.heap.size) (hrl : r < w.heap.size) : w'.rangeLeft b r = w.rangeLeft b r := by
  unfold World.rangeLeft
  rw [t.block b hbl hb, t.block r hrl hr]
end
section
variable {P : Program} {ops : Array Oper} {rest : List Oper} {o : Oper} {a : Act} {Q : Exit → Act → World → Prop}
theorem rangeV (w : World) (hg : o.guard = none) (m : Operand) (t : TypeId) (hop : o.op = Op.range t m) (k e : TypeId) (K : Keyed P k) (ht : P.underlying t = some (.map k e))
    (b n : Nat) (f : Lit → Option Value) (hm : a.eval m = .map (some b)) (h : MapV P k w b n f)
    (hK : ∀ w', RangeV P k w' b w.heap.size n f (fun kl => (f kl).isSome) → Touch (fun _ => False) w w' → w'.heap.size = w.heap.size + 1 → wpList P ops Q rest (a.put o.dst (.pointer (some ⟨w.heap.size, 0, none⟩))) w') : wpList P ops Q (o :: rest) a w := by
  obtain ⟨D, hown, hs⟩ := h
  refine wpList_range_own w hg m t hop k e K ht valR b n D hm hown ?_
  intro w' hrg hgr hsz
  exact hK w' ⟨D, _, _, hrg, hs, fun kl hk => (hs kl hk).1⟩ ((Touch.of_grown hgr).mono (fun k _ e => by cases e)) hsz
theorem nextV {α : Type} (w : World) (hg : o.guard = none) (it : Operand) (hop : o.op = Op.next it false) (k : TypeId) (K : Keyed P k) (mkK : α → Value) (litK : α → Lit) (invK : ∀ key kl, keyOf P k key = some kl → ∃ x, key = mkK x ∧ kl = litK x)
    (b r n : Nat) (f : Lit → Option Value) (left : Lit → Bool) (hit : a.eval it = .pointer (some ⟨r, 0, none⟩)) (h : RangeV P k w b r n f left)
    (hDone : (∀ kl, KeysOf P k kl → left kl = false) → wpList P ops Q rest (a.put o.dst (.tuple #[.bool false])) w)
    (hMore : ∀ (x : α) (c : Value) (w' : World), keyOf P k (mkK x) = some (litK x) → left (litK x) = true → f (litK x) = some c → RangeV P k w' b r n f (fun z => left z && !z.sameKey (litK x)) → w'.rangeLeft b r < w.rangeLeft b r →
      Touch (fun k => k = r) w w' → (Instr.entry (.pointer (some ⟨r, 0, none⟩))).run P w' = .ok (.tuple #[mkK x, c]) w' → wpList P ops Q rest (a.put o.dst (.tuple #[.bool true, mkK x, c])) w') :
    wpList P ops Q (o :: rest) a w := by
  obtain ⟨D, lf, cnt, hrg, hs, hl⟩ := h
  refine wpList_next_ranges (α := Value) (β := Value) w hg it hop k K valR id id (fun key kl _ => ⟨key, rfl⟩) (fun v y _ => ⟨v, rfl⟩) b r n D lf cnt hit hrg ?_ ?_
  · intro _ h0
    exact hDone (fun kl hk => by rw [← hl kl hk]; exact h0 _)
  · intro key c kl y w' cnt' hkey hlk hv hat hrg' hlt hgr hsz hen
    simp only [id] at hkey hv hen ⊢
    obtain ⟨x, rfl, rfl⟩ := invK key kl hkey
    have hy := valR_inv (v := c) (d := y.1) (ps := y.2) hv
    have hK' : KeysOf P k (litK x) := ⟨_, hkey⟩
    obtain ⟨h1, h2⟩ := hs _ hK'
    have hf : f (litK x) = some c := by
      cases hf : f (litK x) with
      | none =>
        rw [hf] at h1
        have e := atKey_of_not_has h1 (.lit (.bool true))
        rw [hat, hy] at e
        cases e
      | some v =>
        have e := h2 v hf (.lit (.bool true))
        rw [hat, hy] at e
        injection e with e
        rw [e]
    refine hMore x c w' hkey (by rw [← hl _ hK']; exact hlk) hf ⟨D, _, cnt', hrg', hs, fun i hi => by rw [hl i hi]⟩ ?_ ((Touch.of_grown hgr).mono (fun q _ e => by injection e with e; exact e.symm)) hen
    rw [hrg'.left_eq, hrg.left_eq]; exact hlt
end
end Go.Proofs.Ytpgakkpmpnebnaa
