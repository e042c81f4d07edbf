/- A row of the call's own that is appended to: where it lies is said, so that two such rows are told apart. No program in sight. -/
import Derived.Test.YtpgakkpmpnebnaaMem
import Derived.Deep.Upon
namespace Go.Proofs.Ytpgakkpmpnebnaa
open Go.RowKit

def setAll (cs : Array Value) (o : Nat) : List Value → Array Value
  | [] => cs
  | v :: r => setAll (cs.setIfInBounds o v) (o + 1) r
theorem setAll_size : ∀ (vs : List Value) (cs : Array Value) (o : Nat), (setAll cs o vs).size = cs.size
  | [], _, _ => rfl
  | v :: r, cs, o => by rw [setAll, setAll_size r]; simp
theorem setAll_take : ∀ (vs : List Value) (cs : Array Value) (o : Nat), o + vs.length ≤ cs.size → (setAll cs o vs).toList.take (o + vs.length) = cs.toList.take o ++ vs
  | [], cs, o, _ => by simp [setAll]
  | v :: r, cs, o, h => by
    simp only [List.length_cons] at h
    have ih := setAll_take r (cs.setIfInBounds o v) (o + 1) (by simp; omega)
    rw [setAll, List.length_cons, show o + (r.length + 1) = o + 1 + r.length by omega, ih]
    have hl : o < cs.toList.length := by simp; omega
    rw [Array.toList_setIfInBounds, List.take_succ_eq_append_getElem (by simp; omega)]
    simp [List.take_set_of_le]
theorem Blk.setCells {g : Nat} {t : TypeId} : ∀ (vs : List Value) (o : Nat) (w : World) (cs : Array Value), Blk w g t cs → Blk (w.setCells g o vs) g t (setAll cs o vs)
  | [], _, _, _, h => h
  | v :: r, o, w, cs, h => by
    rw [World.setCells, setAll]
    exact Blk.setCells r (o + 1) _ _ (h.set_ o v)
theorem Touch.setCells {S : Nat → Prop} {w : World} {g : Nat} : ∀ (vs : List Value) (o : Nat) (w1 : World), Touch S w w1 → (g < w.heap.size → S g) → Touch S w (w1.setCells g o vs)
  | [], _, _, h, _ => h
  | v :: r, o, w1, h, hg => by
    rw [World.setCells]
    exact Touch.setCells r (o + 1) _ (h.set hg v) hg

/-- The slice value v is the call's own: nil, or a row that begins block r; it has n elements of sz cells each, the cells xs. -/
def Own (w : World) (e : TypeId) (sz : Nat) (v : Value) (r : Option Nat) (n : Nat) (xs : List Value) : Prop :=
  xs.length = n * sz ∧
  ((v = .slice none 0 0 ∧ n = 0 ∧ r = none) ∨
   ∃ g cap cur, r = some g ∧ v = .slice (some ⟨g, 0, none⟩) n cap ∧ Blk w g e cur ∧ n ≤ cap ∧ cap ≤ maxLen ∧ cur.size = cap * sz ∧ cur.toList.take (n * sz) = xs)

section
variable {w w' : World} {e : TypeId} {sz : Nat} {v : Value} {r : Option Nat} {n : Nat} {xs : List Value}
theorem Own.nil (w : World) (e : TypeId) (sz : Nat) : Own w e sz (.slice none 0 0) none 0 [] := ⟨by simp, .inl ⟨rfl, rfl, rfl⟩⟩
theorem Own.touch {S : Nat → Prop} (h : Own w e sz v r n xs) (ht : Touch S w w') (hd : ∀ g, r = some g → ¬ S g) : Own w' e sz v r n xs := by
  refine ⟨h.1, ?_⟩
  rcases h.2 with h0 | ⟨g, cap, cur, hr, hv, hb, rest⟩
  · exact .inl h0
  · exact .inr ⟨g, cap, cur, hr, hv, ht.blk hb (hd g hr), rest⟩
theorem Own.lt (h : Own w e sz v r n xs) : ∀ g, r = some g → g < w.heap.size := by
  intro g hg
  rcases h.2 with ⟨_, _, hr⟩ | ⟨g', cap, cur, hr, hv, hb, rest⟩
  · rw [hr] at hg; cases hg
  · rw [hr] at hg; injection hg with hg; subst hg; exact hb.lt
/-- The form of the value. -/
theorem Own.form (h : Own w e sz v r n xs) : ∃ A c, v = .slice A n c ∧ n ≤ c ∧ c ≤ maxLen := by
  rcases h.2 with ⟨hv, hn, _⟩ | ⟨g, cap, cur, hr, hv, hb, hn, hc, _⟩
  · exact ⟨none, 0, by rw [hv, hn], by omega, by simp⟩
  · exact ⟨_, cap, hv, hn, hc⟩
theorem Own.rd (h : Own w e 1 v r n xs) : ∃ A c, v = .slice A n c ∧ n ≤ c ∧ c ≤ maxLen ∧ (A = none → c = 0) ∧ Rd w (fun k => r = some k) A n xs := by
  rcases h.2 with ⟨hv, hn, _⟩ | ⟨g, cap, cur, hr, hv, hb, hn, hc, hs, ht⟩
  · subst hn
    have : xs = [] := List.eq_nil_of_length_eq_zero (by simpa using h.1)
    subst this
    exact ⟨none, 0, hv, Nat.le_refl _, by simp, fun _ => rfl, Rd.nil _ _ _⟩
  · refine ⟨_, cap, hv, hn, hc, (fun e => by cases e), by simpa using h.1, fun hpos => ⟨g, 0, rfl, hb.lt, hr, fun j u hj => ?_⟩⟩
    rw [Nat.zero_add, hb.cell]
    rw [← ht, List.getElem?_take] at hj
    split at hj
    · simpa using hj
    · cases hj
/-- The j-th cell. -/
theorem Own.cellAt {g : Nat} (h : Own w e sz v (some g) n xs) (j : Nat) (hj : j < xs.length) : w.cell? ⟨g, j, none⟩ = xs[j]? := by
  rcases h.2 with ⟨_, _, hr⟩ | ⟨g', cap, cur, hr, hv, hb, hn, hc, hs, ht⟩
  · cases hr
  · injection hr with hr; subst hr
    rw [hb.cell, ← ht, List.getElem?_take, if_pos (by rw [h.1] at hj; exact hj)]
    simp
/-- A literal slice. -/
theorem Own.lit (w : World) (e : TypeId) (sz : Nat) (cs : Array Value) (n : Nat) (hn : n ≤ maxLen) (hs : cs.size = n * sz) :
    Own (w.alloc (.cells cs e)) e sz (.slice (some ⟨w.heap.size, 0, none⟩) n n) (some w.heap.size) n cs.toList :=
  ⟨by simpa using hs, .inr ⟨_, n, cs, rfl, rfl, Blk.new _ _ _, Nat.le_refl _, hn, hs, by rw [← hs, ← Array.length_toList, List.take_length]⟩⟩
end

section
variable {P : Program} {w : World}
theorem firstCells_own {e : TypeId} {sz : Nat} {v : Value} {r : Option Nat} {n : Nat} {xs : List Value} (h : Own w e sz v r n xs) : (Builtin.firstCells sz n v).run P w.drew = .ok xs.toArray w.drew := by
  rcases h.2 with ⟨hv, hn, _⟩ | ⟨g, cap, cur, hr, hv, hb, hn, hc, hs, ht⟩
  · subst hv hn
    have : xs = [] := List.eq_nil_of_length_eq_zero (by simpa using h.1)
    subst this
    exact run_firstCells_none w.drew sz 0 0 0
  · subst hv
    refine run_firstCells_some w.drew sz n ⟨g, 0, none⟩ n cap xs h.1 (fun j u hj => ?_)
    rw [addr_add, Nat.zero_add]
    have hj' : j < xs.length := (List.getElem?_eq_some_iff.1 hj).1
    have := Own.cellAt (g := g) (by rw [← hr]; exact h) j hj'
    rw [hj] at this
    exact this

/-- append to a row of the call's own: it lies where it lay, or in a new block. -/
theorem run_own_append (t tx ty e : TypeId) (i : TypeInfo) (z : Value) (sz bytes : Nat) (ht : P.underlying t = some (.slice e)) (hi : P.info? e = some i) (hz : i.zero = some z)
    (hsize : i.size = sz) (hby : i.bytes = bytes) (hzs : z.cells.size = sz)
    {v : Value} {r : Option Nat} {n : Nat} {xs : List Value} (hown : Own w e sz v r n xs) (x : Value) (m : Nat) (news : List Value) (hs : Src P sz tx x m news w)
    (h63 : n + m ≤ maxLen) (hbytes : (n + m) * bytes ≤ 140737488355328) :
    ∃ v' r' w', (Builtin.append_ #[t, tx] ty #[v, x]).run P w = .ok v' w' ∧ Own w' e sz v' r' (n + m) (xs ++ news) ∧ Touch (fun k => r = some k) w w' ∧
      (r' = r ∨ ∃ k, r' = some k ∧ w.heap.size ≤ k) := by
  subst hsize hby
  have hlen : (xs ++ news).length = (n + m) * i.size := by rw [List.length_append, hown.1, hs.newsLen, Nat.add_mul]
  have hsmall : ((n + m : Nat) : Int) ≤ 9223372036854775807 := by simp only [maxLen] at h63; omega
  have hold := firstCells_own (P := P) hown
  have grown : ∀ old A, v = .slice A n old → old < n + m → ∃ v' r' w', (Builtin.append_ #[t, tx] ty #[v, x]).run P w = .ok v' w' ∧ Own w' e i.size v' r' (n + m) (xs ++ news) ∧ Touch (fun k => r = some k) w w' ∧
      (r' = r ∨ ∃ k, r' = some k ∧ w.heap.size ≤ k) := by
    intro old A hv ho
    have hr := run_append_grow_src (P := P) w t tx ty e i z ht hi hz A n old xs (by rw [← hv]; exact hold) x m news hs ho hsmall (growslice_fits ho hbytes)
    have hge := grownCap_ge w (n + m) old e
    have hcm : grownCap w (n + m) old e ≤ maxLen := grownCap_le_maxLen w (n + m) old e h63
    refine ⟨_, some w.heap.size, _, by rw [hv]; exact hr, ⟨hlen, .inr ⟨w.heap.size, _, _, rfl, rfl, Blk.new w.drew _ _, hge, hcm, ?_, ?_⟩⟩, (Touch.refl _ w).drew.alloc _, .inr ⟨_, rfl, Nat.le_refl _⟩⟩
    · rw [Array.size_append, List.size_toArray, hlen, size_zeroCells, hzs, ← Nat.add_mul]
      congr 1
      omega
    · rw [Array.toList_append, ← hlen]
      exact List.take_left
  rcases hown.2 with ⟨hv, hn, hr⟩ | ⟨g, cap, cur, hr, hv, hb, hnc, hcm, hcs, htake⟩
  · by_cases hm : m = 0
    · subst hm hn
      have hnews : news = [] := List.eq_nil_of_length_eq_zero (by simpa using hs.newsLen)
      subst hnews
      have hrun := run_append_nothing (P := P) w t tx ty e i ht hi none 0 0 (Nat.le_refl _) x hs
      exact ⟨v, r, w, by rw [hv]; exact hrun, by simpa using hown, Touch.refl _ _, .inl rfl⟩
    · exact grown 0 none (by rw [hv, hn]) (by omega)
  · by_cases hroom : n + m ≤ cap
    · subst hv
      have hfit : n * i.size + news.length ≤ cur.size := by rw [hs.newsLen, hcs, ← Nat.add_mul]; exact Nat.mul_le_mul_right _ hroom
      have hrun := run_append_room_src (P := P) w t tx ty e i ht hi g 0 n cap x m news hs hroom (fun j hj => by
        rw [hb.cell]
        rw [Array.getElem?_eq_getElem (show 0 + n * i.size + j < cur.size by omega)]; rfl) (fun j hj => hb.frozen _)
      rw [Nat.zero_add] at hrun
      refine ⟨_, r, _, hrun, ⟨hlen, .inr ⟨g, cap, _, hr, rfl, Blk.setCells news (n * i.size) w cur hb, hroom, hcm, by rw [setAll_size]; exact hcs, ?_⟩⟩, Touch.setCells news (n * i.size) w (Touch.refl _ w) (fun _ => hr), .inl rfl⟩
      rw [Nat.add_mul, ← hs.newsLen, setAll_take _ _ _ hfit, htake]
    · exact grown cap _ hv (by omega)

theorem wp_own_append {o : Oper} {a : Act} {K : Act → World → Prop} {Q : Exit → Act → World → Prop} (s x : Operand) (t tx : TypeId)
    (ho : o.op = .call { callee := .builtin .append, args := #[s, x], argTypes := #[t, tx] })
    (e : TypeId) (i : TypeInfo) (z : Value) (sz bytes : Nat) (ht : P.underlying t = some (.slice e)) (hi : P.info? e = some i) (hz : i.zero = some z)
    (hsize : i.size = sz) (hby : i.bytes = bytes) (hzs : z.cells.size = sz)
    (v : Value) (r : Option Nat) (n : Nat) (xs : List Value) (hsv : a.eval s = v) (hown : Own w e sz v r n xs)
    (xv : Value) (m : Nat) (news : List Value) (hx : a.eval x = xv) (hs : Src P sz tx xv m news w)
    (h63 : n + m ≤ maxLen) (hbytes : (n + m) * bytes ≤ 140737488355328)
    (h : ∀ v' r' w', Own w' e sz v' r' (n + m) (xs ++ news) → Touch (fun k => r = some k) w w' → (r' = r ∨ ∃ k, r' = some k ∧ w.heap.size ≤ k) → K (a.put o.dst v') w') : o.wp P a w K Q := by
  obtain ⟨v', r', w', hr, h2, h3, h4⟩ := run_own_append (P := P) (w := w) t tx o.type e i z sz bytes ht hi hz hsize hby hzs hown xv m news hs h63 hbytes
  unfold Oper.wp execOp
  simp only [ho, resolve, invoke, builtin, Sem.run_bind, Sem.run_pure, Result.andThen_ok, List.map_toArray, List.map_cons, List.map_nil, hsv, hx, hr]
  exact h v' r' w' h2 h3 h4

theorem wpList_own_append {ops : Array Oper} {rest : List Oper} {o : Oper} {a : Act} {Q : Exit → Act → World → Prop} (hgd : o.guard = none) (s x : Operand) (t tx : TypeId)
    (ho : o.op = .call { callee := .builtin .append, args := #[s, x], argTypes := #[t, tx] })
    (e : TypeId) (i : TypeInfo) (z : Value) (sz bytes : Nat) (ht : P.underlying t = some (.slice e)) (hi : P.info? e = some i) (hz : i.zero = some z)
    (hsize : i.size = sz) (hby : i.bytes = bytes) (hzs : z.cells.size = sz)
    (v : Value) (r : Option Nat) (n : Nat) (xs : List Value) (hsv : a.eval s = v) (hown : Own w e sz v r n xs)
    (xv : Value) (m : Nat) (news : List Value) (hx : a.eval x = xv) (hs : Src P sz tx xv m news w)
    (h63 : n + m ≤ maxLen) (hbytes : (n + m) * bytes ≤ 140737488355328)
    (h : ∀ v' r' w', Own w' e sz v' r' (n + m) (xs ++ news) → Touch (fun k => r = some k) w w' → (r' = r ∨ ∃ k, r' = some k ∧ w.heap.size ≤ k) → wpList P ops Q rest (a.put o.dst v') w') : wpList P ops Q (o :: rest) a w :=
  wpList_plain hgd fun _ hK => wp_own_append s x t tx ho e i z sz bytes ht hi hz hsize hby hzs v r n xs hsv hown xv m news hx hs h63 hbytes fun v' r' w' h2 h3 h4 => hK _ _ (h v' r' w' h2 h3 h4)

/-- At a step of a region that draws its order. -/
theorem step_own_append {ops : Array Oper} {o : Oper} {a : Act} {K : Act → World → Prop} {Q : Exit → Act → World → Prop} {E : Prop} (hgd : o.guard = none) (s x : Operand) (t tx : TypeId)
    (ho : o.op = .call { callee := .builtin .append, args := #[s, x], argTypes := #[t, tx] })
    (e : TypeId) (i : TypeInfo) (z : Value) (sz bytes : Nat) (ht : P.underlying t = some (.slice e)) (hi : P.info? e = some i) (hz : i.zero = some z)
    (hsize : i.size = sz) (hby : i.bytes = bytes) (hzs : z.cells.size = sz)
    (v : Value) (r : Option Nat) (n : Nat) (xs : List Value) (hsv : a.eval s = v) (hown : Own w e sz v r n xs)
    (xv : Value) (m : Nat) (news : List Value) (hx : a.eval x = xv) (hs : Src P sz tx xv m news w)
    (h63 : n + m ≤ maxLen) (hbytes : (n + m) * bytes ≤ 140737488355328)
    (h : ∀ v' r' w', Own w' e sz v' r' (n + m) (xs ++ news) → Touch (fun k => r = some k) w w' → (r' = r ∨ ∃ k, r' = some k ∧ w.heap.size ≤ k) → K (a.put o.dst v') w') :
    if Region.wanted o (yielded ops a.tmps) = true then Oper.wp P o a w K Q else E := by
  have hw : Region.wanted o (yielded ops a.tmps) = true := by simp [Region.wanted, hgd]
  rw [if_pos hw]
  exact wp_own_append s x t tx ho e i z sz bytes ht hi hz hsize hby hzs v r n xs hsv hown xv m news hx hs h63 hbytes h
/-- What is appended is one new literal block. -/
theorem Src.lit {sz : Nat} {tx e' : TypeId} (hk : P.underlying tx = some (.slice e')) (g n c : Nat) (t : TypeId) (cs : Array Value) (hb : Blk w g t cs) (hl : cs.toList.length = n * sz) (h1 : ∀ u ∈ cs.toList, u.oneCell' = true) :
    Src P sz tx (.slice (some ⟨g, 0, none⟩) n c) n cs.toList w :=
  Src.ofSlice w hk ⟨g, 0, none⟩ n c cs.toList hl (fun j u hu => by rw [addr_add, Nat.zero_add, hb.cell]; simpa using hu) h1
end
end Go.Proofs.Ytpgakkpmpnebnaa
