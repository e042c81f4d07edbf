/- append behind a slice without room (its capacity is its length) of one-cell elements: nothing that stood is turned. No program in sight. -/
import Derived.Test.YtpgakkpmpnebnaaOwn
namespace Go.Proofs.Ytpgakkpmpnebnaa
open Go.RowKit
set_option maxHeartbeats 1000000
set_option linter.unusedVariables false
section
variable {P : Program} {w w' : World} {F : Nat → Prop} {A : Option Addr} {n m : Nat} {xs news : List Value}
theorem Rd.firsts (h : Rd w F A n xs) (c : Nat) : (Builtin.firstCells 1 n (.slice A n c)).run P w = .ok xs.toArray w := by
  rcases A with _ | a
  · have h0 : n = 0 := by
      rcases Nat.eq_zero_or_pos n with h0 | h0
      · exact h0
      · obtain ⟨g, off, e, -⟩ := h.2 h0; cases e
    have : xs = [] := List.eq_nil_of_length_eq_zero (by rw [h.1, h0])
    subst this h0
    exact run_firstCells_none w 1 0 0 c
  · refine run_firstCells_some w 1 n a n c xs (by rw [h.1]; omega) (fun j u hj => ?_)
    have hj' : j < xs.length := (List.getElem?_eq_some_iff.1 hj).1
    obtain ⟨g, off, e, -, -, hc⟩ := h.2 (by rw [← h.1]; omega)
    injection e with e
    subst e
    rw [addr_add]
    exact hc j u hj
theorem Rd.src {tx e' : TypeId} (hk : P.underlying tx = some (.slice e')) (h : Rd w F A n xs) (h1 : ∀ u ∈ xs, u.oneCell' = true) (c : Nat) : Src P 1 tx (.slice A n c) n xs w := by
  refine ⟨.inl ⟨e', hk⟩, fun _ => rfl, h.firsts c, ?_, by rw [h.1]; omega, h1⟩
  exact (h.touch (Touch.refl (fun _ => False) w).drew (fun _ _ e => e)).firsts c
theorem run_full_append (t tx ty e : TypeId) (i : TypeInfo) (z : Value) (bytes : Nat) (ht : P.underlying t = some (.slice e)) (hi : P.info? e = some i) (hz : i.zero = some z)
    (hsize : i.size = 1) (hby : i.bytes = bytes) (hzs : z.cells.size = 1) (h : Rd w F A n xs) (x : Value) (hs : Src P 1 tx x m news w) (h63 : n + m ≤ maxLen) (hbytes : (n + m) * bytes ≤ 140737488355328) :
    ∃ A' c w', (Builtin.append_ #[t, tx] ty #[.slice A n n, x]).run P w = .ok (.slice A' (n + m) c) w' ∧ Rd w' (fun q => F q ∨ (w.heap.size ≤ q ∧ q < w'.heap.size)) A' (n + m) (xs ++ news) ∧ n + m ≤ c ∧ c ≤ maxLen ∧ Touch (fun _ => False) w w' := by
  have hnl : news.length = m := by rw [hs.newsLen]; omega
  have hlen : (xs ++ news).length = n + m := by rw [List.length_append, h.1, hnl]
  by_cases hm : m = 0
  · subst hm
    have hnews : news = [] := List.eq_nil_of_length_eq_zero hnl
    subst hnews
    have hrun := run_append_nothing (P := P) w t tx ty e i ht hi A n n (Nat.le_refl _) x (by rw [hsize]; exact hs)
    exact ⟨A, n, w, by simpa using hrun, by simpa using h.mono (fun q hq => .inl hq), by omega, by omega, Touch.refl _ _⟩
  · have hsmall : ((n + m : Nat) : Int) ≤ 9223372036854775807 := by simp only [maxLen] at h63; omega
    have hr := run_append_grow_src (P := P) w t tx ty e i z ht hi hz A n n xs (by rw [hsize]; exact (h.touch (Touch.refl (fun _ => False) w).drew (fun _ _ e => e)).firsts n) x m news (by rw [hsize]; exact hs) (by omega) hsmall (growslice_fits (by omega) (by rw [hby]; exact hbytes))
    have hge := grownCap_ge w (n + m) n e
    have hcm : grownCap w (n + m) n e ≤ maxLen := grownCap_le_maxLen w (n + m) n e h63
    refine ⟨_, _, _, hr, ⟨hlen, fun _ => ⟨w.heap.size, 0, rfl, by simp, .inr ⟨Nat.le_refl _, by simp⟩, fun j u hj => ?_⟩⟩, hge, hcm, (Touch.refl _ w).drew.alloc _⟩
    rw [Nat.zero_add]
    refine ((Blk.new w.drew e _).cell j).trans ?_
    have hj' : j < (xs ++ news).length := (List.getElem?_eq_some_iff.1 hj).1
    rw [Array.getElem?_append_left (by simpa using hj')]
    simpa using hj
theorem wpList_full_append {ops : Array Oper} {rest : List Oper} {o : Oper} {a : Act} {Q : Exit → Act → World → Prop} (hgd : o.guard = none) (s x : Operand) (t tx : TypeId)
    (ho : o.op = .call { callee := .builtin .append, args := #[s, x], argTypes := #[t, tx] })
    (e : TypeId) (i : TypeInfo) (z : Value) (bytes : Nat) (ht : P.underlying t = some (.slice e)) (hi : P.info? e = some i) (hz : i.zero = some z)
    (hsize : i.size = 1) (hby : i.bytes = bytes) (hzs : z.cells.size = 1)
    (A : Option Addr) (n : Nat) (xs : List Value) (hsv : a.eval s = .slice A n n) (F : Nat → Prop) (hrd : Rd w F A n xs)
    (xv : Value) (m : Nat) (news : List Value) (hx : a.eval x = xv) (hs : Src P 1 tx xv m news w)
    (h63 : n + m ≤ maxLen) (hbytes : (n + m) * bytes ≤ 140737488355328)
    (h : ∀ A' c w', Rd w' (fun q => F q ∨ (w.heap.size ≤ q ∧ q < w'.heap.size)) A' (n + m) (xs ++ news) → n + m ≤ c → c ≤ maxLen → Touch (fun _ => False) w w' → wpList P ops Q rest (a.put o.dst (.slice A' (n + m) c)) w') : wpList P ops Q (o :: rest) a w :=
  wpList_plain hgd fun K hK => by
    obtain ⟨A', c, w', hr, h2, h3, h4, h5⟩ := run_full_append (P := P) (w := w) t tx o.type e i z bytes ht hi hz hsize hby hzs hrd xv hs h63 hbytes
    unfold Oper.wp execOp
    simp only [ho, resolve, invoke, builtin, Sem.run_bind, Sem.run_pure, Result.andThen_ok, List.map_toArray, List.map_cons, List.map_nil, hsv, hx, hr]
    exact hK _ _ (h A' c w' h2 h3 h4 h5)
end
end Go.Proofs.Ytpgakkpmpnebnaa
