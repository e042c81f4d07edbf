/- Maps from int to int in words of my own: what the block says of each key. -/
import Derived.Test.YtbleeejhejkkcaaProg
import Derived.Test.YtbleeejhejkkcaaMem
import Derived.Maps.OwnOps
import Derived.Maps.OwnSet
import Derived.Maps.RangeWalk
import Derived.OwnWalk
namespace Go.Proofs.Ytbleeejhejkkcaa
open Go.RowKit Go.Maps
set_option maxHeartbeats 1000000
set_option maxRecDepth 100000
set_option linter.unusedVariables false

theorem lawI : Keyed Try.prog 3 := int_keyed Try.underlying3
theorem zeroI (w : World) : (zeroValue 3).run Try.prog w = .ok (.int .i64 0) w := by kernel_rfl
def inI (k : Int) : Prop := -9223372036854775808 ≤ k ∧ k ≤ 9223372036854775807
theorem wfI {k : Int} (h : inI k) : (Lit.int .i64 k).wf = true := WalkArith.wf_i64 h
theorem inI_of {k : Int} (h : (Lit.int .i64 k).wf = true) : inI k := by
  simp [Lit.wf, IntKind.min, IntKind.max, IntKind.signed, IntKind.bits] at h
  exact h
/-- What the map's datum says: at each key its number, or nothing. -/
def SaysI (D : DataW Unit) (f : Int → Option Int) : Prop :=
  ∀ k, inI k → Maps.has D (.int .i64 k) = (f k).isSome ∧ (∀ v, f k = some v → ∀ z, D.atKey (.int .i64 k) z = .lit (.int .i64 v))
def MapI (w : World) (b n : Nat) (f : Int → Option Int) : Prop :=
  ∃ D : DataW Unit, w.ownsMap Try.prog 3 (plainElem Try.prog 3) b n D ∧ SaysI D f
theorem MapI.touch {w w' : World} {b n : Nat} {f : Int → Option Int} {S : Nat → Prop} (h : MapI w b n f) (t : Touch S w w') (hb : ¬ S b) : MapI w' b n f := by
  obtain ⟨D, ⟨es, clock, hbk, rest⟩, hs⟩ := h
  have hlt : b < w.heap.size := (Array.getElem?_eq_some_iff.1 hbk).1
  exact ⟨D, ⟨es, clock, (t.block b hlt hb).trans hbk, rest⟩, hs⟩
theorem MapI.lt {w : World} {b n : Nat} {f : Int → Option Int} (h : MapI w b n f) : b < w.heap.size := by obtain ⟨D, h, _⟩ := h; exact h.lt
theorem MapI.new (w : World) : MapI (w.alloc (.map #[] 0)) w.heap.size 0 (fun _ => none) :=
  ⟨.map [], World.ownsMap_made _ _ _ _, fun k _ => ⟨rfl, fun v e => by cases e⟩⟩
theorem Touch.of_grown1 {w w' : World} {b : Nat} (h : w.grownBy w' (some b)) : Touch (fun k => k = b) w w' := (Touch.of_grown h).mono (fun k _ e => by injection e with e; exact e.symm)
/-- A look-up, as an equation on its run (it may stand under a guard). -/
theorem MapI.look {w : World} {b n : Nat} {f : Int → Option Int} (h : MapI w b n f) (k : Int) (hk : inI k) :
    (Instr.lookup 44 (.map (some b)) (.int .i64 k) false).run Try.prog w = .ok (.int .i64 ((f k).getD 0)) w := by
  obtain ⟨D, hown, hs⟩ := h
  obtain ⟨c, hrun, hat, _⟩ := hown.lookup_int lawI Try.underlying44 Try.underlying3 (zeroI _) (keyOf_int_mk Try.underlying3 (wfI hk))
  have e : c = (f k).getD 0 := by
    obtain ⟨h1, h2⟩ := hs k hk
    cases hf : f k with
    | none =>
      rw [hf] at h1
      rw [atKey_of_not_has h1] at hat
      injection hat with hat; injection hat with _ hat; exact hat.symm
    | some v =>
      rw [h2 v hf] at hat
      injection hat with hat; injection hat with _ hat; exact hat.symm
  rw [← e]
  exact hrun
def setI (f : Int → Option Int) (k v : Int) : Int → Option Int := fun i => if i = k then some v else f i
/-- A store. -/
theorem storeI (w : World) {ops : Array Oper} {rest : List Oper} {o : Oper} {a : Act} {Q : Exit → Act → World → Prop} (hg : o.guard = none) (m x v : Operand) (hop : o.op = Op.mapUpdate 44 m x v)
    (b n : Nat) (f : Int → Option Int) (hm : a.eval m = .map (some b)) (h : MapI w b n f) (hn : n < 1000000) (k u : Int) (hx : a.eval x = .int .i64 k) (hv : a.eval v = .int .i64 u) (hk : inI k) (hu : inI u)
    (hK : ∀ w', MapI w' b (n + 1) (setI f k u) → Touch (fun q => q = b) w w' → wpList Try.prog ops Q rest (a.put o.dst undef) w') : wpList Try.prog ops Q (o :: rest) a w := by
  obtain ⟨D, hown, hs⟩ := h
  refine wpList_mapUpdate_own w hg m x v 44 hop 3 3 lawI Try.underlying44 _ b n D hm hown (by unfold maxLen; omega) _ _ (.int .i64 k) hx hv (keyOf_int_mk Try.underlying3 (wfI hk)) _ [] (plainElem_int Try.underlying3 (wfI hu)) ?_
  intro w' h' hgr
  refine hK w' ⟨_, h', fun i hi => ?_⟩ (Touch.of_grown1 hgr)
  have hmap : IsMap D := (hown.tidy lawI).isMap
  by_cases e : i = k
  · subst e
    refine ⟨by simp [setI, has_put_same hmap (show WideAt.IsKeyLit (.int .i64 i) from trivial)], fun v hv z => ?_⟩
    simp only [setI, if_true] at hv
    injection hv with hv
    subst hv
    exact atKey_put_same hmap (show WideAt.IsKeyLit (.int .i64 i) from trivial) _ _
  · have hne : Lit.int IntKind.i64 i ≠ Lit.int .i64 k := fun h => e (by injection h)
    obtain ⟨h1, h2⟩ := hs i hi
    refine ⟨by rw [has_put_other hne, h1]; simp [setI, e], fun v hv z => ?_⟩
    simp only [setI, if_neg e] at hv
    rw [atKey_put_other hne]
    exact h2 v hv z
/-- Under way through the map. -/
def RangeI (w : World) (b r n : Nat) (f : Int → Option Int) (left : Int → Bool) : Prop :=
  ∃ (D : DataW Unit) (lf : Lit → Bool) (cnt : Nat), w.ranges Try.prog 3 (plainElem Try.prog 3) b r n D lf cnt ∧ SaysI D f ∧ ∀ k, inI k → lf (.int .i64 k) = left k
theorem RangeI.touch {w w' : World} {b r n : Nat} {f : Int → Option Int} {left : Int → Bool} {S : Nat → Prop} (h : RangeI w b r n f left) (t : Touch S w w') (hb : ¬ S b) (hr : ¬ S r) : RangeI w' b r n f left := by
  obtain ⟨D, lf, cnt, ⟨es, clock, since, seen, c0, h1, h2, h3, h4, h5, h6⟩, hs⟩ := h
  exact ⟨D, lf, cnt, ⟨es, clock, since, seen, c0, (t.block b (Array.getElem?_eq_some_iff.1 h1).1 hb).trans h1, h2, h3, h4, (t.block r (Array.getElem?_eq_some_iff.1 h5).1 hr).trans h5, h6⟩, hs⟩
theorem RangeI.map {w : World} {b r n : Nat} {f : Int → Option Int} {left : Int → Bool} (h : RangeI w b r n f left) : MapI w b n f := by
  obtain ⟨D, lf, cnt, h, hs, _⟩ := h
  exact ⟨D, h.owns, hs⟩
theorem rangeI (w : World) {ops : Array Oper} {rest : List Oper} {o : Oper} {a : Act} {Q : Exit → Act → World → Prop} (hg : o.guard = none) (m : Operand) (hop : o.op = Op.range 44 m)
    (b n : Nat) (f : Int → Option Int) (hm : a.eval m = .map (some b)) (h : MapI w b n f)
    (hK : ∀ w', RangeI w' b w.heap.size n f (fun k => (f k).isSome) → Touch (fun _ => False) w w' → wpList Try.prog ops Q rest (a.put o.dst (.pointer (some ⟨w.heap.size, 0, none⟩))) w') : wpList Try.prog ops Q (o :: rest) a w := by
  obtain ⟨D, hown, hs⟩ := h
  refine wpList_range_own w hg m 44 hop 3 3 lawI Try.underlying44 _ b n D hm hown ?_
  intro w' hrg hgr hsz
  exact hK w' ⟨D, _, _, hrg, hs, fun k hk => (hs k hk).1⟩ ((Touch.of_grown hgr).mono (fun k _ e => by cases e))
theorem nextI (w : World) {ops : Array Oper} {rest : List Oper} {o : Oper} {a : Act} {Q : Exit → Act → World → Prop} (hg : o.guard = none) (it : Operand) (hop : o.op = Op.next it false)
    (b r n : Nat) (f : Int → Option Int) (left : Int → Bool) (hit : a.eval it = .pointer (some ⟨r, 0, none⟩)) (h : RangeI w b r n f left)
    (hDone : (∀ k, inI k → left k = false) → wpList Try.prog ops Q rest (a.put o.dst (.tuple #[.bool false])) w)
    (hMore : ∀ (x c : Int) (w' : World), inI x → left x = true → f x = some c → RangeI w' b r n f (fun z => left z && !(decide (z = x))) → w'.rangeLeft b r < w.rangeLeft b r →
      Touch (fun k => k = r) w w' → (Instr.entry (.pointer (some ⟨r, 0, none⟩))).run Try.prog w' = .ok (.tuple #[.int .i64 x, .int .i64 c]) w' → wpList Try.prog ops Q rest (a.put o.dst (.tuple #[.bool true, .int .i64 x, .int .i64 c])) w') :
    wpList Try.prog ops Q (o :: rest) a w := by
  obtain ⟨D, lf, cnt, hrg, hs, hl⟩ := h
  refine wpList_next_ranges_ii w hg it hop 3 3 .i64 .i64 lawI Try.underlying3 Try.underlying3 b r n D lf cnt hit hrg ?_ ?_
  · intro _ h0
    exact hDone (fun k hk => by rw [← hl k hk]; exact h0 _)
  · intro x c w' cnt' hwx hwc hlx hat hrg' hlt hgr hsz hen
    have hx := inI_of hwx
    obtain ⟨h1, h2⟩ := hs x hx
    have hf : f x = some c := by
      cases hf : f x with
      | none =>
        rw [hf] at h1
        have e := atKey_of_not_has h1 (.lit (.bool true))
        rw [hat] at e
        cases e
      | some v =>
        have e := h2 v hf .nil
        rw [hat] at e
        injection e with e; injection e with _ e; rw [e]
    refine hMore x c w' hx (by rw [← hl x hx]; exact hlx) hf ⟨D, _, _, hrg', hs, fun k hk => ?_⟩ (by rw [hrg'.left_eq, hrg.left_eq]; exact hlt) (Touch.of_grown1 hgr) hen
    simp only [hl k hk]
    congr 1
    by_cases e : k = x
    · subst e; simp [WideAt.sameKey_self (show WideAt.IsKeyLit (.int .i64 k) from trivial)]
    · rw [sameKey_ne (fun h => e (by injection h))]; simp [e]
end Go.Proofs.Ytbleeejhejkkcaa
