/- The reference's table of sessions as one row of 135 cells. (written by gensesr.py) -/
import Derived.Test.YtmgmjehebbggaaaVCells
import Derived.Test.YtmgmjehebbggaaaVRowE
import Derived.Test.YtmgmjehebbggaaaArgs
namespace Go.Proofs.Ytmgmjehebbggaaa
open Go.RowKit Go.Maps
set_option maxHeartbeats 4000000
set_option maxRecDepth 100000
set_option linter.unusedVariables false
/-- Of each of nine: its Req, its reply, where the reply's numbers lie. -/
structure RT where
  q : Nat → Nat
  a : Nat → RpV
  A : Nat → Option Addr
  c : Nat → Nat
def rpC (a : RpV) (A : Option Addr) (c : Nat) : Array Value := #[.int .i64 a.code, .int .i64 a.time, .int .u64 a.t.id, .int .i64 a.t.contract, .int .i64 a.t.state, .int .i64 a.t.level, .int .u64 a.t.gen, .int .i64 a.t.from_, .int .i64 a.t.left, .int .i64 a.t.due, .int .i64 a.t.told, .slice A a.fired.length c, .int .u64 a.notice, .int .i64 a.dead]
theorem rpC_size (a : RpV) (A : Option Addr) (c : Nat) : (rpC a A c).size = 14 := rfl
theorem rpC_one (a : RpV) (A : Option Addr) (c : Nat) : (rpC a A c).all (·.oneCell') = true := by simp [rpC, Value.oneCell']
def RT.cells (T : RT) : Array Value := ((List.range 9).map (fun i => Value.int .u64 (T.q i : Nat)) ++ (List.range 9).flatMap (fun i => (rpC (T.a i) (T.A i) (T.c i)).toList)).toArray
def rpZ : RpV := ⟨0, 0, ⟨0, 0, 0, 0, 0, 0, 0, 0, 0⟩, [], 0, 0⟩
def RT.zero : RT := ⟨fun _ => 0, fun _ => rpZ, fun _ => none, fun _ => 0⟩
abbrev zRT : Array Value := #[.int .u64 0, .int .u64 0, .int .u64 0, .int .u64 0, .int .u64 0, .int .u64 0, .int .u64 0, .int .u64 0, .int .u64 0, .int .i64 0, .int .i64 0, .int .u64 0, .int .i64 0, .int .i64 0, .int .i64 0, .int .u64 0, .int .i64 0, .int .i64 0, .int .i64 0, .int .i64 0, .slice none 0 0, .int .u64 0, .int .i64 0, .int .i64 0, .int .i64 0, .int .u64 0, .int .i64 0, .int .i64 0, .int .i64 0, .int .u64 0, .int .i64 0, .int .i64 0, .int .i64 0, .int .i64 0, .slice none 0 0, .int .u64 0, .int .i64 0, .int .i64 0, .int .i64 0, .int .u64 0, .int .i64 0, .int .i64 0, .int .i64 0, .int .u64 0, .int .i64 0, .int .i64 0, .int .i64 0, .int .i64 0, .slice none 0 0, .int .u64 0, .int .i64 0, .int .i64 0, .int .i64 0, .int .u64 0, .int .i64 0, .int .i64 0, .int .i64 0, .int .u64 0, .int .i64 0, .int .i64 0, .int .i64 0, .int .i64 0, .slice none 0 0, .int .u64 0, .int .i64 0, .int .i64 0, .int .i64 0, .int .u64 0, .int .i64 0, .int .i64 0, .int .i64 0, .int .u64 0, .int .i64 0, .int .i64 0, .int .i64 0, .int .i64 0, .slice none 0 0, .int .u64 0, .int .i64 0, .int .i64 0, .int .i64 0, .int .u64 0, .int .i64 0, .int .i64 0, .int .i64 0, .int .u64 0, .int .i64 0, .int .i64 0, .int .i64 0, .int .i64 0, .slice none 0 0, .int .u64 0, .int .i64 0, .int .i64 0, .int .i64 0, .int .u64 0, .int .i64 0, .int .i64 0, .int .i64 0, .int .u64 0, .int .i64 0, .int .i64 0, .int .i64 0, .int .i64 0, .slice none 0 0, .int .u64 0, .int .i64 0, .int .i64 0, .int .i64 0, .int .u64 0, .int .i64 0, .int .i64 0, .int .i64 0, .int .u64 0, .int .i64 0, .int .i64 0, .int .i64 0, .int .i64 0, .slice none 0 0, .int .u64 0, .int .i64 0, .int .i64 0, .int .i64 0, .int .u64 0, .int .i64 0, .int .i64 0, .int .i64 0, .int .u64 0, .int .i64 0, .int .i64 0, .int .i64 0, .int .i64 0, .slice none 0 0, .int .u64 0, .int .i64 0]
theorem RT.zero_cells : RT.zero.cells = zRT := rfl
theorem RT.flen (T : RT) : ((List.range 9).flatMap (fun i => (rpC (T.a i) (T.A i) (T.c i)).toList)).length = 126 := by
  rw [flat_len _ 14 _ (fun i _ => by simp [rpC])]; simp
theorem RT.cells_size (T : RT) : T.cells.size = 135 := by
  unfold RT.cells; simp only [List.size_toArray, List.length_append, List.length_map, List.length_range, T.flen]
theorem RT.get (T : RT) (k : Nat) : T.cells[k]? = if k < 9 then some (.int .u64 (T.q k : Nat)) else if k < 135 then (rpC (T.a ((k - 9) / 14)) (T.A ((k - 9) / 14)) (T.c ((k - 9) / 14)))[(k - 9) % 14]? else none := by
  unfold RT.cells
  rw [List.getElem?_toArray]
  by_cases h9 : k < 9
  · rw [if_pos h9, List.getElem?_append_left (by simpa using h9)]
    simp [h9]
  · rw [if_neg h9, List.getElem?_append_right (by simp; omega)]
    simp only [List.length_map, List.length_range]
    by_cases h : k < 135
    · rw [if_pos h]
      have hi : (k - 9) / 14 < 9 := by omega
      have := flat_get (fun i => (rpC (T.a i) (T.A i) (T.c i)).toList) 14 (List.range 9) (fun i _ => by simp [rpC]) ((k - 9) / 14) ((k - 9) / 14) (by simp [hi]) ((k - 9) % 14) (Nat.mod_lt _ (by omega))
      rw [show (k - 9) / 14 * 14 + (k - 9) % 14 = k - 9 by omega] at this
      rw [this]; simp
    · rw [if_neg h, List.getElem?_eq_none (by rw [T.flen]; omega)]
theorem RT.cells_one (T : RT) : T.cells.all (·.oneCell') = true := by
  rw [Array.all_eq_true]
  intro k hk
  have hg := T.get k
  rw [Array.getElem?_eq_getElem hk] at hg
  have hk' : k < 135 := by rw [T.cells_size] at hk; exact hk
  by_cases h9 : k < 9
  · rw [if_pos h9] at hg; injection hg with hg; rw [hg]; rfl
  · rw [if_neg h9, if_pos hk'] at hg
    have h1 := rpC_one (T.a ((k - 9) / 14)) (T.A ((k - 9) / 14)) (T.c ((k - 9) / 14))
    rw [Array.all_eq_true] at h1
    have hm : (k - 9) % 14 < (rpC (T.a ((k - 9) / 14)) (T.A ((k - 9) / 14)) (T.c ((k - 9) / 14))).size := Nat.mod_lt _ (by decide)
    rw [Array.getElem?_eq_getElem hm] at hg
    injection hg with hg
    rw [hg]; exact h1 _ hm
theorem setAll_get : ∀ (vs : List Value) (o : Nat) (cs : Array Value), o + vs.length ≤ cs.size → ∀ k, (setAll cs o vs)[k]? = if o ≤ k ∧ k < o + vs.length then vs[k - o]? else cs[k]? := by
  intro vs
  induction vs with
  | nil => intro o cs h k; rw [setAll, if_neg (by simp <;> omega)]
  | cons v vs ih =>
    intro o cs h k
    simp only [List.length_cons] at h
    rw [setAll, ih (o + 1) (cs.setIfInBounds o v) (by simp; omega) k]
    by_cases h1 : k = o
    · subst h1
      rw [if_neg (by omega), if_pos (by simp)]
      simp [Array.getElem?_setIfInBounds]; omega
    · by_cases h2 : o + 1 ≤ k ∧ k < o + 1 + vs.length
      · rw [if_pos h2, if_pos (by simp; omega), show k - o = (k - (o + 1)) + 1 by omega, List.getElem?_cons_succ]
      · rw [if_neg h2, if_neg (by simp; omega)]
        simp [Ne.symm h1]
def upd {α : Type} (f : Nat → α) (n : Nat) (x : α) : Nat → α := fun i => if i = n then x else f i
def RT.setq (T : RT) (n v : Nat) : RT := { T with q := upd T.q n v }
def RT.seta (T : RT) (n : Nat) (a : RpV) (A : Option Addr) (c : Nat) : RT := { T with a := upd T.a n a, A := upd T.A n A, c := upd T.c n c }
theorem RT.at_q (T : RT) {n : Nat} (hn : n < 9) : T.cells[n]? = some (.int .u64 (T.q n)) := by rw [T.get, if_pos hn]
theorem RT.at_a (T : RT) {n : Nat} (hn : n < 9) : T.cells.extract (9 + n * 14) (9 + n * 14 + 14) = rpC (T.a n) (T.A n) (T.c n) := by
  apply Array.ext_getElem?
  intro k
  rw [Array.getElem?_extract]
  have hs := T.cells_size
  by_cases hk : k < 14
  · rw [if_pos (by omega), T.get, if_neg (by omega), if_pos (by omega), show (9 + n * 14 + k - 9) / 14 = n by omega, show (9 + n * 14 + k - 9) % 14 = k by omega]
  · rw [if_neg (by omega), Array.getElem?_eq_none (by rw [rpC_size]; omega)]
theorem RT.put_q (T : RT) {n : Nat} (hn : n < 9) (v : Nat) : T.cells.setIfInBounds n (.int .u64 v) = (T.setq n v).cells := by
  apply Array.ext_getElem?
  intro k
  have hs := T.cells_size
  rw [Array.getElem?_setIfInBounds, RT.get (T.setq n v) k, T.get]
  by_cases e : n = k
  · subst e; rw [if_pos rfl, if_pos (by omega), if_pos hn]; simp [RT.setq, upd]
  · rw [if_neg e]
    by_cases h9 : k < 9
    · rw [if_pos h9, if_pos h9]; simp [RT.setq, upd, Ne.symm e]
    · rw [if_neg h9, if_neg h9]; rfl
theorem RT.put_a (T : RT) {n : Nat} (hn : n < 9) (a : RpV) (A : Option Addr) (c : Nat) : setAll T.cells (9 + n * 14) (rpC a A c).toList = (T.seta n a A c).cells := by
  apply Array.ext_getElem?
  intro k
  have hs := T.cells_size
  have hl : (rpC a A c).toList.length = 14 := rfl
  rw [setAll_get _ _ _ (by rw [hl, hs]; omega) k, RT.get (T.seta n a A c) k, T.get, hl]
  by_cases h9 : k < 9
  · rw [if_neg (by omega), if_pos h9, if_pos h9]; rfl
  · rw [if_neg h9, if_neg h9]
    by_cases hk : k < 135
    · rw [if_pos hk, if_pos hk]
      by_cases e : (k - 9) / 14 = n
      · rw [if_pos (by omega)]
        simp only [RT.seta, upd, if_pos e]
        rw [show k - (9 + n * 14) = (k - 9) % 14 by omega]; simp
      · rw [if_neg (by omega)]
        simp only [RT.seta, upd, if_neg e]
    · rw [if_neg (by omega), if_neg hk, if_neg hk]
/-- What the document's table has. -/
structure RTs (T : RT) (s : SesS) : Prop where
  no : ∀ i, i < 9 → s i = none → T.q i = 0
  yes : ∀ i, i < 9 → ∀ q a, s i = some (q, a) → T.q i = q ∧ T.a i = a
def RTr (T : RT) (s : SesS) (w : World) (F : Nat → Prop) : Prop := ∀ i, i < 9 → ∀ q a, s i = some (q, a) → Rd w F (T.A i) a.fired.length (a.fired.map U64)
theorem RTs.zero : RTs RT.zero (fun _ => none) := ⟨fun _ _ _ => rfl, fun _ _ _ _ h => by cases h⟩
theorem RTr.zero (w : World) (F : Nat → Prop) : RTr RT.zero (fun _ => none) w F := fun _ _ _ _ h => by cases h
theorem RTr.touch {T : RT} {s : SesS} {w w' : World} {F S : Nat → Prop} (h : RTr T s w F) (t : Touch S w w') (hF : ∀ k, F k → ¬ S k) : RTr T s w' F := fun i hi q a hs => (h i hi q a hs).touch t hF
theorem RTr.mono {T : RT} {s : SesS} {w : World} {F F' : Nat → Prop} (h : RTr T s w F) (hF : ∀ k, F k → F' k) : RTr T s w F' := fun i hi q a hs => (h i hi q a hs).mono hF
theorem RTs.last {T : RT} {s : SesS} (h : RTs T s) {c : Nat} (hc : c < 9) : T.q c = lastV s c := by
  unfold lastV
  cases hs : s c with
  | none => exact h.no c hc hs
  | some x => obtain ⟨q, a⟩ := x; exact (h.yes c hc q a hs).1
/-- A request is put in; a client goes. -/
theorem RTs.set {T : RT} {s : SesS} (h : RTs T s) (n q : Nat) (a : RpV) (A : Option Addr) (c : Nat) : RTs ((T.setq n q).seta n a A c) (setS s n q a) := by
  refine ⟨fun i hi hs => ?_, fun i hi q' a' hs => ?_⟩
  · unfold setS at hs
    split at hs
    · cases hs
    · rename_i e; simp only [RT.seta, RT.setq, upd, if_neg e]; exact h.no i hi hs
  · unfold setS at hs
    split at hs
    · rename_i e; subst e; injection hs with hs; injection hs with h1 h2; subst h1 h2; simp [RT.seta, RT.setq, upd]
    · rename_i e; simp only [RT.seta, RT.setq, upd, if_neg e]; exact h.yes i hi q' a' hs
theorem RTr.set {T : RT} {s : SesS} {w : World} {F : Nat → Prop} (h : RTr T s w F) (n q : Nat) (a : RpV) (A : Option Addr) (c : Nat) (hr : Rd w F A a.fired.length (a.fired.map U64)) : RTr ((T.setq n q).seta n a A c) (setS s n q a) w F := by
  intro i hi q' a' hs
  unfold setS at hs
  split at hs
  · rename_i e; subst e; injection hs with hs; injection hs with h1 h2; subst h1 h2; simpa [RT.seta, RT.setq, upd] using hr
  · rename_i e; simp only [RT.seta, RT.setq, upd, if_neg e]; exact h i hi q' a' hs
theorem RTs.del {T : RT} {s : SesS} (h : RTs T s) (n : Nat) : RTs ((T.setq n 0).seta n rpZ none 0) (delS s n) := by
  refine ⟨fun i hi hs => ?_, fun i hi q' a' hs => ?_⟩
  · unfold delS at hs
    split at hs
    · rename_i e; subst e; simp [RT.seta, RT.setq, upd]
    · rename_i e; simp only [RT.seta, RT.setq, upd, if_neg e]; exact h.no i hi hs
  · unfold delS at hs
    split at hs
    · cases hs
    · rename_i e; simp only [RT.seta, RT.setq, upd, if_neg e]; exact h.yes i hi q' a' hs
theorem RTr.del {T : RT} {s : SesS} {w : World} {F : Nat → Prop} (h : RTr T s w F) (n : Nat) : RTr ((T.setq n 0).seta n rpZ none 0) (delS s n) w F := by
  intro i hi q' a' hs
  unfold delS at hs
  split at hs
  · cases hs
  · rename_i e; simp only [RT.seta, RT.setq, upd, if_neg e]; exact h i hi q' a' hs
end Go.Proofs.Ytmgmjehebbggaaa
