/- Structs by value with their cells as one array: loads, stores into a new block, as one step each. A struct's cells stored at once into a block that is known whole. Commands: the plain law; command.of, command.Named. (written by gencda.py) span.Same (slices.EqualFunc), calendar.Same. -/
import Derived.Test.YtlcefchbfjfifaaProg
import Derived.Test.YtlcefchbfjfifaaVCells
import Derived.Test.YtlcefchbfjfifaaVPlan
import Derived.Deep.MidRow
import Derived.Deep.WholeRow
import Derived.BigFrame
import Derived.Test.YtlcefchbfjfifaaVOwn
import Derived.Test.YtlcefchbfjfifaaVCtA
import Derived.Test.YtlcefchbfjfifaaVCalG
section
namespace Go.Proofs.Ytlcefchbfjfifaa
open Go.RowKit
/-- A type whose values are n cells. -/
structure RowT (t : TypeId) (n : Nat) : Prop where
  d : ∃ d, Try.prog.underlying t = some d ∧ d.isRow = true
  z : (Try.prog.info? t).map (·.size) = some n
theorem RowT.load {t : TypeId} {n : Nat} (h : RowT t n) {w : World} {b o : Nat} {cs : Array Value} (hn : cs.size = n) (hc : w.rangeAt b o cs.toList) : (Instr.loadAt t (.pointer (some ⟨b, o, none⟩))).run Try.prog w = .ok (.agg cs) w := by
  obtain ⟨d, h1, h2⟩ := h.d
  have := run_loadAt_mid (P := Try.prog) w b o t cs.toList d hc h1 h2 (by rw [h.z]; simp [hn])
  simpa using this
theorem RowT.new {t : TypeId} {n : Nat} (h : RowT t n) (w : World) (c cs : Array Value) (hc : c.size = n) (hn : cs.size = n) (h1 : cs.all (·.oneCell') = true) :
    (Instr.storeAt t (.pointer (some ⟨w.heap.size, 0, none⟩)) (.agg cs)).run Try.prog (w.alloc (.cells c t)) = .ok () (w.alloc (.cells cs t)) :=
  run_storeAt_new w t c cs (by rw [h.z]; simp [hn]) (by omega) h1
theorem Blk.range {w : World} {g : Nat} {t : TypeId} {C : Array Value} (h : Blk w g t C) (o n : Nat) : w.rangeAt g o (C.extract o (o + n)).toList := World.rangeAt_of_block h o n
theorem Blk.whole {w : World} {g : Nat} {t : TypeId} {C : Array Value} (h : Blk w g t C) : w.rangeAt g 0 C.toList := by
  have := h.range 0 C.size
  simpa using this
section
variable {ops : Array Oper} {rest : List Oper} {o : Oper} {a : Act} {w : World} {Q : Exit → Act → World → Prop}
/-- A load. -/
theorem loadC {t : TypeId} {n : Nat} (R : RowT t n) (x : Operand) (ho : o.op = .load t x) (hw : Region.wanted o (yielded ops a.tmps) = true) (b k : Nat) (hx : a.eval x = .pointer (some ⟨b, k, none⟩)) (cs : Array Value) (hn : cs.size = n) (hc : w.rangeAt b k cs.toList)
    (h : wpList Try.prog ops Q rest (a.put o.dst (.agg cs)) w) : wpList Try.prog ops Q (o :: rest) a w := by
  obtain ⟨d, h1, h2⟩ := R.d
  refine BigFrame.wpList_want hw ?_
  intro K hK
  refine wp_load_mid t x ho b k hx cs.toList d hc h1 h2 (by rw [R.z]; simp [hn]) ?_
  exact hK _ _ (by simpa using h)
/-- A store of a whole value into the block that was made last. -/
theorem storeC {t : TypeId} {n : Nat} (R : RowT t n) (x y : Operand) (ho : o.op = .store t x y) (hw : Region.wanted o (yielded ops a.tmps) = true) (W : World) (c cs : Array Value) (hW : w = W.alloc (.cells c t)) (hx : a.eval x = .pointer (some ⟨W.heap.size, 0, none⟩)) (hy : a.eval y = .agg cs) (hcn : c.size = n) (hn : cs.size = n) (h1 : cs.all (·.oneCell') = true)
    (h : wpList Try.prog ops Q rest (a.put o.dst undef) (W.alloc (.cells cs t))) : wpList Try.prog ops Q (o :: rest) a w := by
  subst hW
  refine BigFrame.wpList_want hw ?_
  intro K hK
  unfold Oper.wp execOp
  simp only [ho, hx, hy, Instr.storeAt, Instr.sureAddr, Sem.run_bind, Sem.run_pure, Result.andThen_ok, run_storeVar_new (P := Try.prog) W t c cs (by rw [R.z]; simp [hn]) (by omega) h1]
  exact hK _ _ h
/-- A held load in a region walked by a plan. -/
theorem plan_hC {T : Nat → Prop} {t : TypeId} {n : Nat} (R : RowT t n) {i : Nat} {rest : List Stp} (hi : ops[i]? = some o) (x : Operand) (ho : o.op = .load t x) (hw : Region.wanted o (yielded ops a.tmps) = true) (b k : Nat) (hx : a.eval x = .pointer (some ⟨b, k, none⟩)) (cs : Array Value) (hn : cs.size = n)
    (hc : ∀ w', Touch T w w' → w'.rangeAt b k cs.toList) (h : wpPlan Try.prog ops Q T rest (a.put o.dst (.agg cs)) w) : wpPlan Try.prog ops Q T ((1, i) :: rest) a w := by
  obtain ⟨d, h1, h2⟩ := R.d
  refine plan_h hi hw (fun w' ht => ?_) h
  unfold execOp
  simp only [ho, hx, Instr.loadAt, Instr.sureAddr, Sem.run_bind, Sem.run_pure, Result.andThen_ok, run_loadVar_mid (P := Try.prog) w' b k t cs.toList d (hc w' ht) h1 h2 (by rw [R.z]; simp [hn])]
end
end Go.Proofs.Ytlcefchbfjfifaa
end

section
namespace Go.Proofs.Ytlcefchbfjfifaa
open Go.RowKit
theorem setAll_whole : ∀ (vs : List Value) (cs : Array Value), cs.size = vs.length → setAll cs 0 vs = vs.toArray := by
  have key : ∀ (vs : List Value) (o : Nat) (cs : Array Value), o + vs.length ≤ cs.size → ∀ k, (setAll cs o vs)[k]? = if o ≤ k ∧ k < o + vs.length then vs[k - o]? else cs[k]? := by
    intro vs
    induction vs with
    | nil => intro o cs h k; rw [setAll, if_neg (by simp <;> omega)]
    | cons v vs ih =>
      intro o cs h k
      simp only [List.length_cons] at h
      rw [setAll, ih (o + 1) (cs.setIfInBounds o v) (by simp; omega) k]
      by_cases h1 : k = o
      · subst h1
        rw [if_neg (by omega), if_pos (by simp)]
        simp [Array.getElem?_setIfInBounds]; omega
      · by_cases h2 : o + 1 ≤ k ∧ k < o + 1 + vs.length
        · rw [if_pos h2, if_pos (by simp; omega), show k - o = (k - (o + 1)) + 1 by omega, List.getElem?_cons_succ]
        · rw [if_neg h2, if_neg (by simp; omega)]
          simp [Ne.symm h1]
  intro vs cs h
  apply Array.ext_getElem?
  intro k
  rw [key vs 0 cs (by omega) k]
  by_cases hk : k < vs.length
  · rw [if_pos (by omega)]; simp
  · rw [if_neg (by omega)]
    rw [Array.getElem?_eq_none (by omega)]; simp; omega
section
variable {ops : Array Oper} {rest : List Oper} {o : Oper} {a : Act} {w : World} {Q : Exit → Act → World → Prop}
theorem storeM {t : TypeId} {n : Nat} (R : RowT t n) (x y : Operand) (ho : o.op = .store t x y) (hw : Region.wanted o (yielded ops a.tmps) = true) (b : Nat) (hx : a.eval x = .pointer (some ⟨b, 0, none⟩)) (cs : Array Value) (hy : a.eval y = .agg cs) (T : TypeId) (C : Array Value) (hb : Blk w b T C) (hC : C.size = n) (hn : cs.size = n) (h1 : cs.all (·.oneCell') = true)
    (h : ∀ w', Blk w' b T cs → Touch (fun q => q = b) w w' → wpList Try.prog ops Q rest (a.put o.dst undef) w') : wpList Try.prog ops Q (o :: rest) a w := by
  refine BigFrame.wpList_want hw ?_
  intro K hK
  have hth : w.there b 0 cs.size := fun j hj => by
    have e := hb.cell j
    have hf := hb.frozen j
    simp only [Nat.zero_add] at *
    rw [Array.getElem?_eq_getElem (by omega)] at e
    exact ⟨by rw [e]; rfl, hf⟩
  have hB := hb.setCells cs.toList 0
  have hT : Touch (fun q => q = b) w (w.setCells b 0 cs.toList) := Touch.setCells cs.toList 0 w (Touch.refl _ _) (fun _ => rfl)
  rw [setAll_whole _ _ (by simp; omega)] at hB
  refine wp_store_mid t x y ho b 0 cs hx hy hth (by rw [R.z]; simp [hn]) h1 ?_
  exact hK _ _ (h _ (by simpa using hB) hT)
end
end Go.Proofs.Ytlcefchbfjfifaa
end

section
namespace Go.Proofs.Ytlcefchbfjfifaa
open Go.RowKit Cal
set_option maxHeartbeats 4000000
set_option maxRecDepth 100000
set_option linter.unusedVariables false
attribute [local irreducible] wpPlan

/-- A command. -/
structure Cm where
  kind : Int
  client : Nat
  req : Nat
  id : Nat
  con : Int
  at_ : Int
  cal : Ca
  tm : Co
def caZ : Ca := ⟨0, [], []⟩
def coZ : Co := ⟨0, [], 0, 0⟩
def cmZ : Cm := ⟨0, 0, 0, 0, 0, 0, caZ, coZ⟩
/-- Its rows in memory. -/
structure CmR (w : World) (F : Nat → Prop) (c : Cm) (A B D : Option Addr) : Prop where
  cal : CaR w F c.cal A B
  tm : SpR w F D c.tm.lv.length c.tm.lv
theorem CmR.touch {w w' : World} {F S : Nat → Prop} {c : Cm} {A B D : Option Addr} (h : CmR w F c A B D) (t : Touch S w w') (hd : ∀ k, F k → ¬ S k) : CmR w' F c A B D := ⟨h.cal.touch t hd, h.tm.touch t hd⟩
theorem CmR.mono {w : World} {F F' : Nat → Prop} {c : Cm} {A B D : Option Addr} (h : CmR w F c A B D) (hF : ∀ k, F k → F' k) : CmR w F' c A B D := ⟨⟨h.cal.wk.mono hF, h.cal.cl.mono hF⟩, h.tm.mono hF⟩
theorem CaR.zero (w : World) (F : Nat → Prop) : CaR w F caZ none none := ⟨SpR.nil _ _ _, SpR.nil _ _ _⟩
def sameCm (a b : Cm) : Bool := decide (a.kind = b.kind) && decide (a.client = b.client) && decide (a.req = b.req) && decide (a.id = b.id) && decide (a.at_ = b.at_) && decide (a.con = b.con) && sameC a.cal b.cal && sameK a.tm b.tm
theorem sameCm_self (c : Cm) : sameCm c c = true := by simp [sameCm, sameC_self, sameK_self]
theorem sameC_eq {a b : Ca} (h : sameC a b = true) : a = b := by
  obtain ⟨o, wk, cl⟩ := a
  obtain ⟨o', wk', cl'⟩ := b
  simp only [sameC, Bool.and_eq_true, decide_eq_true_eq] at h
  obtain ⟨⟨rfl, h1⟩, h2⟩ := h
  rw [sameL_eq _ _ h1, sameL_eq _ _ h2]
theorem sameCm_eq {a b : Cm} (h : sameCm a b = true) : a = b := by
  obtain ⟨k, cl, rq, i, cn, at_, ca, tm⟩ := a
  obtain ⟨k', cl', rq', i', cn', at', ca', tm'⟩ := b
  simp only [sameCm, Bool.and_eq_true, decide_eq_true_eq] at h
  obtain ⟨⟨⟨⟨⟨⟨⟨rfl, rfl⟩, rfl⟩, rfl⟩, rfl⟩, rfl⟩, h1⟩, h2⟩ := h
  rw [sameC_eq h1, sameK_eq h2]
/-- Which kinds there are, and what they have. -/
def named (k : Int) : Bool := decide (1 ≤ k) && decide (k ≤ 12)
def fid (k : Int) : Bool := named k && !decide (k = 1) && !decide (k = 9)
def fcal (k : Int) : Bool := decide (k = 2)
def ftm (k : Int) : Bool := decide (k = 3)
def fcon (k : Int) : Bool := decide (k = 4)
def fat (k : Int) : Bool := decide (k = 9)
def idOnly (k : Int) : Prop := k = 5 ∨ k = 6 ∨ k = 7 ∨ k = 8 ∨ k = 10 ∨ k = 11 ∨ k = 12
theorem kinds (k : Int) : named k = false ∨ k = 1 ∨ k = 2 ∨ k = 3 ∨ k = 4 ∨ k = 9 ∨ idOnly k := by
  unfold idOnly
  by_cases h : 1 ≤ k ∧ k ≤ 12
  · omega
  · left
    cases h1 : named k
    · rfl
    · simp only [named, Bool.and_eq_true, decide_eq_true_eq] at h1; exact absurd h1 h
theorem named_no {k : Int} (h : named k = false) : k < 1 ∨ 12 < k := by
  by_cases h1 : 1 ≤ k
  · by_cases h2 : k ≤ 12
    · simp [named, h1, h2] at h
    · omega
  · omega
theorem flds_no {k : Int} (h : named k = false) : fid k = false ∧ fcal k = false ∧ ftm k = false ∧ fcon k = false ∧ fat k = false := by
  have := named_no h
  simp [fid, fcal, ftm, fcon, fat, h]; omega
theorem flds_id {k : Int} (h : idOnly k) : named k = true ∧ fid k = true ∧ fcal k = false ∧ ftm k = false ∧ fcon k = false ∧ fat k = false := by
  rcases h with rfl | rfl | rfl | rfl | rfl | rfl | rfl <;> decide
/-- A command with just the fields of its kind. -/
def kept (c : Cm) : Cm := ⟨c.kind, c.client, c.req, bif fid c.kind then c.id else 0, bif fcon c.kind then c.con else 0, bif fat c.kind then c.at_ else 0, bif fcal c.kind then c.cal else caZ, bif ftm c.kind then c.tm else coZ⟩
def cmSound (c : Cm) : Bool := named c.kind && decide (c.client ≤ 8) && sameCm (kept c) c && (bif fcal c.kind then decide (checkE c.cal = 0) else bif ftm c.kind then goodB c.tm else (decide (0 ≤ c.con) && decide (c.con < 16)))

theorem of_any (k : Int) (w : World) : Calls Try.prog 43 #[.int .i64 k] w fun e w' => e = .returned (.tuple #[.agg #[.bool (fid k), .bool (fcal k), .bool (ftm k), .bool (fcon k), .bool (fat k)], .bool (named k)]) ∧ Touch (fun _ => False) w w' := by
  rcases kinds k with hk | rfl | rfl | rfl | rfl | rfl | hk
  · obtain ⟨e1, e2, e3, e4, e5⟩ := flds_no hk
    have hn := named_no hk
    have b1 : (k == 1) = false := by simp; omega
    have b2 : (k == 2) = false := by simp; omega
    have b3 : (k == 3) = false := by simp; omega
    have b4 : (k == 4) = false := by simp; omega
    have b5 : (k == 5) = false := by simp; omega
    have b6 : (k == 6) = false := by simp; omega
    have b7 : (k == 7) = false := by simp; omega
    have b8 : (k == 8) = false := by simp; omega
    have b9 : (k == 9) = false := by simp; omega
    have b10 : (k == 10) = false := by simp; omega
    have b11 : (k == 11) = false := by simp; omega
    have b12 : (k == 12) = false := by simp; omega
    rw [e1, e2, e3, e4, e5, hk]
    clear e1 e2 e3 e4 e5 hk hn
    go_enter Try.func43, Try.ntmps43
    go_wp2
    exact bodyPost_ret (v := .tuple #[.agg #[.bool false, .bool false, .bool false, .bool false, .bool false], .bool false]) (by simp [results, Try.results43, go_sem]) rfl ⟨rfl, (Touch.refl _ _).alloc _⟩
  · show Calls Try.prog 43 #[.int .i64 1] w fun e w' => e = .returned (.tuple #[.agg #[.bool false, .bool false, .bool false, .bool false, .bool false], .bool true]) ∧ Touch (fun _ => False) w w'
    go_enter Try.func43, Try.ntmps43
    go_wp2
    exact bodyPost_ret (v := .tuple #[.agg #[.bool false, .bool false, .bool false, .bool false, .bool false], .bool true]) (by simp [results, Try.results43, go_sem]) rfl ⟨rfl, (Touch.refl _ _).alloc _⟩
  · show Calls Try.prog 43 #[.int .i64 2] w fun e w' => e = .returned (.tuple #[.agg #[.bool true, .bool true, .bool false, .bool false, .bool false], .bool true]) ∧ Touch (fun _ => False) w w'
    go_enter Try.func43, Try.ntmps43
    go_wp2
    exact bodyPost_ret (v := .tuple #[.agg #[.bool true, .bool true, .bool false, .bool false, .bool false], .bool true]) (by simp [results, Try.results43, go_sem]) rfl ⟨rfl, (Touch.refl _ _).alloc _⟩
  · show Calls Try.prog 43 #[.int .i64 3] w fun e w' => e = .returned (.tuple #[.agg #[.bool true, .bool false, .bool true, .bool false, .bool false], .bool true]) ∧ Touch (fun _ => False) w w'
    go_enter Try.func43, Try.ntmps43
    go_wp2
    exact bodyPost_ret (v := .tuple #[.agg #[.bool true, .bool false, .bool true, .bool false, .bool false], .bool true]) (by simp [results, Try.results43, go_sem]) rfl ⟨rfl, (Touch.refl _ _).alloc _⟩
  · show Calls Try.prog 43 #[.int .i64 4] w fun e w' => e = .returned (.tuple #[.agg #[.bool true, .bool false, .bool false, .bool true, .bool false], .bool true]) ∧ Touch (fun _ => False) w w'
    go_enter Try.func43, Try.ntmps43
    go_wp2
    exact bodyPost_ret (v := .tuple #[.agg #[.bool true, .bool false, .bool false, .bool true, .bool false], .bool true]) (by simp [results, Try.results43, go_sem]) rfl ⟨rfl, (Touch.refl _ _).alloc _⟩
  · show Calls Try.prog 43 #[.int .i64 9] w fun e w' => e = .returned (.tuple #[.agg #[.bool false, .bool false, .bool false, .bool false, .bool true], .bool true]) ∧ Touch (fun _ => False) w w'
    go_enter Try.func43, Try.ntmps43
    go_wp2
    exact bodyPost_ret (v := .tuple #[.agg #[.bool false, .bool false, .bool false, .bool false, .bool true], .bool true]) (by simp [results, Try.results43, go_sem]) rfl ⟨rfl, (Touch.refl _ _).alloc _⟩
  · rcases hk with rfl | rfl | rfl | rfl | rfl | rfl | rfl
    · show Calls Try.prog 43 #[.int .i64 5] w fun e w' => e = .returned (.tuple #[.agg #[.bool true, .bool false, .bool false, .bool false, .bool false], .bool true]) ∧ Touch (fun _ => False) w w'
      go_enter Try.func43, Try.ntmps43
      go_wp2
      exact bodyPost_ret (v := .tuple #[.agg #[.bool true, .bool false, .bool false, .bool false, .bool false], .bool true]) (by simp [results, Try.results43, go_sem]) rfl ⟨rfl, (Touch.refl _ _).alloc _⟩
    · show Calls Try.prog 43 #[.int .i64 6] w fun e w' => e = .returned (.tuple #[.agg #[.bool true, .bool false, .bool false, .bool false, .bool false], .bool true]) ∧ Touch (fun _ => False) w w'
      go_enter Try.func43, Try.ntmps43
      go_wp2
      exact bodyPost_ret (v := .tuple #[.agg #[.bool true, .bool false, .bool false, .bool false, .bool false], .bool true]) (by simp [results, Try.results43, go_sem]) rfl ⟨rfl, (Touch.refl _ _).alloc _⟩
    · show Calls Try.prog 43 #[.int .i64 7] w fun e w' => e = .returned (.tuple #[.agg #[.bool true, .bool false, .bool false, .bool false, .bool false], .bool true]) ∧ Touch (fun _ => False) w w'
      go_enter Try.func43, Try.ntmps43
      go_wp2
      exact bodyPost_ret (v := .tuple #[.agg #[.bool true, .bool false, .bool false, .bool false, .bool false], .bool true]) (by simp [results, Try.results43, go_sem]) rfl ⟨rfl, (Touch.refl _ _).alloc _⟩
    · show Calls Try.prog 43 #[.int .i64 8] w fun e w' => e = .returned (.tuple #[.agg #[.bool true, .bool false, .bool false, .bool false, .bool false], .bool true]) ∧ Touch (fun _ => False) w w'
      go_enter Try.func43, Try.ntmps43
      go_wp2
      exact bodyPost_ret (v := .tuple #[.agg #[.bool true, .bool false, .bool false, .bool false, .bool false], .bool true]) (by simp [results, Try.results43, go_sem]) rfl ⟨rfl, (Touch.refl _ _).alloc _⟩
    · show Calls Try.prog 43 #[.int .i64 10] w fun e w' => e = .returned (.tuple #[.agg #[.bool true, .bool false, .bool false, .bool false, .bool false], .bool true]) ∧ Touch (fun _ => False) w w'
      go_enter Try.func43, Try.ntmps43
      go_wp2
      exact bodyPost_ret (v := .tuple #[.agg #[.bool true, .bool false, .bool false, .bool false, .bool false], .bool true]) (by simp [results, Try.results43, go_sem]) rfl ⟨rfl, (Touch.refl _ _).alloc _⟩
    · show Calls Try.prog 43 #[.int .i64 11] w fun e w' => e = .returned (.tuple #[.agg #[.bool true, .bool false, .bool false, .bool false, .bool false], .bool true]) ∧ Touch (fun _ => False) w w'
      go_enter Try.func43, Try.ntmps43
      go_wp2
      exact bodyPost_ret (v := .tuple #[.agg #[.bool true, .bool false, .bool false, .bool false, .bool false], .bool true]) (by simp [results, Try.results43, go_sem]) rfl ⟨rfl, (Touch.refl _ _).alloc _⟩
    · show Calls Try.prog 43 #[.int .i64 12] w fun e w' => e = .returned (.tuple #[.agg #[.bool true, .bool false, .bool false, .bool false, .bool false], .bool true]) ∧ Touch (fun _ => False) w w'
      go_enter Try.func43, Try.ntmps43
      go_wp2
      exact bodyPost_ret (v := .tuple #[.agg #[.bool true, .bool false, .bool false, .bool false, .bool false], .bool true]) (by simp [results, Try.results43, go_sem]) rfl ⟨rfl, (Touch.refl _ _).alloc _⟩
end Go.Proofs.Ytlcefchbfjfifaa
end

section
namespace Go.Proofs.Ytlcefchbfjfifaa
open Go.RowKit Cal
set_option maxHeartbeats 4000000
set_option maxRecDepth 100000
set_option linter.unusedVariables false

theorem eqfn_any (f t f' t' : Int) (w : World) : Calls Try.prog 94 #[.agg #[.int .i64 f, .int .i64 t], .agg #[.int .i64 f', .int .i64 t']] w fun e w' => e = .returned (.bool (decide (f = f') && decide (t = t'))) ∧ Touch (fun _ => False) w w' := by
  have HT := Lib.hid (((Touch.refl (fun _ => False) w).alloc (.cells #[.int .i64 f, .int .i64 t] 140)).alloc (.cells #[.int .i64 f', .int .i64 t'] 140))
  have HV := Lib.hid (show decide (f = f') = (f == f') from by cases h : decide (f = f') <;> simp_all)
  by_cases h1 : f = f'
  · subst h1
    by_cases h2 : t = t'
    · subst h2
      go_enter Try.func94, Try.ntmps94
      go_wp2
      go_ret
      exact ⟨by simp, HT.out⟩
    · have hb : (t == t') = false := by simpa using h2
      go_enter Try.func94, Try.ntmps94
      go_wp2
      go_ret
      exact ⟨by simp, HT.out⟩
  · have hb : (f == f') = false := by simpa using h1
    go_enter Try.func94, Try.ntmps94
    go_wp2
    go_ret
    exact ⟨by simp [h1], HT.out⟩
theorem eqf_any (F F' : Nat → Prop) (A A' : Option Addr) (c c' : Nat) (a b : List Sp) (w : World) (hr : SpR w F A a.length a) (hr' : SpR w F' A' b.length b) (hsm : a.length ≤ 1000000) :
    Calls Try.prog 93 #[.slice A a.length c, .slice A' b.length c', .func (.func 94) #[] #[]] w fun e w' => e = .returned (.bool (sameL a b)) ∧ Touch (fun _ => False) w w' := by
  have Hr := Lib.hid hr
  have Hr' := Lib.hid hr'
  clear hr hr'
  by_cases hlen : a.length = b.length
  · rw [← hlen] at Hr' ⊢
    have HL := Lib.hid hlen
    clear hlen
    go_enter Try.func93, Try.ntmps93
    go_wp2_with fail
    go_loopw [17] (fun i wr => ∃ j : Nat, j ≤ a.length ∧ i = .int .i64 j ∧ sameL (a.drop j) (b.drop j) = sameL a b ∧ Touch (fun _ => False) w wr) (fun i _ => a.length - (intOf i).toNat)
    case atStart => exact ⟨0, by omega, rfl, rfl, Touch.refl _ _⟩
    case round =>
      obtain ⟨j, hj, rfl, hno, hT⟩ := hrel
      have HN := Lib.hid hno
      have HT := Lib.hid hT
      clear hno hT
      by_cases hjk : j < a.length
      · have ha : a[j]? = some (a[j]'hjk) := List.getElem?_eq_getElem _
        have hb : b[j]? = some (b[j]'(by have := HL.out; omega)) := List.getElem?_eq_getElem _
        obtain ⟨g, off, rfl, hg, -, hc0, hc1⟩ := (Hr.out.touch HT.out (fun _ _ e => e)).at_ ha
        obtain ⟨g', off', rfl, hg', -, hd0, hd1⟩ := (Hr'.out.touch HT.out (fun _ _ e => e)).at_ hb
        have HE := Lib.hid (sameL_drop a b j _ _ ha hb)
        generalize a[j]'hjk = s at *
        generalize b[j]'_ = u at *
        obtain ⟨f, t⟩ := s
        obtain ⟨f', t'⟩ := u
        simp only at hc0 hc1 hd0 hd1
        clear ha hb
        have HTb := Lib.hid (((Touch.refl (fun _ => False) wr).alloc (.cells #[.int .i64 f, .int .i64 t] 140)).alloc (.cells #[.int .i64 f', .int .i64 t'] 140))
        have HF := Lib.hid (fun w1 => eqfn_any f t f' t' w1)
        by_cases h1 : f = f' ∧ t = t'
        · have HV := Lib.hid (show sameL (a.drop (j + 1)) (b.drop (j + 1)) = sameL a b by rw [← HN.out, HE.out]; simp [h1.1, h1.2])
          have hd : (decide (f = f') && decide (t = t')) = true := by simp [h1.1, h1.2]
          rw [hd] at HF
          clear h1 hd
          go_wp2_with (go_at_call 94; go_must (refine (HF.out _).mono ?_); rintro e w1 ⟨rfl, t1⟩; have HT1 := Lib.hid ((HT.out.trans HTb.out (fun _ _ e => e)).trans t1 (fun _ _ e => e)); clear t1)
          go_roundw
          case rel => exact ⟨j + 1, by omega, by go_num, HV.out, HT1.out⟩
          case measure => simp [intOf]; omega
        · have hd : (decide (f = f') && decide (t = t')) = false := by
            cases hq : (decide (f = f') && decide (t = t'))
            · rfl
            · exact absurd (by simpa using hq) h1
          have HV := Lib.hid (show sameL a b = false by rw [← HN.out, HE.out, hd]; rfl)
          rw [hd] at HF
          clear h1 hd
          go_wp2_with (go_at_call 94; go_must (refine (HF.out _).mono ?_); rintro e w1 ⟨rfl, t1⟩; have HT1 := Lib.hid ((HT.out.trans HTb.out (fun _ _ e => e)).trans t1 (fun _ _ e => e)); clear t1)
          go_ret
          exact ⟨ret_bool HV.out.symm, HT1.out⟩
      · obtain rfl : j = a.length := by omega
        have HV := Lib.hid (show sameL a b = true by rw [← HN.out, List.drop_length, HL.out, List.drop_length]; rfl)
        go_wp2
        go_ret
        exact ⟨ret_bool HV.out.symm, HT.out⟩
  · have HV := Lib.hid (show sameL a b = false by cases h : sameL a b; rfl; exact absurd (sameL_len a b h) hlen)
    go_enter Try.func93, Try.ntmps93
    have hd : ((a.length : Int) != (b.length : Int)) = true := by simp; omega
    go_wp2
    go_ret
    exact ⟨ret_bool HV.out.symm, Touch.refl _ _⟩
theorem ssame_any (F F' : Nat → Prop) (A A' : Option Addr) (c c' : Nat) (a b : List Sp) (w : World) (hr : SpR w F A a.length a) (hr' : SpR w F' A' b.length b) (hsm : a.length ≤ 1000000) :
    Calls Try.prog 88 #[.slice A a.length c, .slice A' b.length c'] w fun e w' => e = .returned (.bool (sameL a b)) ∧ Touch (fun _ => False) w w' := by
  have HE := Lib.hid (eqf_any F F' A A' c c' a b w hr hr' hsm)
  generalize sameL a b = v at *
  clear hr hr' hsm
  go_enter Try.func88, Try.ntmps88
  go_wp2_with (go_at_call 93; go_must (refine HE.out.mono ?_); rintro e w1 ⟨rfl, t1⟩; have HT1 := Lib.hid t1; clear t1)
  go_ret
  exact ⟨rfl, HT1.out⟩
theorem csame_any (F F' : Nat → Prop) (A B A' B' : Option Addr) (k m k' m' : Nat) (c d : Ca) (w : World) (hr : CaR w F c A B) (hr' : CaR w F' d A' B') (h1 : c.wk.length ≤ 1000000) (h2 : c.cl.length ≤ 1000000) :
    Calls Try.prog 79 #[.agg #[.int .i64 c.off, .slice A c.wk.length k, .slice B c.cl.length m], .agg #[.int .i64 d.off, .slice A' d.wk.length k', .slice B' d.cl.length m']] w fun e w' => e = .returned (.bool (sameC c d)) ∧ Touch (fun _ => False) w w' := by
  have HT := Lib.hid (((Touch.refl (fun _ => False) w).alloc (.cells #[.int .i64 c.off, .slice A c.wk.length k, .slice B c.cl.length m] 30)).alloc (.cells #[.int .i64 d.off, .slice A' d.wk.length k', .slice B' d.cl.length m'] 30))
  have HB0 := Lib.hid ((Blk.new w 30 #[.int .i64 c.off, .slice A c.wk.length k, .slice B c.cl.length m]).alloc (.cells #[.int .i64 d.off, .slice A' d.wk.length k', .slice B' d.cl.length m'] 30))
  have HB0' := Lib.hid (show Blk _ (w.heap.size + 1) _ _ by simpa using Blk.new (w.alloc (.cells #[.int .i64 c.off, .slice A c.wk.length k, .slice B c.cl.length m] 30)) 30 #[.int .i64 d.off, .slice A' d.wk.length k', .slice B' d.cl.length m'])
  have HR := Lib.hid hr
  have HR' := Lib.hid hr'
  have HW := Lib.hid (fun w1 hr hr' => ssame_any F F' A A' k k' c.wk d.wk w1 hr hr' h1)
  have HC := Lib.hid (fun w1 hr hr' => ssame_any F F' B B' m m' c.cl d.cl w1 hr hr' h2)
  have HV := Lib.hid (show sameC c d = (decide (c.off = d.off) && sameL c.wk d.wk && sameL c.cl d.cl) from rfl)
  generalize sameC c d = v at *
  clear hr hr'
  obtain ⟨off, wk, cl⟩ := c
  obtain ⟨off', wk', cl'⟩ := d
  simp only at *
  generalize sameL wk wk' = x at *
  generalize sameL cl cl' = y at *
  by_cases ho : off = off'
  · subst ho
    rw [decide_eq_true rfl, Bool.true_and] at HV
    cases x
    · go_enter Try.func79, Try.ntmps79
      go_wp2_with (go_at_call 88; go_must (refine (HW.out _ (by exact HR.out.wk.touch HT.out (fun _ _ e => e)) (by exact HR'.out.wk.touch HT.out (fun _ _ e => e))).mono ?_); rintro e w0 ⟨rfl, t0⟩; have HT0 := Lib.hid (HT.out.trans t0 (fun _ _ e => e)); clear t0)
      go_ret
      exact ⟨ret_bool (by rw [HV.out]; rfl), HT0.out⟩
    · go_enter Try.func79, Try.ntmps79
      go_wp2_with (first
        | (go_at_call 88; have M9 := M1; go_must (refine (HC.out _ (by exact HR.out.cl.touch HT0.out (fun _ _ e => e)) (by exact HR'.out.cl.touch HT0.out (fun _ _ e => e))).mono ?_); rintro e w1 ⟨rfl, t1⟩; have HT1 := Lib.hid (HT0.out.trans t1 (fun _ _ e => e)); clear t1)
        | (go_at_call 88; go_must (refine (HW.out _ (by exact HR.out.wk.touch HT.out (fun _ _ e => e)) (by exact HR'.out.wk.touch HT.out (fun _ _ e => e))).mono ?_); rintro e w0 ⟨rfl, t0⟩; have HT0 := Lib.hid (HT.out.trans t0 (fun _ _ e => e)); have q2 := (t0.blk HB0.out (fun e => e)).cell 2; have r2 := (t0.blk HB0'.out (fun e => e)).cell 2; simp at q2 r2; have M1 := Lib.hid trivial; clear t0))
      go_ret
      exact ⟨ret_bool (by rw [HV.out]; rfl), HT1.out⟩
  · have ho' : (off == off') = false := by simpa using ho
    rw [decide_eq_false ho, Bool.false_and, Bool.false_and] at HV
    go_enter Try.func79, Try.ntmps79
    go_wp2
    go_ret
    exact ⟨ret_bool HV.out.symm, HT.out⟩
end Go.Proofs.Ytlcefchbfjfifaa
end
