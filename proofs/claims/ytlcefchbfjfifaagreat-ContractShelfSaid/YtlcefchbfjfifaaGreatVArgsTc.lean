/- law10: Light, lives. law14.lives. law14.lives: the walk. No shelf: nil, or one that no call made; Load(nil). A calendar among the arguments, opened. A contract among the arguments (ArgsT without ChB: never import both). -/
import Derived.Test.YtlcefchbfjfifaaGreatVCbC
import Derived.Test.YtlcefchbfjfifaaGreatVCalJ
import Derived.Test.YtlcefchbfjfifaaGreatVCalZ
import Derived.Test.YtlcefchbfjfifaaGreatVArgs
import Derived.Test.YtlcefchbfjfifaaGreatVCalK
import Derived.Test.YtlcefchbfjfifaaGreatVChA
section
namespace Go.Proofs.YtlcefchbfjfifaaGreat
open Go.RowKit Cal
set_option maxHeartbeats 4000000
set_option maxRecDepth 100000
set_option linter.unusedVariables false

theorem light10_any (A B : Option Addr) (k m n n2 : Nat) (o : Int) (w : World) :
    Calls Tryz.prog 49 #[.agg #[.int .i64 o, .slice A n k, .slice B n2 m]] w fun e w' => e = .returned (.bool (decide (n ≤ 60) && decide (n2 ≤ 60))) ∧ Touch (fun _ => False) w w' := by
  have HT := Lib.hid ((Touch.refl (fun _ => False) w).alloc (.cells #[.int .i64 o, .slice A n k, .slice B n2 m] 51))
  have HV := Lib.hid (show decide (n ≤ 60) = decide ((n : Int) ≤ 60) by simp; omega)
  have HV2 := Lib.hid (show decide (n2 ≤ 60) = decide ((n2 : Int) ≤ 60) by simp; omega)
  by_cases h1 : (n : Int) ≤ 60
  · by_cases h2 : (n2 : Int) ≤ 60
    · go_enter Tryz.func49, Tryz.ntmps49
      go_wp2
      go_ret
      exact ⟨by rw [HV.out, HV2.out]; simp [h1, h2], HT.out⟩
    · go_enter Tryz.func49, Tryz.ntmps49
      go_wp2
      go_ret
      exact ⟨by rw [HV.out, HV2.out]; simp [h1, h2], HT.out⟩
  · go_enter Tryz.func49, Tryz.ntmps49
    go_wp2
    go_ret
    exact ⟨by rw [HV.out, HV2.out]; simp; omega, HT.out⟩
def cL : Ca := ⟨0, [⟨10, 20⟩], []⟩
theorem cL_ok : cL.Ok := ⟨by simp [cL], ⟨by simp [cL, Row], by simp [cL], by simp [cL]⟩, by simp [cL, Row], by simp [cL]⟩
theorem cL_due1 : cL.due 0 5 = (15, 0) := by
  refine due_of cL (by decide) (by decide) ⟨by omega, by decide, by decide⟩ (by omega)
theorem cL_due2 : cL.due 15 6 = (604811, 0) := by
  refine due_of cL (by decide) (by decide) (.of_least (by omega) ?_ ?_) (by omega)
  · rw [← cL_ok.count (by omega) (by omega)]; decide
  · rw [← cL_ok.count (by omega) (by omega)]; decide
end Go.Proofs.YtlcefchbfjfifaaGreat
end

section
namespace Go.Proofs.YtlcefchbfjfifaaGreat
open Go.RowKit Cal Go.Maps
set_option maxHeartbeats 4000000
set_option maxRecDepth 100000
set_option linter.unusedVariables false
attribute [local irreducible] wpPlan

def pP : Co := ⟨1, [⟨10, 0⟩, ⟨20, 1⟩], 2, 5⟩
theorem pP_good : goodB pP = true := by decide
theorem cL_check : checkE cL = 0 := by decide
def sL1 : Shl := Shl.nil.lay 1 cL
def sL2 : Shl := sL1.sig 0 pP
theorem lvE_1 : sigE Shl.nil 0 pP = 31 ∧ Shl.nil.sigS 0 pP = Shl.nil := by
  have : sigE Shl.nil 0 pP = 31 := by rw [sigE, if_pos ⟨by omega, pP_good⟩]; rfl
  exact ⟨this, by rw [Shl.sigS, this]; rfl⟩
theorem lvE_2 : layE Shl.nil 1 cL = 0 ∧ Shl.nil.layS 1 cL = sL1 := by
  have : layE Shl.nil 1 cL = 0 := by rw [layE, if_pos (by omega), if_pos cL_check]; rfl
  exact ⟨this, by rw [Shl.layS, this]; rfl⟩
theorem lvE_3 : sigE sL1 0 pP = 0 ∧ sL1.sigS 0 pP = sL2 := by
  have : sigE sL1 0 pP = 0 := by rw [sigE, if_pos ⟨by omega, pP_good⟩, if_pos (by rfl)]; rfl
  exact ⟨this, by rw [Shl.sigS, this]; rfl⟩
theorem row2 (w : World) (T : TypeId) : SpR (w.alloc (.cells #[.int .i64 10, .int .i64 0, .int .i64 20, .int .i64 1] T)) (fun q => q = w.heap.size) (some ⟨w.heap.size, 0, none⟩) 2 pP.lv := by
  have hb := Blk.new w T #[.int .i64 10, .int .i64 0, .int .i64 20, .int .i64 1]
  refine ⟨rfl, rfl, fun _ => ⟨w.heap.size, 0, rfl, hb.lt, rfl, fun j u hj => ?_⟩⟩
  rw [Nat.zero_add]
  exact (hb.cell j).trans (by simpa [pP, spC] using hj)
theorem row1 (w : World) (T : TypeId) : SpR (w.alloc (.cells #[.int .i64 10, .int .i64 20] T)) (fun q => q = w.heap.size) (some ⟨w.heap.size, 0, none⟩) 1 cL.wk := by
  have hb := Blk.new w T #[.int .i64 10, .int .i64 20]
  refine ⟨rfl, rfl, fun _ => ⟨w.heap.size, 0, rfl, hb.lt, rfl, fun j u hj => ?_⟩⟩
  rw [Nat.zero_add]
  exact (hb.cell j).trans (by simpa [cL, spC] using hj)
def PlnP (w : World) (e : Ending) (w' : World) : Prop := ∃ g, e = .returned (.agg #[.int .i64 0, .slice (some ⟨g, 0, none⟩) 2 2, .int .i64 2, .int .i64 5]) ∧ SpR w' (fun q => w.heap.size ≤ q ∧ q < w'.heap.size) (some ⟨g, 0, none⟩) 2 pP.lv ∧ Touch (fun _ => False) w w'
theorem plain14_any (w : World) : Calls Tryz.prog 36 #[] w (PlnP w) := by
  have HT := Lib.hid (((Touch.refl (fun _ => False) w).alloc (.cells #[.int .i64 0, .slice (some ⟨w.heap.size + 1, 0, none⟩) 2 2, .int .i64 2, .int .i64 5] 24)))
  go_enter Tryz.func36, Tryz.ntmps36
  go_wp2_with fail
  refine bodyPost_ret (v := .agg #[.int .i64 0, .slice (some ⟨w.heap.size + 1, 0, none⟩) 2 2, .int .i64 2, .int .i64 5]) (by simp [results, Tryz.results36, go_sem]) rfl ?_
  refine ⟨w.heap.size + 1, rfl, ?_, HT.out.alloc _⟩
  have := row2 (w.alloc (.cells #[.int .i64 0, .slice (some ⟨w.heap.size + 1, 0, none⟩) 2 2, .int .i64 2, .int .i64 5] 24)) 68
  simp only [World.size_alloc] at this
  exact this.mono (fun q hq => by simp; omega)
end Go.Proofs.YtlcefchbfjfifaaGreat
end

section
namespace Go.Proofs.YtlcefchbfjfifaaGreat
open Go.RowKit Cal Go.Maps
set_option maxHeartbeats 4000000
set_option maxRecDepth 100000
set_option linter.unusedVariables false
attribute [local irreducible] wpPlan

/-- The example's state: the shelf; the contract's cells at pc, its row. -/
structure LvS (w0 w : World) (lo pc gP g b1 b2 : Nat) (S : Shl) (x : Int → Nat) (R X : Nat → Prop) : Prop where
  sh : ShAt w g b1 b2 S x R X (fun _ => False)
  row : SpR w (fun q => lo ≤ q ∧ q < pc) (some ⟨gP, 0, none⟩) 2 pP.lv
  blk : Blk w pc 24 #[.int .i64 1, .slice (some ⟨gP, 0, none⟩) 2 2, .int .i64 2, .int .i64 5]
  b1 : w0.heap.size ≤ b1 ∧ b1 < lo
  b2 : w0.heap.size ≤ b2 ∧ b2 < lo
  lp : lo ≤ pc
  X : ∀ q, X q → pc < q
  t : Touch (fun _ => False) w0 w
theorem LvS.far {w0 w w' : World} {lo pc gP g b1 b2 : Nat} {S : Shl} {x : Int → Nat} {R X : Nat → Prop} (h : LvS w0 w lo pc gP g b1 b2 S x R X) (t : Touch (fun _ => False) w w') : LvS w0 w' lo pc gP g b1 b2 S x R X :=
  ⟨h.sh.far t, h.row.touch t (fun _ _ e => e), t.blk h.blk (fun e => e), h.b1, h.b2, h.lp, h.X, h.t.trans t (fun _ _ e => e)⟩
theorem LvS.step {w0 w w' : World} {lo pc gP g b1 b2 bb : Nat} {S S' : Shl} {x : Int → Nat} {R X : Nat → Prop} {v : Value} {e : Ending} (h : LvS w0 w lo pc gP g b1 b2 S x R X) (hb : w0.heap.size ≤ bb ∧ bb < lo) (hp : HsP v g b1 b2 S' R X (fun _ => False) (fun q => q = bb) w e w') : ∃ x' R' X', e = .returned v ∧ LvS w0 w' lo pc gP g b1 b2 S' x' R' X' := by
  obtain ⟨x', R', X', he, hs, hR, hX, t⟩ := hp
  have hl := h.lp
  have hbl := h.blk.lt
  exact ⟨x', R', X', he, hs, h.row.touch t (fun q hq e => by omega), t.blk h.blk (by omega), h.b1, h.b2, h.lp, fun q hq => by rcases hX q hq with h' | h'; exact h.X q h'; omega, h.t.trans t (fun q hq e => by omega)⟩
theorem lives14_any (w : World) : Calls Tryz.prog 8 #[] w fun e w' => e = .returned (.bool true) ∧ Touch (fun _ => False) w w' := by
  go_enter Tryz.func8, Tryz.ntmps8
  go_wp2_with fail
  refine (hnew_any _).mono ?_
  rintro e w1 ⟨g, b1, b2, rfl, hs, hg, h1, h2, t1⟩
  have HS1 := Lib.hid hs
  have HT1 := Lib.hid t1
  have h1l := hs.m1.lt
  have h2l := hs.m2.lt
  clear hs t1
  go_wp2_with fail
  refine (plain14_any _).mono ?_
  rintro e w2 ⟨gP, rfl, hr, t2⟩
  have HR2 := Lib.hid hr
  have HT2 := Lib.hid t2
  clear hr t2
  go_wp2_with fail
  obtain ⟨W3, hW3⟩ : ∃ W3, W3 = w2.alloc (.cells #[.int .i64 1, .slice (some ⟨gP, 0, none⟩) 2 2, .int .i64 2, .int .i64 5] 24) := ⟨_, rfl⟩
  have t3 : Touch (fun _ => False) w2 W3 := hW3 ▸ (Touch.refl _ w2).alloc _
  have HL3 := Lib.hid (show LvS w W3 w1.heap.size w2.heap.size gP g b1 b2 Shl.nil (fun _ => 0) (fun _ => False) (fun _ => False) from
    ⟨(HS1.out.far HT2.out).far t3, HR2.out.touch t3 (fun _ _ e => e), hW3 ▸ Blk.new w2 _ _, ⟨h1, h1l⟩, ⟨h2, h2l⟩, HT2.out.size, (fun _ e => e.elim), (HT1.out.trans HT2.out (fun _ _ e => e)).trans t3 (fun _ _ e => e)⟩)
  rw [← hW3]
  obtain ⟨pc, hpc⟩ : ∃ pc, pc = w2.heap.size := ⟨_, rfl⟩
  obtain ⟨lo, hlo⟩ : ∃ lo, lo = w1.heap.size := ⟨_, rfl⟩
  rw [← hpc, ← hlo] at HL3
  rw [← hpc]
  clear t3 hW3 HS1 HT1 HR2 HT2 hpc hlo hg h1 h2 h1l h2l
  have hin : inN 0 := by unfold inN; omega
  have hin1 : inN 1 := by unfold inN; omega
  have HSg := Lib.hid (fun (w' : World) (S : Shl) (x : Int → Nat) (R X : Nat → Prop) (h : LvS w w' lo pc gP g b1 b2 S x R X) => (show Calls Tryz.prog 26 #[.pointer (some ⟨g, 0, none⟩), .int .i64 0, .agg #[.int .i64 1, .slice (some ⟨gP, 0, none⟩) 2 2, .int .i64 2, .int .i64 5]] w' (HsP (.int .i64 (sigE S 0 pP)) g b1 b2 (S.sigS 0 pP) R X (fun _ => False) (fun q => q = b2) w') from hsign_any h.sh 0 hin _ (some ⟨gP, 0, none⟩) 2 pP h.row))
  refine (HSg.out _ _ _ _ _ HL3.out).mono ?_
  intro e w4 hp
  rw [lvE_1.1, lvE_1.2] at hp
  obtain ⟨x4, R4, X4, rfl, hl4⟩ := HL3.out.step HL3.out.b2 hp
  have HL4 := Lib.hid hl4
  clear hp hl4 HL3
  go_wp2_with fail
  have HRw := Lib.hid (show CaR (w4.alloc (.cells #[.int .i64 10, .int .i64 20] 92)) (fun q => q = w4.heap.size) cL (some ⟨w4.heap.size, 0, none⟩) none from ⟨row1 w4 _, SpR.nil _ _ _⟩)
  have HL4a := Lib.hid (HL4.out.far ((Touch.refl (fun _ => False) w4).alloc (.cells #[.int .i64 10, .int .i64 20] 92)))
  have hla := (show Calls Tryz.prog 25 #[.pointer (some ⟨g, 0, none⟩), .int .i64 1, .agg #[.int .i64 0, .slice (some ⟨w4.heap.size, 0, none⟩) 1 1, .slice none 0 0]] (w4.alloc (.cells #[.int .i64 10, .int .i64 20] 92)) (HsP (.int .i64 (layE Shl.nil 1 cL)) g b1 b2 (Shl.nil.layS 1 cL) R4 X4 (fun _ => False) (fun q => q = b1) _) from hlay_any HL4a.out.sh 1 hin1 _ (some ⟨w4.heap.size, 0, none⟩) none 1 0 cL HRw.out (by decide) (by decide))
  refine hla.mono ?_
  intro e w5 hp
  rw [lvE_2.1, lvE_2.2] at hp
  obtain ⟨x5, R5, X5, rfl, hl5⟩ := HL4a.out.step HL4a.out.b1 hp
  have HL5 := Lib.hid hl5
  have y0 := hl5.blk.cell 0; have y1 := hl5.blk.cell 1; have y2 := hl5.blk.cell 2; have y3 := hl5.blk.cell 3
  simp at y0 y1 y2 y3
  clear hp hl5 HL4 HL4a hla HRw
  go_wp2_with fail
  refine (HSg.out _ _ _ _ _ HL5.out).mono ?_
  intro e w6 hp
  rw [lvE_3.1, lvE_3.2] at hp
  obtain ⟨x6, R6, X6, rfl, hl6⟩ := HL5.out.step HL5.out.b2 hp
  have HL6 := Lib.hid hl6
  clear hp hl6 HL5 y0 y1 y2 y3
  go_wp2_with fail
  have hck := hclock_yes HL6.out.sh 0 hin (c := pP) rfl (d := cL) rfl
  refine hck.mono ?_
  rintro e w7 ⟨k, a, p, b, R7, Y7, rfl, hs7, hk7, hY7, hR7, hy7, t7⟩
  have hx6 : pc < x6 pP.cal := HL6.out.X _ (HL6.out.sh.xX _ cL rfl)
  have hx6l := HL6.out.sh.lt _ (.inr (.inl (HL6.out.sh.xX pP.cal cL rfl)))
  have hpl := HL6.out.blk.lt
  have hlp := HL6.out.lp
  have HK7 := Lib.hid hk7
  have HR7 := Lib.hid (HL6.out.row.touch t7 (fun q hq e => by omega))
  have HB7 := Lib.hid (t7.blk HL6.out.blk (by omega))
  have hb7 : pc < b ∧ w.heap.size ≤ b := by
    have := HL6.out.t.size
    rcases hy7 b hY7 with h | h
    · exact h.elim
    · omega
  have hb1 := HL6.out.b1
  have HT7 := Lib.hid (HL6.out.t.trans t7 (fun q hq e => by omega))
  clear hs7 hk7 hY7 hR7 hy7 t7 hck HL6
  go_wp2_with fail
  have hdu := (cL_due1 ▸ cdue_any k a p b cL R7 0 5 w7 HK7.out (by omega) : Calls Tryz.prog 37 #[.pointer (some ⟨k, 0, none⟩), .int .i64 0, .int .i64 5] w7 (Ck2 k a p b cL R7 (15, 0) w7))
  refine hdu.mono ?_
  rintro e w8 ⟨rfl, -, t8⟩
  have HR8 := Lib.hid (HR7.out.touch t8 (fun q hq e => by omega))
  have hb8 := t8.blk HB7.out (by omega)
  have HT8 := Lib.hid (HT7.out.trans t8 (fun q hq e => by omega))
  have y0 := hb8.cell 0; have y1 := hb8.cell 1; have y2 := hb8.cell 2; have y3 := hb8.cell 3
  simp at y0 y1 y2 y3
  clear t8 hb8 hdu
  have HCk := Lib.hid (show Calls Tryz.prog 9 #[.agg #[.int .i64 1, .slice (some ⟨gP, 0, none⟩) 2 2, .int .i64 2, .int .i64 5]] w8 fun e w' => e = .returned (.int .i64 0) ∧ Touch (fun _ => False) w8 w' from kcheck_any _ (some ⟨gP, 0, none⟩) 2 pP w8 HR8.out)
  go_wp2_with (go_at_call 9; go_must (refine HCk.out.mono ?_); rintro e w9 ⟨rfl, t9⟩; have HT9 := Lib.hid (HT8.out.trans t9 (fun _ _ e => e)); clear t9)
  go_ret
  exact ⟨rfl, HT9.out⟩
end Go.Proofs.YtlcefchbfjfifaaGreat
end

section
namespace Go.Proofs.YtlcefchbfjfifaaGreat
open Go.RowKit Cal Go.Maps
set_option maxHeartbeats 4000000
set_option maxRecDepth 100000
set_option linter.unusedVariables false
attribute [local irreducible] wpPlan

/-! As in QuillN0 (never import it beside this). -/
theorem nil_bad (w : World) : Calls Tryz.prog 21 #[.pointer none] w fun e w' => e = .returned (.bool false) ∧ w = w' := by
  go_enter Tryz.func21, Tryz.ntmps21
  go_wp2
  go_ret
  simp
theorem nil_fail (w : World) : Calls Tryz.prog 44 #[.pointer none] w fun e w' => e = .returned (.tuple #[]) ∧ w = w' := by
  go_enter Tryz.func44, Tryz.ntmps44
  go_wp2
  go_end0
  simp
theorem nil_left (w : World) : Calls Tryz.prog 20 #[.pointer none] w fun e w' => e = .returned (.int .i64 0) ∧ w = w' := by
  go_enter Tryz.func20, Tryz.ntmps20
  go_wp2
  go_ret
  simp
theorem nil_number (w : World) (most : Nat) (m : Bool) : Calls Tryz.prog 79 #[.pointer none, .int .u64 most, .bool m] w fun e w' => e = .returned (.tuple #[.int .u64 0, .bool false]) ∧ w = w' := by
  go_enter Tryz.func79, Tryz.ntmps79
  go_wp2_with (first
    | (go_at_call 20; refine (nil_left _).mono ?_; rintro e w' ⟨rfl, rfl⟩)
    | (go_at_call 44; refine (nil_fail _).mono ?_; rintro e w' ⟨rfl, rfl⟩))
  go_ret2
  simp
theorem nil_num (w : World) (most : Nat) : Calls Tryz.prog 43 #[.pointer none, .int .u64 most] w fun e w' => e = .returned (.int .u64 0) ∧ w = w' := by
  go_enter Tryz.func43, Tryz.ntmps43
  go_wp2_with (go_at_call 79; refine (nil_number _ _ _).mono ?_; rintro e w' ⟨rfl, rfl⟩)
  go_ret
  simp
def NoSh (w : World) (v : Value) : Prop := v = .pointer none ∨ ∃ g, v = .pointer (some ⟨g, 0, none⟩) ∧ w.cell? ⟨g, 0, none⟩ = some (.map none) ∧ g < w.heap.size
theorem NoSh.far {w w' : World} {v : Value} (h : NoSh w v) (t : Touch (fun _ => False) w w') : NoSh w' v := by
  rcases h with h | ⟨g, h, hc, hg⟩
  · exact .inl h
  · exact .inr ⟨g, h, (t.cell (p := ⟨g, 0, none⟩) hg (fun e => e)).trans hc, Nat.lt_of_lt_of_le hg t.size⟩
theorem nnoneS {w : World} {v : Value} (h : NoSh w v) : Calls Tryz.prog 52 #[v] w fun e w' => e = .returned (.bool true) ∧ w = w' := by
  have hbin : ∀ w, (binOp .eql 73 (.map none) (.map none)).run Tryz.prog w = .ok (.bool true) w := fun w => by first | rfl | simp [go_sem]
  rcases h with rfl | ⟨g, rfl, hc, hg⟩
  · go_enter Tryz.func52, Tryz.ntmps52
    go_wp2
    go_ret
    exact ⟨rfl, rfl⟩
  · go_enter Tryz.func52, Tryz.ntmps52
    go_wp2
    go_ret
    exact ⟨rfl, rfl⟩
theorem nlayS {w : World} {v : Value} (h : NoSh w v) (n : Int) (C : Array Value) : Calls Tryz.prog 25 #[v, .int .i64 n, .agg C] w fun e w' => e = .returned (.int .i64 1) ∧ Touch (fun _ => False) w w' := by
  have HT := Lib.hid ((Touch.refl (fun _ => False) w).alloc (.cells C 51))
  have HN := Lib.hid (nnoneS (h.far HT.out))
  clear h
  go_enter Tryz.func25, Tryz.ntmps25
  go_wp2_with (go_at_call 52; go_must (refine HN.out.mono ?_); rintro e w1 ⟨rfl, rfl⟩)
  go_ret
  exact ⟨rfl, HT.out⟩
theorem nsignS {w : World} {v : Value} (h : NoSh w v) (n : Int) (C : Array Value) : Calls Tryz.prog 26 #[v, .int .i64 n, .agg C] w fun e w' => e = .returned (.int .i64 1) ∧ Touch (fun _ => False) w w' := by
  have HT := Lib.hid ((Touch.refl (fun _ => False) w).alloc (.cells C 24))
  have HN := Lib.hid (nnoneS (h.far HT.out))
  clear h
  go_enter Tryz.func26, Tryz.ntmps26
  go_wp2_with (go_at_call 52; go_must (refine HN.out.mono ?_); rintro e w1 ⟨rfl, rfl⟩)
  go_ret
  exact ⟨rfl, HT.out⟩
theorem ntermsS {w : World} {v : Value} (h : NoSh w v) (n : Int) : Calls Tryz.prog 27 #[v, .int .i64 n] w fun e w' => e = .returned (.tuple #[.agg #[.int .i64 0, .slice none 0 0, .int .i64 0, .int .i64 0], .bool false]) ∧ Touch (fun _ => False) w w' := by
  have HT := Lib.hid ((Touch.refl (fun _ => False) w).alloc (.cells #[.int .i64 0, .slice none 0 0, .int .i64 0, .int .i64 0] 24))
  have HN := Lib.hid (nnoneS (h.far HT.out))
  clear h
  go_enter Tryz.func27, Tryz.ntmps27
  go_wp2_with (go_at_call 52; go_must (refine HN.out.mono ?_); rintro e w1 ⟨rfl, rfl⟩)
  refine bodyPost_ret (v := .tuple #[.agg #[.int .i64 0, .slice none 0 0, .int .i64 0, .int .i64 0], .bool false]) (by simp [results, Tryz.results27, go_sem]) rfl ?_
  exact ⟨rfl, HT.out⟩
theorem nplainS {w : World} {v : Value} (h : NoSh w v) (n : Int) : Calls Tryz.prog 31 #[v, .int .i64 n] w fun e w' => e = .returned (.tuple #[.agg #[.int .i64 0, .slice none 0 0, .slice none 0 0], .bool false]) ∧ Touch (fun _ => False) w w' := by
  have HT := Lib.hid ((Touch.refl (fun _ => False) w).alloc (.cells #[.int .i64 0, .slice none 0 0, .slice none 0 0] 51))
  have HN := Lib.hid (nnoneS (h.far HT.out))
  clear h
  go_enter Tryz.func31, Tryz.ntmps31
  go_wp2_with (go_at_call 52; go_must (refine HN.out.mono ?_); rintro e w1 ⟨rfl, rfl⟩)
  refine bodyPost_ret (v := .tuple #[.agg #[.int .i64 0, .slice none 0 0, .slice none 0 0], .bool false]) (by simp [results, Tryz.results31, go_sem]) rfl ?_
  exact ⟨rfl, HT.out⟩
theorem nclockS {w : World} {v : Value} (h : NoSh w v) (n : Int) : Calls Tryz.prog 32 #[v, .int .i64 n] w fun e w' => e = .returned (.tuple #[.pointer none, .bool false]) ∧ Touch (fun _ => False) w w' := by
  have HN := Lib.hid (ntermsS h n)
  clear h
  go_enter Tryz.func32, Tryz.ntmps32
  go_wp2_with (go_at_call 27; go_must (refine HN.out.mono ?_); rintro e w1 ⟨rfl, t1⟩; have HT := Lib.hid (t1.alloc (.cells #[.int .i64 0, .slice none 0 0, .int .i64 0, .int .i64 0] 24)); clear t1)
  refine bodyPost_ret (v := .tuple #[.pointer none, .bool false]) (by simp [results, Tryz.results32, go_sem]) rfl ?_
  exact ⟨rfl, HT.out⟩
theorem ncloneS (w : World) : Calls Tryz.prog 28 #[.pointer none] w fun e w' => e = .returned (.pointer (some ⟨w.heap.size, 0, none⟩)) ∧ NoSh w' (.pointer (some ⟨w.heap.size, 0, none⟩)) ∧ Touch (fun _ => False) w w' := by
  have HN := Lib.hid (nnoneS (w := w) (v := .pointer none) (.inl rfl))
  have hb := Blk.new w 76 #[.map none, .map none]
  have HS := Lib.hid (show NoSh (w.alloc (.cells #[.map none, .map none] 76)) (.pointer (some ⟨w.heap.size, 0, none⟩)) from .inr ⟨_, rfl, hb.cell 0, hb.lt⟩)
  have HT := Lib.hid ((Touch.refl (fun _ => False) w).alloc (.cells #[.map none, .map none] 76))
  clear hb
  go_enter Tryz.func28, Tryz.ntmps28
  go_wp2_with (go_at_call 52; go_must (refine HN.out.mono ?_); rintro e w1 ⟨rfl, rfl⟩)
  go_ret
  exact ⟨rfl, HS.out, HT.out⟩
theorem nputS {w : World} {v : Value} (h : NoSh w v) (u : Value) : Calls Tryz.prog 60 #[v, u] w fun e w' => e = .returned (.tuple #[]) ∧ w = w' := by
  have HN := Lib.hid (nnoneS h)
  clear h
  go_enter Tryz.func60, Tryz.ntmps60
  go_wp2_with (go_at_call 52; go_must (refine HN.out.mono ?_); rintro e w1 ⟨rfl, rfl⟩)
  exact bodyPost_ret (v := .tuple #[]) (results_none (by rfl) _ _ _) rfl ⟨rfl, rfl⟩
theorem nbytesS {w : World} {v : Value} (h : NoSh w v) : Calls Tryz.prog 29 #[v] w fun e w' => e = .returned (.string ⟨#[]⟩) ∧ Touch (fun _ => False) w w' := by
  have ta := (Touch.refl (fun _ => False) w).alloc (.cells #[.slice none 0 0] 33)
  have HT := Lib.hid ta
  have HP := Lib.hid (fun u => nputS (h.far ta) u)
  have HW0 := Lib.hid (show WAt (w.alloc (.cells #[.slice none 0 0] 33)) w.heap.size none [] from ⟨by simp, _, Blk.new w 33 #[.slice none 0 0], Own.nil _ _ _⟩)
  clear h ta
  go_enter Tryz.func29, Tryz.ntmps29
  go_wp2_with (first
    | (go_at_call 60; go_must (refine (HP.out _).mono ?_); rintro e w1 ⟨rfl, rfl⟩)
    | (go_at_call 17; go_must (refine (wbytes_any w.heap.size none [] _ (by exact HW0.out) (by simp)).mono ?_)
       rintro e w2 ⟨A8, c8, rfl, u8, m8, hr8, t8⟩
       simp only [List.map_nil, List.length_nil] at hr8 ⊢
       have hs := Rd.str (l := []) (n := 0) hr8 c8
       have HT2 := Lib.hid (HT.out.trans t8 (fun _ _ e => e))
       clear u8 m8 hr8 t8))
  go_ret
  exact ⟨rfl, HT2.out⟩
theorem nloadS (w : World) : Calls Tryz.prog 33 #[.pointer none] w fun e w' => e = .returned (.tuple #[.pointer none, .bool false]) ∧ Touch (fun _ => False) w w' := by
  have hmf : ∀ (fn : Fn) (first cap : Array Value) (w : World), (Instr.makeFunc fn first cap).run Tryz.prog w = .ok (.func fn first cap) w := fun _ _ _ _ => rfl
  go_enter Tryz.func33, Tryz.ntmps33
  go_wp2_with (first
    | (go_at_call 23; go_must (refine (hnew_any _).mono ?_); rintro e w1 ⟨g, b1, b2, rfl, -, -, -, -, t1⟩; have HT := Lib.hid (t1.alloc (.cells #[.int .i64 (-1)] 3)); have hwl := t1.size; clear t1)
    | (go_at_call 43; go_must (refine (nil_num _ _).mono ?_); rintro e w2 ⟨rfl, rfl⟩))
  obtain ⟨W, hW⟩ : ∃ W, W = w1.alloc (.cells #[.int .i64 (-1)] 3) := ⟨_, rfl⟩
  have HW := Lib.hid hW
  rw [← hW]
  rw [← hW] at HT
  have hbW : Blk W w1.heap.size 3 #[.int .i64 (-1)] := hW ▸ Blk.new w1 _ _
  have x0 := hbW.cell 0
  have f0 := hbW.frozen 0
  simp at x0
  have ts := (Touch.refl (fun q => q = w1.heap.size) W).set (b := w1.heap.size) (o := 0) (fun _ => rfl) (.int .i64 (-1))
  have HT2 := Lib.hid (HT.out.trans ts (S := fun _ => False) (fun k hk e => by omega))
  clear hW hbW
  go_loopw [7, 20] (fun v i wr => v = .bool false ∧ i = .int .u64 0 ∧ W = wr) (fun _ _ _ => 0)
  case atStart => exact ⟨rfl, rfl, rfl⟩
  case round =>
    obtain ⟨rfl, rfl, rfl⟩ := hrel
    go_wp2_with (go_at_call 43; go_must (refine (nil_num _ _).mono ?_); rintro e w2 ⟨rfl, rfl⟩)
    obtain ⟨W2, hW2⟩ : ∃ W2, W2 = W.setCell ⟨w1.heap.size, 0, none⟩ (.int .i64 (-1)) := ⟨_, rfl⟩
    rw [← hW2]
    rw [← hW2] at HT2
    clear hW2 x0 f0 ts
    go_loopw [7, 49] (fun v i wr => v = .bool false ∧ i = .int .u64 0 ∧ W2 = wr) (fun _ _ _ => 0)
    case atStart => exact ⟨rfl, rfl, rfl⟩
    case round =>
      obtain ⟨rfl, rfl, rfl⟩ := hrel
      go_wp2_with (first
        | (go_at_call 21; go_must (refine (nil_bad _).mono ?_); rintro e w3 ⟨rfl, rfl⟩)
        | (go_at_call 44; go_must (refine (nil_fail _).mono ?_); rintro e w3 ⟨rfl, rfl⟩))
      refine bodyPost_ret (v := .tuple #[.pointer none, .bool false]) (by simp [results, Tryz.results33, go_sem]) rfl ?_
      exact ⟨rfl, HT2.out⟩
end Go.Proofs.YtlcefchbfjfifaaGreat
end

section
namespace Go.Proofs.YtlcefchbfjfifaaGreat
open Go.RowKit Go.ChangeShapes Go.WideShapes Go.ChangeAt Go.Deep Cal
set_option maxHeartbeats 4000000
set_option maxRecDepth 100000
set_option linter.unusedVariables false
section
variable {H : Type} {enc : TypeId × Value → H} {w : World} {spare : Nat → Bool} {held : Bool}
theorem elem_i64c {P : Program} {e : TypeId} (he : P.underlying e = some (.int .i64)) {fuel : Nat} {cs : List Value} {x : DataW H × List MemPlace} (h : DataW.trod enc P w 0 spare held fuel e cs = some x) : ∃ n : Int, cs = [.int .i64 n] ∧ -9223372036854775808 ≤ n ∧ n ≤ 9223372036854775807 := by
  obtain ⟨n, rfl, _, hw⟩ := DataW.trod_int he h
  simp [Lit.wf, IntKind.min, IntKind.max, IntKind.signed, IntKind.bits] at hw
  exact ⟨n, rfl, by omega⟩
theorem elem_span {fuel : Nat} {cs : List Value} {x : DataW H × List MemPlace} (h : DataW.trod enc Tryz.prog w 0 spare held fuel 92 cs = some x) : ∃ s : Sp, cs = spC s ∧ True := by
  obtain ⟨ys, n, _, _, hlen, hyl, hf⟩ := DataW.trod_struct Tryz.underlying92 h
  rw [show Tryz.prog.cellsOf 92 = 2 from by kernel_rfl] at hlen
  match cs, hlen, ys, hyl with
  | [c0, c1], _, [y0, y1], _ =>
    have k0 := hf 0 _ rfl; have k1 := hf 1 _ rfl
    have z2 : Tryz.prog.cellsOf 2 = 1 := by kernel_rfl
    simp [z2] at k0 k1
    obtain ⟨n0, e0, o0⟩ := elem_i64c Tryz.underlying2 k0
    obtain ⟨n1, e1, o1⟩ := elem_i64c Tryz.underlying2 k1
    injection e0 with e0 _; injection e1 with e1 _
    subst e0 e1
    exact ⟨⟨n0, n1⟩, rfl, trivial⟩
/-- A field that is a row of spans. -/
theorem field_spans {fuel : Nat} {v : Value} {x : DataW H × List MemPlace} (h : DataW.trod enc Tryz.prog w 0 spare held fuel 49 [v] = some x) :
    ∃ A c, ∃ l : List Sp, v = .slice A l.length c ∧ SpR w (fun k => k < w.heap.size) A l.length l := by
  have hv : ∃ A n c, v = .slice A n c := by
    rcases open_slice Tryz.underlying49 h with ⟨hcs, _⟩ | ⟨a, len, cap, m, k, D, Pl, hcs, _⟩
    · injection hcs with hcs _; exact ⟨_, _, _, hcs⟩
    · injection hcs with hcs _; exact ⟨_, _, _, hcs⟩
  obtain ⟨A, n, c, rfl⟩ := hv
  obtain ⟨l, hl, ho, -, h1, h2, h3, h4⟩ := open_list spC (fun _ => True) (H := H) (enc := enc) (P := Tryz.prog) (w := w) (spare := spare) (held := held) (d := x.1) (ps := x.2) Tryz.underlying49 (sz := 2) (by kernel_rfl) (by decide) (fun _ _ _ hx => elem_span hx) A n c rfl ⟨fuel, by simpa [Value.cells] using h⟩
  subst hl
  exact ⟨A, c, l, rfl, rfl, h4⟩
theorem open_cal {fuel : Nat} {cs : List Value} {x : DataW H × List MemPlace} (h : DataW.trod enc Tryz.prog w 0 spare held fuel 51 cs = some x) :
    ∃ (a : Ca) (A B : Option Addr) (c m : Nat), cs = [.int .i64 a.off, .slice A a.wk.length c, .slice B a.cl.length m] ∧ CaR w (fun k => k < w.heap.size) a A B ∧ -9223372036854775808 ≤ a.off ∧ a.off ≤ 9223372036854775807 := by
  obtain ⟨ys, n, _, _, hlen, hyl, hf⟩ := DataW.trod_struct Tryz.underlying51 h
  rw [show Tryz.prog.cellsOf 51 = 3 from by kernel_rfl] at hlen
  match cs, hlen, ys, hyl with
  | [c0, c1, c2], _, [y0, y1, y2], _ =>
    have k0 := hf 0 _ rfl; have k1 := hf 1 _ rfl; have k2 := hf 2 _ rfl
    have z0 : Tryz.prog.cellsOf 2 = 1 := by kernel_rfl
    have z3 : Tryz.prog.cellsOf 49 = 1 := by kernel_rfl
    simp [z0, z3] at k0 k1 k2
    obtain ⟨n0, e0, o0⟩ := elem_i64c Tryz.underlying2 k0
    obtain ⟨A, c, l, rfl, q1⟩ := field_spans k1
    obtain ⟨B, m, l2, rfl, q2⟩ := field_spans k2
    injection e0 with e0 _
    subst e0
    exact ⟨⟨n0, l, l2⟩, A, B, c, m, rfl, ⟨q1, q2⟩, o0⟩
end
end Go.Proofs.YtlcefchbfjfifaaGreat
end

section
namespace Go.Proofs.YtlcefchbfjfifaaGreat
open Go.RowKit Go.ChangeShapes Go.WideShapes Go.ChangeAt Go.Deep Cal
set_option maxHeartbeats 4000000
set_option maxRecDepth 100000
set_option linter.unusedVariables false
section
variable {H : Type} {enc : TypeId × Value → H} {w : World} {spare : Nat → Bool} {held : Bool}
theorem elem_level {fuel : Nat} {cs : List Value} {x : DataW H × List MemPlace} (h : DataW.trod enc Tryz.prog w 0 spare held fuel 68 cs = some x) : ∃ s : Sp, cs = spC s ∧ True := by
  obtain ⟨ys, n, _, _, hlen, hyl, hf⟩ := DataW.trod_struct Tryz.underlying68 h
  rw [show Tryz.prog.cellsOf 68 = 2 from by kernel_rfl] at hlen
  match cs, hlen, ys, hyl with
  | [c0, c1], _, [y0, y1], _ =>
    have k0 := hf 0 _ rfl; have k1 := hf 1 _ rfl
    have z2 : Tryz.prog.cellsOf 2 = 1 := by kernel_rfl
    have z3 : Tryz.prog.cellsOf 3 = 1 := by kernel_rfl
    simp [z2, z3] at k0 k1
    obtain ⟨n0, e0, o0⟩ := elem_i64c Tryz.underlying2 k0
    obtain ⟨n1, e1, o1⟩ := elem_i64c Tryz.underlying3 k1
    injection e0 with e0 _; injection e1 with e1 _
    subst e0 e1
    exact ⟨⟨n0, n1⟩, rfl, trivial⟩
/-- A field that is a row of levels. -/
theorem field_levels {fuel : Nat} {v : Value} {x : DataW H × List MemPlace} (h : DataW.trod enc Tryz.prog w 0 spare held fuel 22 [v] = some x) :
    ∃ A c, ∃ l : List Sp, v = .slice A l.length c ∧ SpR w (fun k => k < w.heap.size) A l.length l ∧ l.length ≤ c ∧ c ≤ maxLen := by
  have hv : ∃ A n c, v = .slice A n c := by
    rcases open_slice Tryz.underlying22 h with ⟨hcs, _⟩ | ⟨a, len, cap, m, k, D, Pl, hcs, _⟩
    · injection hcs with hcs _; exact ⟨_, _, _, hcs⟩
    · injection hcs with hcs _; exact ⟨_, _, _, hcs⟩
  obtain ⟨A, n, c, rfl⟩ := hv
  obtain ⟨l, hl, ho, -, h1, h2, h3, h4⟩ := open_list spC (fun _ => True) (H := H) (enc := enc) (P := Tryz.prog) (w := w) (spare := spare) (held := held) (d := x.1) (ps := x.2) Tryz.underlying22 (sz := 2) (by kernel_rfl) (by decide) (fun _ _ _ hx => elem_level hx) A n c rfl ⟨fuel, by simpa [Value.cells] using h⟩
  subst hl
  exact ⟨A, c, l, rfl, ⟨rfl, h4⟩, h2, h3⟩
theorem open_con {fuel : Nat} {cs : List Value} {x : DataW H × List MemPlace} (h : DataW.trod enc Tryz.prog w 0 spare held fuel 24 cs = some x) :
    ∃ (a : Co) (A : Option Addr) (c : Nat), cs = [.int .i64 a.cal, .slice A a.lv.length c, .int .i64 a.rt, .int .i64 a.bk] ∧ SpR w (fun k => k < w.heap.size) A a.lv.length a.lv ∧ a.lv.length ≤ c ∧ c ≤ maxLen := by
  obtain ⟨ys, n, _, _, hlen, hyl, hf⟩ := DataW.trod_struct Tryz.underlying24 h
  rw [show Tryz.prog.cellsOf 24 = 4 from by kernel_rfl] at hlen
  match cs, hlen, ys, hyl with
  | [c0, c1, c2, c3], _, [y0, y1, y2, y3], _ =>
    have k0 := hf 0 _ rfl; have k1 := hf 1 _ rfl; have k2 := hf 2 _ rfl; have k3 := hf 3 _ rfl
    have z0 : Tryz.prog.cellsOf 2 = 1 := by kernel_rfl
    have z1 : Tryz.prog.cellsOf 3 = 1 := by kernel_rfl
    have z3 : Tryz.prog.cellsOf 22 = 1 := by kernel_rfl
    simp [z0, z1, z3] at k0 k1 k2 k3
    obtain ⟨n0, e0, o0⟩ := elem_i64c Tryz.underlying3 k0
    obtain ⟨A, c, l, rfl, q1⟩ := field_levels k1
    obtain ⟨n2, e2, o2⟩ := elem_i64c Tryz.underlying3 k2
    obtain ⟨n3, e3, o3⟩ := elem_i64c Tryz.underlying2 k3
    injection e0 with e0 _; injection e2 with e2 _; injection e3 with e3 _
    subst e0 e2 e3
    exact ⟨⟨n0, l, n2, n3⟩, A, c, rfl, q1⟩
end
end Go.Proofs.YtlcefchbfjfifaaGreat
end
