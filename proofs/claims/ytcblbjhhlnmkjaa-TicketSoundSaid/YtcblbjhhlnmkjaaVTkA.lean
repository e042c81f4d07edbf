/- Package ticket: step, with. (written by gentka.py) -/
import Derived.Test.YtcblbjhhlnmkjaaVChB
import Derived.Test.YtcblbjhhlnmkjaaVRepA
namespace Go.Proofs.Ytcblbjhhlnmkjaa
open Go.RowKit Cal
set_option maxHeartbeats 4000000
set_option maxRecDepth 100000
set_option linter.unusedVariables false
attribute [local irreducible] wpPlan

def TkV.z : TkV := ⟨0, 0, 0, 0, 0, 0, 0, 0, 0⟩
def TkV.st (t : TkV) : St := ⟨t.level, t.from_, t.left, t.due⟩
def withV (t : TkV) (state : Int) (s : St) (e : Int) : TkV × Int := if e = 0 then (⟨t.id, t.contract, state, s.lv, 0, s.fr, s.le, s.du, t.told⟩, 0) else (TkV.z, e)
theorem tstep_any (t : TkV) (w : World) : Calls Try.prog 100 #[.agg #[.int .u64 t.id, .int .i64 t.contract, .int .i64 t.state, .int .i64 t.level, .int .u64 t.gen, .int .i64 t.from_, .int .i64 t.left, .int .i64 t.due, .int .i64 t.told]] w fun e w' => e = .returned (.agg #[.int .i64 t.level, .int .i64 t.from_, .int .i64 t.left, .int .i64 t.due]) ∧ Touch (fun _ => False) w w' := by
  obtain ⟨id, con, st, lev, gen, fr, le, du, to_⟩ := t
  simp only
  have HT := Lib.hid ((Touch.refl (fun _ => False) w).alloc (.cells #[.int .u64 id, .int .i64 con, .int .i64 st, .int .i64 lev, .int .u64 gen, .int .i64 fr, .int .i64 le, .int .i64 du, .int .i64 to_] 74))
  go_enter Try.func100, Try.ntmps100
  go_wp2_with fail
  refine bodyPost_ret (v := .agg #[.int .i64 lev, .int .i64 fr, .int .i64 le, .int .i64 du]) (by simp [results, Try.results100, go_sem]) rfl ?_
  exact ⟨rfl, HT.out.alloc _⟩
theorem with_any (t : TkV) (state : Int) (s : St) (e : Int) (w : World) : Calls Try.prog 99 #[.agg #[.int .u64 t.id, .int .i64 t.contract, .int .i64 t.state, .int .i64 t.level, .int .u64 t.gen, .int .i64 t.from_, .int .i64 t.left, .int .i64 t.due, .int .i64 t.told], .int .i64 state, .agg #[.int .i64 s.lv, .int .i64 s.fr, .int .i64 s.le, .int .i64 s.du], .int .i64 e] w fun en w' => en = .returned (.tuple #[.agg #[.int .u64 (withV t state s e).1.id, .int .i64 (withV t state s e).1.contract, .int .i64 (withV t state s e).1.state, .int .i64 (withV t state s e).1.level, .int .u64 (withV t state s e).1.gen, .int .i64 (withV t state s e).1.from_, .int .i64 (withV t state s e).1.left, .int .i64 (withV t state s e).1.due, .int .i64 (withV t state s e).1.told], .int .i64 (withV t state s e).2]) ∧ Touch (fun _ => False) w w' := by
  obtain ⟨id, con, st, lev, gen, fr, le, du, to_⟩ := t
  obtain ⟨slv, sfr, sle, sdu⟩ := s
  simp only
  have HT := Lib.hid (((Touch.refl (fun _ => False) w).alloc (.cells #[.int .u64 id, .int .i64 con, .int .i64 st, .int .i64 lev, .int .u64 gen, .int .i64 fr, .int .i64 le, .int .i64 du, .int .i64 to_] 74)).alloc (.cells #[.int .i64 slv, .int .i64 sfr, .int .i64 sle, .int .i64 sdu] 48))
  by_cases he : e = 0
  · subst he
    have HV := Lib.hid (show withV ⟨id, con, st, lev, gen, fr, le, du, to_⟩ state ⟨slv, sfr, sle, sdu⟩ 0 = (⟨id, con, state, slv, 0, sfr, sle, sdu, to_⟩, 0) from rfl)
    generalize withV ⟨id, con, st, lev, gen, fr, le, du, to_⟩ state ⟨slv, sfr, sle, sdu⟩ 0 = r at *
    go_enter Try.func99, Try.ntmps99
    go_wp2_with fail
    obtain ⟨W, hW⟩ : ∃ W, W = ((w.alloc (.cells #[.int .u64 id, .int .i64 con, .int .i64 state, .int .i64 lev, .int .u64 0, .int .i64 fr, .int .i64 le, .int .i64 du, .int .i64 to_] 74)).alloc (.cells #[.int .i64 slv, .int .i64 sfr, .int .i64 sle, .int .i64 sdu] 48)).alloc (.cells #[.int .u64 0, .int .i64 0, .int .i64 0, .int .i64 0, .int .u64 0, .int .i64 0, .int .i64 0, .int .i64 0, .int .i64 0] 74) := ⟨_, rfl⟩
    have HTW := Lib.hid (show Touch (fun _ => False) w W from hW ▸ (((Touch.refl _ w).alloc _).alloc _).alloc _)
    have hbx : Blk W w.heap.size 74 #[.int .u64 id, .int .i64 con, .int .i64 state, .int .i64 lev, .int .u64 0, .int .i64 fr, .int .i64 le, .int .i64 du, .int .i64 to_] := hW ▸ ((Blk.new w _ _).alloc _).alloc _
    have hby : Blk W (w.heap.size + 1) 48 #[.int .i64 slv, .int .i64 sfr, .int .i64 sle, .int .i64 sdu] := hW ▸ (by simpa using (Blk.new (w.alloc (.cells #[.int .u64 id, .int .i64 con, .int .i64 state, .int .i64 lev, .int .u64 0, .int .i64 fr, .int .i64 le, .int .i64 du, .int .i64 to_] 74)) 48 #[.int .i64 slv, .int .i64 sfr, .int .i64 sle, .int .i64 sdu]).alloc (.cells #[.int .u64 0, .int .i64 0, .int .i64 0, .int .i64 0, .int .u64 0, .int .i64 0, .int .i64 0, .int .i64 0, .int .i64 0] 74))
    have hbz : Blk W (w.heap.size + 2) 74 #[.int .u64 0, .int .i64 0, .int .i64 0, .int .i64 0, .int .u64 0, .int .i64 0, .int .i64 0, .int .i64 0, .int .i64 0] := hW ▸ (by simpa using Blk.new ((w.alloc (.cells #[.int .u64 id, .int .i64 con, .int .i64 state, .int .i64 lev, .int .u64 0, .int .i64 fr, .int .i64 le, .int .i64 du, .int .i64 to_] 74)).alloc (.cells #[.int .i64 slv, .int .i64 sfr, .int .i64 sle, .int .i64 sdu] 48)) 74 #[.int .u64 0, .int .i64 0, .int .i64 0, .int .i64 0, .int .u64 0, .int .i64 0, .int .i64 0, .int .i64 0, .int .i64 0])
    rw [← hW]
    have HBX := Lib.hid hbx
    have HBZ := Lib.hid hbz
    have x0 := hbx.cell 0; have x1 := hbx.cell 1; have x2 := hbx.cell 2; have x3 := hbx.cell 3; have x4 := hbx.cell 4; have x5 := hbx.cell 5; have x6 := hbx.cell 6; have x7 := hbx.cell 7; have x8 := hbx.cell 8; simp at x0 x1 x2 x3 x4 x5 x6 x7 x8
    have fx0 := hbx.frozen 0; have fx1 := hbx.frozen 1; have fx2 := hbx.frozen 2; have fx3 := hbx.frozen 3; have fx4 := hbx.frozen 4; have fx5 := hbx.frozen 5; have fx6 := hbx.frozen 6; have fx7 := hbx.frozen 7; have fx8 := hbx.frozen 8
    have z0 := hbz.cell 0; have z1 := hbz.cell 1; have z2 := hbz.cell 2; have z3 := hbz.cell 3; have z4 := hbz.cell 4; have z5 := hbz.cell 5; have z6 := hbz.cell 6; have z7 := hbz.cell 7; have z8 := hbz.cell 8; simp at z0 z1 z2 z3 z4 z5 z6 z7 z8
    have fz0 := hbz.frozen 0; have fz1 := hbz.frozen 1; have fz2 := hbz.frozen 2; have fz3 := hbz.frozen 3; have fz4 := hbz.frozen 4; have fz5 := hbz.frozen 5; have fz6 := hbz.frozen 6; have fz7 := hbz.frozen 7; have fz8 := hbz.frozen 8
    have y0 := hby.cell 0; have y1 := hby.cell 1; have y2 := hby.cell 2; have y3 := hby.cell 3; simp at y0 y1 y2 y3
    have HYD := Lib.hid ((Touch.refl (fun _ => False) W).drew.blk hby (fun e => e))
    have hyl := HYD.out.lt
    have y0' := HYD.out.cell 0; have y1' := HYD.out.cell 1; have y2' := HYD.out.cell 2; have y3' := HYD.out.cell 3
    simp only [List.getElem?_toArray, List.getElem?_cons_zero, List.getElem?_cons_succ] at y0' y1' y2' y3'
    have HY := Lib.hid (And.intro y0' (And.intro y1' (And.intro y2' y3')))
    clear hbx hby hbz hW y0' y1' y2' y3'
    refine wp_region_plan [(0, 0), (0, 1), (0, 8), (1, 2), (1, 3), (1, 4), (1, 5), (1, 6), (1, 7), (2, 9), (0, 10), (2, 11), (0, 12), (2, 13), (0, 14), (2, 15)] (fun q => q = w.heap.size) (by kernel_rfl) (by kernel_rfl) (fun c a d v w h => by cases d <;> exact h) ?_
    iterate 3
      refine plan_s1 rfl (by rfl) (fun Kc hKc => ?_)
      go_simp
      first
        | (refine hKc _ ?_)
      clear hKc Kc
    iterate 6
      apply plan_h
      · rfl
      · rfl
      · intro wh hT
        have hf0 := (hT.cell (p := ⟨w.heap.size + 1, 0, none⟩) hyl (fun e => by simp at e)).trans HY.out.1
        have hf1 := (hT.cell (p := ⟨w.heap.size + 1, 1, none⟩) hyl (fun e => by simp at e)).trans HY.out.2.1
        have hf2 := (hT.cell (p := ⟨w.heap.size + 1, 2, none⟩) hyl (fun e => by simp at e)).trans HY.out.2.2.1
        have hf3 := (hT.cell (p := ⟨w.heap.size + 1, 3, none⟩) hyl (fun e => by simp at e)).trans HY.out.2.2.2
        go_simp
        try rfl
      go_frame
    refine plan_a1 rfl (by rfl) (fun Kc hKc => ?_)
    go_simp
    refine hKc _ _ ⟨(show Touch (fun q => q = w.heap.size) W.drew (W.setCell ⟨w.heap.size, 3, none⟩ (.int .i64 slv)).drew from (Touch.refl (fun q => q = w.heap.size) W.drew).set (b := w.heap.size) (o := 3) (fun _ => rfl) _), ?_⟩
    clear hKc Kc
    iterate 1
      refine plan_s1 rfl (by rfl) (fun Kc hKc => ?_)
      go_simp
      first
        | (refine hKc _ ?_)
      clear hKc Kc
    refine plan_a1 rfl (by rfl) (fun Kc hKc => ?_)
    go_simp
    refine hKc _ _ ⟨(show Touch (fun q => q = w.heap.size) (W.setCell ⟨w.heap.size, 3, none⟩ (.int .i64 slv)).drew ((W.setCell ⟨w.heap.size, 3, none⟩ (.int .i64 slv)).setCell ⟨w.heap.size, 5, none⟩ (.int .i64 sfr)).drew from (Touch.refl (fun q => q = w.heap.size) (W.setCell ⟨w.heap.size, 3, none⟩ (.int .i64 slv)).drew).set (b := w.heap.size) (o := 5) (fun _ => rfl) _), ?_⟩
    clear hKc Kc
    iterate 1
      refine plan_s1 rfl (by rfl) (fun Kc hKc => ?_)
      go_simp
      first
        | (refine hKc _ ?_)
      clear hKc Kc
    refine plan_a1 rfl (by rfl) (fun Kc hKc => ?_)
    go_simp
    refine hKc _ _ ⟨(show Touch (fun q => q = w.heap.size) ((W.setCell ⟨w.heap.size, 3, none⟩ (.int .i64 slv)).setCell ⟨w.heap.size, 5, none⟩ (.int .i64 sfr)).drew (((W.setCell ⟨w.heap.size, 3, none⟩ (.int .i64 slv)).setCell ⟨w.heap.size, 5, none⟩ (.int .i64 sfr)).setCell ⟨w.heap.size, 6, none⟩ (.int .i64 sle)).drew from (Touch.refl (fun q => q = w.heap.size) ((W.setCell ⟨w.heap.size, 3, none⟩ (.int .i64 slv)).setCell ⟨w.heap.size, 5, none⟩ (.int .i64 sfr)).drew).set (b := w.heap.size) (o := 6) (fun _ => rfl) _), ?_⟩
    clear hKc Kc
    iterate 1
      refine plan_s1 rfl (by rfl) (fun Kc hKc => ?_)
      go_simp
      first
        | (refine hKc _ ?_)
      clear hKc Kc
    refine plan_a1 rfl (by rfl) (fun Kc hKc => ?_)
    go_simp
    refine hKc _ _ ⟨(show Touch (fun q => q = w.heap.size) (((W.setCell ⟨w.heap.size, 3, none⟩ (.int .i64 slv)).setCell ⟨w.heap.size, 5, none⟩ (.int .i64 sfr)).setCell ⟨w.heap.size, 6, none⟩ (.int .i64 sle)).drew ((((W.setCell ⟨w.heap.size, 3, none⟩ (.int .i64 slv)).setCell ⟨w.heap.size, 5, none⟩ (.int .i64 sfr)).setCell ⟨w.heap.size, 6, none⟩ (.int .i64 sle)).setCell ⟨w.heap.size, 7, none⟩ (.int .i64 sdu)).drew from (Touch.refl (fun q => q = w.heap.size) (((W.setCell ⟨w.heap.size, 3, none⟩ (.int .i64 slv)).setCell ⟨w.heap.size, 5, none⟩ (.int .i64 sfr)).setCell ⟨w.heap.size, 6, none⟩ (.int .i64 sle)).drew).set (b := w.heap.size) (o := 7) (fun _ => rfl) _), ?_⟩
    clear hKc Kc
    refine plan_done ?_
    go_wp2_with fail
    have hs := (((((((((((((HBZ.out).far (p := ⟨w.heap.size, 3, none⟩) (by simp <;> omega) (.int .i64 slv)).far (p := ⟨w.heap.size, 5, none⟩) (by simp <;> omega) (.int .i64 sfr)).far (p := ⟨w.heap.size, 6, none⟩) (by simp <;> omega) (.int .i64 sle)).far (p := ⟨w.heap.size, 7, none⟩) (by simp <;> omega) (.int .i64 sdu)).set_ 0 (.int .u64 id)).set_ 1 (.int .i64 con)).set_ 2 (.int .i64 state)).set_ 3 (.int .i64 slv)).set_ 4 (.int .u64 0)).set_ 5 (.int .i64 sfr)).set_ 6 (.int .i64 sle)).set_ 7 (.int .i64 sdu)).set_ 8 (.int .i64 to_)
    have e0 := hs.cell 0; have e1 := hs.cell 1; have e2 := hs.cell 2; have e3 := hs.cell 3; have e4 := hs.cell 4; have e5 := hs.cell 5; have e6 := hs.cell 6; have e7 := hs.cell 7; have e8 := hs.cell 8
    simp at e0 e1 e2 e3 e4 e5 e6 e7 e8
    refine bodyPost_ret (v := .tuple #[.agg #[.int .u64 id, .int .i64 con, .int .i64 state, .int .i64 slv, .int .u64 0, .int .i64 sfr, .int .i64 sle, .int .i64 sdu, .int .i64 to_], .int .i64 0]) (by simp [results, Try.results99, go_sem, e0, e1, e2, e3, e4, e5, e6, e7, e8]) rfl ?_
    have tf := (((((((((((((Touch.refl (fun q => w.heap.size ≤ q) W).set (b := w.heap.size) (o := 3) (fun _ => by omega) (.int .i64 slv)).set (b := w.heap.size) (o := 5) (fun _ => by omega) (.int .i64 sfr)).set (b := w.heap.size) (o := 6) (fun _ => by omega) (.int .i64 sle)).set (b := w.heap.size) (o := 7) (fun _ => by omega) (.int .i64 sdu)).set (b := w.heap.size + 2) (o := 0) (fun _ => by omega) (.int .u64 id)).set (b := w.heap.size + 2) (o := 1) (fun _ => by omega) (.int .i64 con)).set (b := w.heap.size + 2) (o := 2) (fun _ => by omega) (.int .i64 state)).set (b := w.heap.size + 2) (o := 3) (fun _ => by omega) (.int .i64 slv)).set (b := w.heap.size + 2) (o := 4) (fun _ => by omega) (.int .u64 0)).set (b := w.heap.size + 2) (o := 5) (fun _ => by omega) (.int .i64 sfr)).set (b := w.heap.size + 2) (o := 6) (fun _ => by omega) (.int .i64 sle)).set (b := w.heap.size + 2) (o := 7) (fun _ => by omega) (.int .i64 sdu)).set (b := w.heap.size + 2) (o := 8) (fun _ => by omega) (.int .i64 to_)
    rw [HV.out]
    exact ⟨rfl, (HTW.out.trans tf (fun q hq e => by omega)).drew⟩
  · have HV := Lib.hid (show withV ⟨id, con, st, lev, gen, fr, le, du, to_⟩ state ⟨slv, sfr, sle, sdu⟩ e = (TkV.z, e) from if_neg he)
    generalize withV ⟨id, con, st, lev, gen, fr, le, du, to_⟩ state ⟨slv, sfr, sle, sdu⟩ e = r at *
    have hb : (e != 0) = true := by simpa using he
    go_enter Try.func99, Try.ntmps99
    go_wp2_with fail
    refine bodyPost_ret (v := .tuple #[.agg #[.int .u64 0, .int .i64 0, .int .i64 0, .int .i64 0, .int .u64 0, .int .i64 0, .int .i64 0, .int .i64 0, .int .i64 0], .int .i64 e]) (by simp [results, Try.results99, go_sem]) rfl ?_
    rw [HV.out]
    exact ⟨rfl, HT.out.alloc _⟩
end Go.Proofs.Ytcblbjhhlnmkjaa
