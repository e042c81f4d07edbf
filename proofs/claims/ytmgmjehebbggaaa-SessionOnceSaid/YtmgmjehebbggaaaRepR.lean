/- What reply.Copy does. -/
import Derived.Test.YtmgmjehebbggaaaRepQ
import Derived.OwnWalk
import Derived.Laws.CopyOwn
namespace Go.Proofs.Ytmgmjehebbggaaa
open Go.RowKit
set_option maxHeartbeats 4000000
set_option maxRecDepth 100000
set_option linter.unusedVariables false

theorem U64_one (l : List Nat) : ∀ u ∈ l.map U64, u.oneCell' = true := by
  intro u hu
  obtain ⟨c, _, rfl⟩ := List.mem_map.1 hu
  rfl
/-- What 'make' made, whole. -/
theorem Blk.of_full {w : World} {base : Nat} {e : TypeId} {g n : Nat} {xs : List Value} (h : w.ownsRow base e 1 (.slice (some ⟨g, 0, none⟩) n n) n xs) : Blk w g e xs.toArray := by
  rcases h.2 with ⟨e, _⟩ | ⟨g', cap, cur, e, _, hg, hn, hc, hs, ht⟩
  · cases e
  · injection e with e1 e2 e3
    injection e1 with e1
    injection e1 with e1
    subst e1 e3
    rw [List.take_of_length_le (by simp; omega)] at ht
    rw [← ht]
    exact hg
theorem splice_all (cur cs : List Value) (h : cur.length = cs.length) : splice cur 0 cs = cs := by
  simp [splice, h]
theorem Touch.below_trans {S : Nat → Prop} {w w1 w2 : World} {B : Nat} (h : Touch S w w1) (hb : Below B w1 w2) (hB : w.heap.size ≤ B) : Touch S w w2 :=
  ⟨hb.os.trans h.os, hb.tape.trans h.tape, hb.output.trans h.output, Nat.le_trans h.size hb.size, fun k hk hn => (hb.block k (Nat.lt_of_lt_of_le hk hB)).trans (h.block k hk hn)⟩
def CopyPost (a : RpV) (w : World) (e : Ending) (w' : World) : Prop :=
  ∃ g, e = .returned (.agg #[.int .i64 a.code, .int .i64 a.time, .int .u64 a.t.id, .int .i64 a.t.contract, .int .i64 a.t.state, .int .i64 a.t.level, .int .u64 a.t.gen, .int .i64 a.t.from_, .int .i64 a.t.left, .int .i64 a.t.due, .int .i64 a.t.told, .slice (some ⟨g, 0, none⟩) a.fired.length a.fired.length, .int .u64 a.notice, .int .i64 a.dead]) ∧ Blk w' g 29 (a.fired.map U64).toArray ∧ w.heap.size ≤ g ∧ Touch (fun _ => False) w w'
theorem copy_any (a : RpV) (A : Option Addr) (c : Nat) (w : World) (hr : Rd w (fun k => k < w.heap.size) A a.fired.length (a.fired.map U64)) (hsm : a.fired.length ≤ 1000) :
    Calls Try.prog 27 #[.agg #[.int .i64 a.code, .int .i64 a.time, .int .u64 a.t.id, .int .i64 a.t.contract, .int .i64 a.t.state, .int .i64 a.t.level, .int .u64 a.t.gen, .int .i64 a.t.from_, .int .i64 a.t.left, .int .i64 a.t.due, .int .i64 a.t.told, .slice A a.fired.length c, .int .u64 a.notice, .int .i64 a.dead]] w (CopyPost a w) := by
  obtain ⟨i0, hi, hz0, hz1, hz2⟩ := info_parts infoU
  obtain ⟨W, hW⟩ : ∃ W, W = (w.alloc (.cells #[.int .i64 a.code, .int .i64 a.time, .int .u64 a.t.id, .int .i64 a.t.contract, .int .i64 a.t.state, .int .i64 a.t.level, .int .u64 a.t.gen, .int .i64 a.t.from_, .int .i64 a.t.left, .int .i64 a.t.due, .int .i64 a.t.told, .slice A a.fired.length c, .int .u64 a.notice, .int .i64 a.dead] 35)).alloc (.cells #[.int .i64 0, .int .i64 0, .int .u64 0, .int .i64 0, .int .i64 0, .int .i64 0, .int .u64 0, .int .i64 0, .int .i64 0, .int .i64 0, .int .i64 0, .slice none 0 0, .int .u64 0, .int .i64 0] 35) := ⟨_, rfl⟩
  have HT0 := Lib.hid (show Touch (fun _ => False) w W from hW ▸ ((Touch.refl _ w).alloc _).alloc _)
  have HB0 := Lib.hid (show Blk W w.heap.size 35 #[.int .i64 a.code, .int .i64 a.time, .int .u64 a.t.id, .int .i64 a.t.contract, .int .i64 a.t.state, .int .i64 a.t.level, .int .u64 a.t.gen, .int .i64 a.t.from_, .int .i64 a.t.left, .int .i64 a.t.due, .int .i64 a.t.told, .slice A a.fired.length c, .int .u64 a.notice, .int .i64 a.dead] from hW ▸ (Blk.new w 35 _).alloc _)
  have HB1 := Lib.hid (show Blk W (w.heap.size + 1) 35 #[.int .i64 0, .int .i64 0, .int .u64 0, .int .i64 0, .int .i64 0, .int .i64 0, .int .u64 0, .int .i64 0, .int .i64 0, .int .i64 0, .int .i64 0, .slice none 0 0, .int .u64 0, .int .i64 0] from hW ▸ (by simpa using Blk.new (w.alloc (.cells #[.int .i64 a.code, .int .i64 a.time, .int .u64 a.t.id, .int .i64 a.t.contract, .int .i64 a.t.state, .int .i64 a.t.level, .int .u64 a.t.gen, .int .i64 a.t.from_, .int .i64 a.t.left, .int .i64 a.t.due, .int .i64 a.t.told, .slice A a.fired.length c, .int .u64 a.notice, .int .i64 a.dead] 35)) 35 #[.int .i64 0, .int .i64 0, .int .u64 0, .int .i64 0, .int .i64 0, .int .i64 0, .int .u64 0, .int .i64 0, .int .i64 0, .int .i64 0, .int .i64 0, .slice none 0 0, .int .u64 0, .int .i64 0]))
  have hWs : w.heap.size + 2 ≤ W.heap.size := by rw [hW]; simp
  have HW := Lib.hid hW
  have HR := Lib.hid hr
  clear hW hr
  go_enter Try.func27, Try.ntmps27
  go_wp2_with (first
    | (refine wpList_make_full _ rfl _ _ 33 rfl 0 29 i0 (.int .u64 0) 1 Try.underlying33 hi hz0 hz1 .i64 .i64 a.fired.length a.fired.length a.fired.length rfl rfl rfl rfl (by rw [hz2]; omega) (by simp only [maxLen]; omega) (Nat.zero_le _) ?_
       rw [← HW.out]
       intro w2 hown hgr
       have hL := hown.1
       have hbk := Blk.of_full hown
       have hzg := hbk.lt
       have HG := Lib.hid (Touch.of_grown hgr |>.mono (S' := fun _ => False) (fun q hq e => by cases e))
       have hb := HG.out.blk HB0.out (fun e => e)
       have q11 := hb.cell 11
       simp at q11
       generalize (madeCells (Value.int .u64 0).cells (a.fired.length * 1)).toList = L at hL hbk
       have HO := Lib.hid hbk
       have HL := Lib.hid hL
       clear hown hgr hb hL hbk)
    | (refine wpList_copy_splice (o := ⟨some 11, _, _, _, _, _⟩) rfl (.tmp 8) (.tmp 10) 33 33 rfl 29 Try.underlying33 (by kernel_rfl) (some ⟨W.heap.size, 0, none⟩) A a.fired.length a.fired.length a.fired.length c rfl rfl W.heap.size 0 L 29 (by exact HO.out) (a.fired.map U64) (by simp) (fun hp => ⟨rfl, by obtain ⟨g, off, e, _⟩ := HR.out.2 (by simpa using hp); exact ⟨⟨g, off, none⟩, e, by have hq := (HR.out.touch (HT0.out.trans HG.out (fun _ _ e => e)) (fun _ _ e => e)); rw [e] at hq; exact hq.add⟩⟩) (by have := HL.out; simp; omega) (U64_one _) W.heap.size w2 (Below.refl _ _) (Nat.le_refl _) ?_
       intro w3 hw3 hb3
       have hb3' := HG.out.below_trans hb3 (Nat.le_refl _)
       have HT3 := Lib.hid hb3'
       have HO3 := Lib.hid (show Blk w3 W.heap.size 29 (a.fired.map U64).toArray from by have := hw3.out; rw [splice_all _ _ (by have := HL.out; simp; omega)] at this; exact this)
       have hx := hb3'.blk HB0.out (fun e => e)
       have hy := hb3'.blk HB1.out (fun e => e)
       have q0 := hx.cell 0; have q1 := hx.cell 1; have q2 := hx.cell 2; have q3 := hx.cell 3; have q4 := hx.cell 4; have q5 := hx.cell 5; have q6 := hx.cell 6; have q7 := hx.cell 7; have q8 := hx.cell 8; have q9 := hx.cell 9; have q10 := hx.cell 10; have q11 := hx.cell 11; have q12 := hx.cell 12; have q13 := hx.cell 13; simp at q0 q1 q2 q3 q4 q5 q6 q7 q8 q9 q10 q11 q12 q13
       have d0 := hy.cell 0; have d1 := hy.cell 1; have d2 := hy.cell 2; have d3 := hy.cell 3; have d4 := hy.cell 4; have d5 := hy.cell 5; have d6 := hy.cell 6; have d7 := hy.cell 7; have d8 := hy.cell 8; have d9 := hy.cell 9; have d10 := hy.cell 10; have d11 := hy.cell 11; have d12 := hy.cell 12; have d13 := hy.cell 13; simp at d0 d1 d2 d3 d4 d5 d6 d7 d8 d9 d10 d11 d12 d13
       have f11 := hx.frozen 11
       have f0y := hy.frozen 0; have f1y := hy.frozen 1; have f2y := hy.frozen 2; have f3y := hy.frozen 3; have f4y := hy.frozen 4; have f5y := hy.frozen 5; have f6y := hy.frozen 6; have f7y := hy.frozen 7; have f8y := hy.frozen 8; have f9y := hy.frozen 9; have f10y := hy.frozen 10; have f11y := hy.frozen 11; have f12y := hy.frozen 12; have f13y := hy.frozen 13
       clear hw3 hb3 hb3' hx hy))
  have t3 : Touch (fun k => k = w.heap.size ∨ k = w.heap.size + 1) w3 ((w3.setCell ⟨w.heap.size, 11, none⟩ (.slice (some ⟨W.heap.size, 0, none⟩) a.fired.length a.fired.length)).setCells (w.heap.size + 1) 0 [.int .i64 a.code, .int .i64 a.time, .int .u64 a.t.id, .int .i64 a.t.contract, .int .i64 a.t.state, .int .i64 a.t.level, .int .u64 a.t.gen, .int .i64 a.t.from_, .int .i64 a.t.left, .int .i64 a.t.due, .int .i64 a.t.told, .slice (some ⟨W.heap.size, 0, none⟩) a.fired.length a.fired.length, .int .u64 a.notice, .int .i64 a.dead]) :=
    Touch.setCells _ _ _ ((Touch.refl _ w3).set (fun _ => .inl rfl) _) (fun _ => .inr rfl)
  refine bodyPost_ret (v := .agg #[.int .i64 a.code, .int .i64 a.time, .int .u64 a.t.id, .int .i64 a.t.contract, .int .i64 a.t.state, .int .i64 a.t.level, .int .u64 a.t.gen, .int .i64 a.t.from_, .int .i64 a.t.left, .int .i64 a.t.due, .int .i64 a.t.told, .slice (some ⟨W.heap.size, 0, none⟩) a.fired.length a.fired.length, .int .u64 a.notice, .int .i64 a.dead]) (by simp [results, Try.results27, go_sem, d0, d1, d2, d3, d4, d5, d6, d7, d8, d9, d10, d11, d12, d13]) rfl ⟨W.heap.size, rfl, ?_, by omega, ?_⟩
  · exact t3.blk HO3.out (by omega)
  · exact (HT0.out.trans HT3.out (fun _ _ e => e)).trans t3 (fun k hk e => by omega)
end Go.Proofs.Ytmgmjehebbggaaa
