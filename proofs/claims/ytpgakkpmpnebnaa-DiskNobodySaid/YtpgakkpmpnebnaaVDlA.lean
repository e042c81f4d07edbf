/- The law of disks: do. (written by genDlA.py) -/
import Derived.Test.YtpgakkpmpnebnaaVDkY
import Derived.Test.YtpgakkpmpnebnaaVDkS
import Derived.Test.YtpgakkpmpnebnaaVDkM
import Derived.Test.YtpgakkpmpnebnaaVDkV
namespace Go.Proofs.Ytpgakkpmpnebnaa
open Go.RowKit Go.Maps
set_option maxHeartbeats 4000000
set_option maxRecDepth 100000
set_option linter.unusedVariables false
attribute [local irreducible] wpPlan

/-- A call. -/
structure Op23 where
  k : Int
  n : Int
  nm : List UInt8
  to_ : List UInt8
  tx : List UInt8
  ts : List Tr
  A : Option Addr
  c : Nat
def Op23.cells (o : Op23) : List Value := [.int .i64 o.k, .int .i64 o.n, St o.nm, St o.to_, St o.tx, .slice o.A o.ts.length o.c]
def Op23.ok (w : World) (G : Nat → Prop) (o : Op23) : Prop := o.n ≤ 9223372036854775807 ∧ (∀ t ∈ o.ts, t.keep < 65536 ∧ t.turn < 4294967296) ∧ o.ts.length ≤ o.c ∧ o.c ≤ maxLen ∧ TrR w G o.A o.ts.length o.ts
def Op23.lt (o : Op23) : Prop := o.tx.length ≤ 2000 ∧ o.nm.length ≤ 100 ∧ o.to_.length ≤ 100 ∧ o.ts.length ≤ 40
def doV (D : Dk) (o : Op23) : Dk :=
  if o.k = 1 then (D.sync o.nm).1 else if o.k = 2 then (D.cut o.nm o.n).1 else if o.k = 3 then (D.remove o.nm).1 else if o.k = 4 then (D.move o.nm o.to_).1
  else if o.k = 5 then D else if o.k = 6 then (D.arm o.n).1 else if o.k = 7 then D.crash o.ts else if o.k = 8 then D.boot else if o.k = 9 then (D.resize o.n).1 else (D.append o.nm o.tx).1
theorem step_steps (D : Dk) : D.step.1.steps = D.steps + 1 := by unfold Dk.step; split <;> (try split) <;> rfl
theorem doV_steps (D : Dk) (o : Op23) : (doV D o).steps ≤ D.steps + 1 := by
  have hs := step_steps D
  unfold doV
  split
  · unfold Dk.sync; split; · simp
    split; · simp
    split <;> simp [hs]
  split
  · unfold Dk.cut; split; · simp
    split; · simp
    split; · simp
    split <;> simp [hs]
  split
  · unfold Dk.remove; split; · simp
    split; · simp
    split <;> simp [hs]
  split
  · unfold Dk.move; split; · simp
    split; · simp
    split; · simp
    split <;> simp [hs]
  split
  · simp
  split
  · unfold Dk.arm; split; · simp
    split <;> simp
  split
  · simp [Dk.crash]
  split
  · simp [Dk.boot]
  split
  · unfold Dk.resize; split; · simp
    split <;> simp
  · unfold Dk.append; split; · simp
    split; · simp
    split; · simp
    simp [step_steps]
/-- What do tells and leaves. -/
def DoP (g b m : Nat) (D : Dk) (F RF : Nat → Prop) (w : World) (e : Ending) (w' : World) : Prop :=
  ∃ A' c' F' RF', e = .returned (.tuple #[.agg (rdA A' c' D), .bool true]) ∧ DkAt w' g b m D F' ∧ RfF w' RF' A' D.fs ∧
    (∀ q, F' q → F q ∨ (w.heap.size ≤ q ∧ q < w'.heap.size)) ∧ (∀ q, RF' q → RF q ∨ (w.heap.size ≤ q ∧ q < w'.heap.size)) ∧ Touch (fun q => q = g ∨ q = b ∨ q = m) w w'
theorem T3d (w : World) (o1 o2 o3 : Obj) : Touch (fun _ => False) w (((w.alloc o1).alloc o2).alloc o3) := (((Touch.refl (fun _ => False) w).alloc o1).alloc o2).alloc o3
theorem ldo_any (o : Op23) (D : Dk) (g b m : Nat) (F RF G : Nat → Prop) (A : Option Addr) (c : Nat) (w : World) (hd : DkAt w g b m D F) (hr : RfF w RF A D.fs) (hRF : ∀ q, RF q → q < w.heap.size ∧ q ≠ g ∧ q ≠ b ∧ q ≠ m) (ho : o.ok w G) (hG : ∀ q, G q → q < w.heap.size ∧ q ≠ g ∧ q ≠ b ∧ q ≠ m) (hl : o.lt) (hst : D.steps ≤ 1000000) :
    Calls Try.prog 34 #[.pointer (some ⟨g, 0, none⟩), .agg (rdA A c D), .agg o.cells.toArray] w (DoP g b m (doV D o) F RF w) := by
  obtain ⟨k, n, nm, to_, tx, ts, TA, tc⟩ := o
  obtain ⟨ho1, ho2, ho3, ho4, ho5⟩ := ho
  obtain ⟨hl1, hl2, hl3, hl4⟩ := hl
  simp only at ho1 ho2 ho3 ho4 ho5 hl1 hl2 hl3 hl4
  obtain ⟨w1, hw1⟩ : ∃ w1, w1 = ((w.alloc (.cells #[.int .i64 D.room, .slice A D.fs.length c, .bool D.down, .int .i64 D.armed, .int .u64 (D.steps : Int)] 67)).alloc (.cells #[.int .i64 k, .int .i64 n, St nm, St to_, St tx, .slice TA ts.length tc] 71)).alloc (.cells #[.int .i64 0, .slice none 0 0, .bool false, .int .i64 0, .int .u64 0] 67) := ⟨_, rfl⟩
  have HT1 := Lib.hid (show Touch (fun _ => False) w w1 from hw1 ▸ T3d w _ _ _)
  have HB1 := Lib.hid (show Blk w1 w.heap.size 67 #[.int .i64 D.room, .slice A D.fs.length c, .bool D.down, .int .i64 D.armed, .int .u64 (D.steps : Int)] from hw1 ▸ bk1 w _ _ _ _ _ _)
  have HO1 := Lib.hid (show Blk w1 (w.heap.size + 1) 71 #[.int .i64 k, .int .i64 n, St nm, St to_, St tx, .slice TA ts.length tc] from hw1 ▸ bk2 w _ _ _ _ _ _)
  have HS1 := Lib.hid (show Blk w1 (w.heap.size + 2) 67 #[.int .i64 0, .slice none 0 0, .bool false, .int .i64 0, .int .u64 0] from hw1 ▸ bk3 w _ _ _ _ _ _)
  have hs1 : w1.heap.size = w.heap.size + 3 := by rw [hw1]; simp
  have HW1 := Lib.hid hw1
  have hlt := hd.lt
  have HD := Lib.hid hd
  have HR := Lib.hid hr
  have HRF := Lib.hid hRF
  have HG := Lib.hid hG
  have HFl := Lib.hid hd.fl
  clear hw1
  rw [show rdA A c D = #[.int .i64 D.room, .slice A D.fs.length c, .bool D.down, .int .i64 D.armed, .int .u64 (D.steps : Int)] from rfl, show (Op23.cells ⟨k, n, nm, to_, tx, ts, TA, tc⟩).toArray = #[.int .i64 k, .int .i64 n, St nm, St to_, St tx, .slice TA ts.length tc] from rfl]
  rcases (by omega : k = 1 ∨ k = 2 ∨ k = 3 ∨ k = 4 ∨ k = 5 ∨ k = 6 ∨ k = 7 ∨ k = 8 ∨ k = 9 ∨ (¬ k = 1 ∧ ¬ k = 2 ∧ ¬ k = 3 ∧ ¬ k = 4 ∧ ¬ k = 5 ∧ ¬ k = 6 ∧ ¬ k = 7 ∧ ¬ k = 8 ∧ ¬ k = 9)) with rfl | rfl | rfl | rfl | rfl | rfl | rfl | rfl | rfl | ⟨e1, e2, e3, e4, e5, e6, e7, e8, e9⟩
  · obtain ⟨⟨E, v⟩, hp⟩ : ∃ p, p = D.sync nm := ⟨_, rfl⟩
    have HV := Lib.hid (show doV D ⟨1, n, nm, to_, tx, ts, TA, tc⟩ = E by unfold doV; rw [if_pos rfl]; rw [← hp])
    have HRf := Lib.hid (show ∀ W : World, Touch (fun _ => False) w W → Calls Try.prog 76 #[.agg #[.int .i64 D.room, .slice A D.fs.length c, .bool D.down, .int .i64 D.armed, .int .u64 (D.steps : Int)], St nm] W fun e w' => ∃ A' c' F', e = .returned (.tuple #[.agg #[.int .i64 E.room, .slice A' E.fs.length c', .bool E.down, .int .i64 E.armed, .int .u64 (E.steps : Int)], .int .i64 v]) ∧ RfF w' F' A' E.fs ∧ (∀ q, F' q → RF q ∨ (W.heap.size ≤ q ∧ q < w'.heap.size)) ∧ Touch (fun _ => False) W w' from fun W hW => by
      have := fsync_any D RF A c nm W (hr.touch hW (fun _ _ e => e)) hd.ok (fun q hq => Nat.lt_of_lt_of_le (hRF q hq).1 hW.size) hst
      unfold RkP at this
      rw [← hp] at this
      exact this)
    have HPr := Lib.hid (show ∀ W : World, DkAt W g b m D F → Calls Try.prog 46 #[.pointer (some ⟨g, 0, none⟩), St nm] W fun e w' => e = .returned (.int .i64 v) ∧ ∃ F', DkAt w' g b m E F' ∧ (∀ q, F' q → F q ∨ (W.heap.size ≤ q ∧ q < w'.heap.size)) ∧ Touch (fun q => q = g ∨ q = b ∨ q = m) W w' from fun W h => by
      have := dsync_any h nm (by omega) hst
      unfold DkC at this
      rw [← hp] at this
      exact this)
    clear hp hd hr hRF hG
    go_enter Try.func34, Try.ntmps34
    go_wp2_with (first
      | (go_at_call 76; rw [← HW1.out]; go_must (refine (HRf.out w1 HT1.out).mono ?_); rintro e w2 ⟨A2, c2, F2, rfl, hr2, hf2, t2⟩
         have HR2 := Lib.hid hr2
         have HF2 := Lib.hid hf2
         have HT2 := Lib.hid (HT1.out.trans t2 (fun _ _ e => e))
         have HB2 := Lib.hid (t2.blk HB1.out (fun e => e))
         have HO2 := Lib.hid (t2.blk HO1.out (fun e => e))
         have HS2 := Lib.hid (t2.blk HS1.out (fun e => e))
         have hs2 := t2.size
         have p0 := HB2.out.cell 0; have p1 := HB2.out.cell 1; have p2 := HB2.out.cell 2; have p3 := HB2.out.cell 3; have p4 := HB2.out.cell 4; simp at p0 p1 p2 p3 p4
         have m0 := HB2.out.frozen 0; have m1 := HB2.out.frozen 1; have m2 := HB2.out.frozen 2; have m3 := HB2.out.frozen 3; have m4 := HB2.out.frozen 4
         have x0 := HO2.out.cell 0; have x1 := HO2.out.cell 1; have x2 := HO2.out.cell 2; have x3 := HO2.out.cell 3; have x4 := HO2.out.cell 4; have x5 := HO2.out.cell 5; simp at x0 x1 x2 x3 x4 x5
         clear hr2 hf2 t2)
      | (go_at_call 46
         obtain ⟨w3, hw3⟩ : ∃ w3, w3 = (((((w2.setCell ⟨w.heap.size, 0, none⟩ (.int .i64 E.room)).setCell ⟨w.heap.size, 1, none⟩ (.slice A2 E.fs.length c2)).setCell ⟨w.heap.size, 2, none⟩ (.bool E.down)).setCell ⟨w.heap.size, 3, none⟩ (.int .i64 E.armed)).setCell ⟨w.heap.size, 4, none⟩ (.int .u64 (E.steps : Int))) := ⟨_, rfl⟩
         rw [← hw3]
         have t3 : Touch (fun q => q = w.heap.size) w2 w3 := by rw [hw3]; exact tch5 _ _ _ _ _ _
         have hb3 : Blk w3 w.heap.size 67 #[.int .i64 E.room, .slice A2 E.fs.length c2, .bool E.down, .int .i64 E.armed, .int .u64 (E.steps : Int)] := by rw [hw3]; exact blk5 HB2.out _ _ _ _ _
         have hs3 := t3.size
         have tw3 := HT2.out.trans t3 (fun q hq e => by omega)
         have hd3 := HD.out.far (tw3.mono (S' := fun _ => False) (fun _ _ e => e))
         go_must (refine (HPr.out w3 hd3 ).mono ?_); rintro e w4 ⟨rfl, F4, hd4, hf4, t4⟩
         have HB4 := Lib.hid (t4.blk hb3 (by omega))
         have HS4 := Lib.hid (t4.blk (t3.blk HS2.out (by omega)) (by omega))
         have HD4 := Lib.hid hd4
         have HF4 := Lib.hid hf4
         have HT34 := Lib.hid (t3.mono (S' := fun q => q = w.heap.size) (fun _ _ e => e))
         have HT4 := Lib.hid t4
         have hs4 := t4.size
         clear p0 p1 p2 p3 p4 m0 m1 m2 m3 m4
         have p0 := HB4.out.cell 0; have p1 := HB4.out.cell 1; have p2 := HB4.out.cell 2; have p3 := HB4.out.cell 3; have p4 := HB4.out.cell 4; simp at p0 p1 p2 p3 p4
         have m0 := HB4.out.frozen 0; have m1 := HB4.out.frozen 1; have m2 := HB4.out.frozen 2; have m3 := HB4.out.frozen 3; have m4 := HB4.out.frozen 4
         have y0 := HS4.out.cell 0; have y1 := HS4.out.cell 1; have y2 := HS4.out.cell 2; have y3 := HS4.out.cell 3; have y4 := HS4.out.cell 4; simp at y0 y1 y2 y3 y4
         have z0 := HS4.out.frozen 0; have z1 := HS4.out.frozen 1; have z2 := HS4.out.frozen 2; have z3 := HS4.out.frozen 3; have z4 := HS4.out.frozen 4
         clear hd4 hf4 t4 hb3 hd3 tw3 t3 hw3))
    have tz := tch5 (w := w4) (w.heap.size + 1 + 1) (.int .i64 E.room) (.slice A2 E.fs.length c2) (.bool E.down) (.int .i64 E.armed) (.int .u64 (E.steps : Int))
    have hz := tz.size
    refine bodyPost_ret (results_cell2 (cs := rdA A2 c2 E) 6 7 rowRd rfl (by exact fin5 HS4.out _ _ _ _ _) rfl rfl) rfl ?_
    rw [HV.out]
    have hg4 := HT4.out
    refine ⟨A2, c2, F4, F2, rfl, HD4.out.touch tz (by omega) (by omega) (by omega) (fun q hq e => by rcases HF4.out q hq with h | h; have := HFl.out q h; omega; omega), ((HR2.out.touch HT34.out (fun q hq e => by rcases HF2.out q hq with h | h; have := HRF.out q h; omega; omega)).touch hg4 (fun q hq e => by rcases HF2.out q hq with h | h; have := HRF.out q h; omega; omega)).touch tz (fun q hq e => by rcases HF2.out q hq with h | h; have := HRF.out q h; omega; omega), fun q hq => ?_, fun q hq => ?_, ?_⟩
    · rcases HF4.out q hq with h | h
      · exact .inl h
      · exact .inr (by omega)
    · rcases HF2.out q hq with h | h
      · exact .inl h
      · exact .inr (by omega)
    · exact (((HT2.out.trans HT34.out (fun q hq e => by omega)).mono (S' := fun q => q = g ∨ q = b ∨ q = m) (fun _ _ e => e.elim)).trans hg4 (fun _ _ e => e)).trans tz (fun q hq e => by omega)
  · obtain ⟨⟨E, v⟩, hp⟩ : ∃ p, p = D.cut nm n := ⟨_, rfl⟩
    have HV := Lib.hid (show doV D ⟨2, n, nm, to_, tx, ts, TA, tc⟩ = E by unfold doV; simp only; rw [if_neg (by omega), if_pos trivial]; rw [← hp])
    have HRf := Lib.hid (show ∀ W : World, Touch (fun _ => False) w W → Calls Try.prog 77 #[.agg #[.int .i64 D.room, .slice A D.fs.length c, .bool D.down, .int .i64 D.armed, .int .u64 (D.steps : Int)], St nm, .int .i64 n] W fun e w' => ∃ A' c' F', e = .returned (.tuple #[.agg #[.int .i64 E.room, .slice A' E.fs.length c', .bool E.down, .int .i64 E.armed, .int .u64 (E.steps : Int)], .int .i64 v]) ∧ RfF w' F' A' E.fs ∧ (∀ q, F' q → RF q ∨ (W.heap.size ≤ q ∧ q < w'.heap.size)) ∧ Touch (fun _ => False) W w' from fun W hW => by
      have := fdcut_any D RF A c nm n W (hr.touch hW (fun _ _ e => e)) hd.ok (fun q hq => Nat.lt_of_lt_of_le (hRF q hq).1 hW.size) hst
      unfold RkP at this
      rw [← hp] at this
      exact this)
    have HPr := Lib.hid (show ∀ W : World, DkAt W g b m D F → Calls Try.prog 47 #[.pointer (some ⟨g, 0, none⟩), St nm, .int .i64 n] W fun e w' => e = .returned (.int .i64 v) ∧ ∃ F', DkAt w' g b m E F' ∧ (∀ q, F' q → F q ∨ (W.heap.size ≤ q ∧ q < w'.heap.size)) ∧ Touch (fun q => q = g ∨ q = b ∨ q = m) W w' from fun W h => by
      have := dcut_any h nm (by omega) n hst
      unfold DkC at this
      rw [← hp] at this
      exact this)
    clear hp hd hr hRF hG
    go_enter Try.func34, Try.ntmps34
    go_wp2_with (first
      | (go_at_call 77; rw [← HW1.out]; go_must (refine (HRf.out w1 HT1.out).mono ?_); rintro e w2 ⟨A2, c2, F2, rfl, hr2, hf2, t2⟩
         have HR2 := Lib.hid hr2
         have HF2 := Lib.hid hf2
         have HT2 := Lib.hid (HT1.out.trans t2 (fun _ _ e => e))
         have HB2 := Lib.hid (t2.blk HB1.out (fun e => e))
         have HO2 := Lib.hid (t2.blk HO1.out (fun e => e))
         have HS2 := Lib.hid (t2.blk HS1.out (fun e => e))
         have hs2 := t2.size
         have p0 := HB2.out.cell 0; have p1 := HB2.out.cell 1; have p2 := HB2.out.cell 2; have p3 := HB2.out.cell 3; have p4 := HB2.out.cell 4; simp at p0 p1 p2 p3 p4
         have m0 := HB2.out.frozen 0; have m1 := HB2.out.frozen 1; have m2 := HB2.out.frozen 2; have m3 := HB2.out.frozen 3; have m4 := HB2.out.frozen 4
         have x0 := HO2.out.cell 0; have x1 := HO2.out.cell 1; have x2 := HO2.out.cell 2; have x3 := HO2.out.cell 3; have x4 := HO2.out.cell 4; have x5 := HO2.out.cell 5; simp at x0 x1 x2 x3 x4 x5
         clear hr2 hf2 t2)
      | (go_at_call 47
         obtain ⟨w3, hw3⟩ : ∃ w3, w3 = (((((w2.setCell ⟨w.heap.size, 0, none⟩ (.int .i64 E.room)).setCell ⟨w.heap.size, 1, none⟩ (.slice A2 E.fs.length c2)).setCell ⟨w.heap.size, 2, none⟩ (.bool E.down)).setCell ⟨w.heap.size, 3, none⟩ (.int .i64 E.armed)).setCell ⟨w.heap.size, 4, none⟩ (.int .u64 (E.steps : Int))) := ⟨_, rfl⟩
         rw [← hw3]
         have t3 : Touch (fun q => q = w.heap.size) w2 w3 := by rw [hw3]; exact tch5 _ _ _ _ _ _
         have hb3 : Blk w3 w.heap.size 67 #[.int .i64 E.room, .slice A2 E.fs.length c2, .bool E.down, .int .i64 E.armed, .int .u64 (E.steps : Int)] := by rw [hw3]; exact blk5 HB2.out _ _ _ _ _
         have hs3 := t3.size
         have tw3 := HT2.out.trans t3 (fun q hq e => by omega)
         have hd3 := HD.out.far (tw3.mono (S' := fun _ => False) (fun _ _ e => e))
         go_must (refine (HPr.out w3 hd3 ).mono ?_); rintro e w4 ⟨rfl, F4, hd4, hf4, t4⟩
         have HB4 := Lib.hid (t4.blk hb3 (by omega))
         have HS4 := Lib.hid (t4.blk (t3.blk HS2.out (by omega)) (by omega))
         have HD4 := Lib.hid hd4
         have HF4 := Lib.hid hf4
         have HT34 := Lib.hid (t3.mono (S' := fun q => q = w.heap.size) (fun _ _ e => e))
         have HT4 := Lib.hid t4
         have hs4 := t4.size
         clear p0 p1 p2 p3 p4 m0 m1 m2 m3 m4
         have p0 := HB4.out.cell 0; have p1 := HB4.out.cell 1; have p2 := HB4.out.cell 2; have p3 := HB4.out.cell 3; have p4 := HB4.out.cell 4; simp at p0 p1 p2 p3 p4
         have m0 := HB4.out.frozen 0; have m1 := HB4.out.frozen 1; have m2 := HB4.out.frozen 2; have m3 := HB4.out.frozen 3; have m4 := HB4.out.frozen 4
         have y0 := HS4.out.cell 0; have y1 := HS4.out.cell 1; have y2 := HS4.out.cell 2; have y3 := HS4.out.cell 3; have y4 := HS4.out.cell 4; simp at y0 y1 y2 y3 y4
         have z0 := HS4.out.frozen 0; have z1 := HS4.out.frozen 1; have z2 := HS4.out.frozen 2; have z3 := HS4.out.frozen 3; have z4 := HS4.out.frozen 4
         clear hd4 hf4 t4 hb3 hd3 tw3 t3 hw3))
    have tz := tch5 (w := w4) (w.heap.size + 1 + 1) (.int .i64 E.room) (.slice A2 E.fs.length c2) (.bool E.down) (.int .i64 E.armed) (.int .u64 (E.steps : Int))
    have hz := tz.size
    refine bodyPost_ret (results_cell2 (cs := rdA A2 c2 E) 6 7 rowRd rfl (by exact fin5 HS4.out _ _ _ _ _) rfl rfl) rfl ?_
    rw [HV.out]
    have hg4 := HT4.out
    refine ⟨A2, c2, F4, F2, rfl, HD4.out.touch tz (by omega) (by omega) (by omega) (fun q hq e => by rcases HF4.out q hq with h | h; have := HFl.out q h; omega; omega), ((HR2.out.touch HT34.out (fun q hq e => by rcases HF2.out q hq with h | h; have := HRF.out q h; omega; omega)).touch hg4 (fun q hq e => by rcases HF2.out q hq with h | h; have := HRF.out q h; omega; omega)).touch tz (fun q hq e => by rcases HF2.out q hq with h | h; have := HRF.out q h; omega; omega), fun q hq => ?_, fun q hq => ?_, ?_⟩
    · rcases HF4.out q hq with h | h
      · exact .inl h
      · exact .inr (by omega)
    · rcases HF2.out q hq with h | h
      · exact .inl h
      · exact .inr (by omega)
    · exact (((HT2.out.trans HT34.out (fun q hq e => by omega)).mono (S' := fun q => q = g ∨ q = b ∨ q = m) (fun _ _ e => e.elim)).trans hg4 (fun _ _ e => e)).trans tz (fun q hq e => by omega)
  · obtain ⟨⟨E, v⟩, hp⟩ : ∃ p, p = D.remove nm := ⟨_, rfl⟩
    have HV := Lib.hid (show doV D ⟨3, n, nm, to_, tx, ts, TA, tc⟩ = E by unfold doV; simp only; rw [if_neg (by omega), if_neg (by omega), if_pos trivial]; rw [← hp])
    have HRf := Lib.hid (show ∀ W : World, Touch (fun _ => False) w W → Calls Try.prog 78 #[.agg #[.int .i64 D.room, .slice A D.fs.length c, .bool D.down, .int .i64 D.armed, .int .u64 (D.steps : Int)], St nm] W fun e w' => ∃ A' c' F', e = .returned (.tuple #[.agg #[.int .i64 E.room, .slice A' E.fs.length c', .bool E.down, .int .i64 E.armed, .int .u64 (E.steps : Int)], .int .i64 v]) ∧ RfF w' F' A' E.fs ∧ (∀ q, F' q → RF q ∨ (W.heap.size ≤ q ∧ q < w'.heap.size)) ∧ Touch (fun _ => False) W w' from fun W hW => by
      have := fremove_any D RF A c nm W (hr.touch hW (fun _ _ e => e)) hd.ok (fun q hq => Nat.lt_of_lt_of_le (hRF q hq).1 hW.size) hst
      unfold RkP at this
      rw [← hp] at this
      exact this)
    have HPr := Lib.hid (show ∀ W : World, DkAt W g b m D F → Calls Try.prog 48 #[.pointer (some ⟨g, 0, none⟩), St nm] W fun e w' => e = .returned (.int .i64 v) ∧ ∃ F', DkAt w' g b m E F' ∧ (∀ q, F' q → F q ∨ (W.heap.size ≤ q ∧ q < w'.heap.size)) ∧ Touch (fun q => q = g ∨ q = b ∨ q = m) W w' from fun W h => by
      have := dremove_any h nm (by omega) hst
      unfold DkC at this
      rw [← hp] at this
      exact this)
    clear hp hd hr hRF hG
    go_enter Try.func34, Try.ntmps34
    go_wp2_with (first
      | (go_at_call 78; rw [← HW1.out]; go_must (refine (HRf.out w1 HT1.out).mono ?_); rintro e w2 ⟨A2, c2, F2, rfl, hr2, hf2, t2⟩
         have HR2 := Lib.hid hr2
         have HF2 := Lib.hid hf2
         have HT2 := Lib.hid (HT1.out.trans t2 (fun _ _ e => e))
         have HB2 := Lib.hid (t2.blk HB1.out (fun e => e))
         have HO2 := Lib.hid (t2.blk HO1.out (fun e => e))
         have HS2 := Lib.hid (t2.blk HS1.out (fun e => e))
         have hs2 := t2.size
         have p0 := HB2.out.cell 0; have p1 := HB2.out.cell 1; have p2 := HB2.out.cell 2; have p3 := HB2.out.cell 3; have p4 := HB2.out.cell 4; simp at p0 p1 p2 p3 p4
         have m0 := HB2.out.frozen 0; have m1 := HB2.out.frozen 1; have m2 := HB2.out.frozen 2; have m3 := HB2.out.frozen 3; have m4 := HB2.out.frozen 4
         have x0 := HO2.out.cell 0; have x1 := HO2.out.cell 1; have x2 := HO2.out.cell 2; have x3 := HO2.out.cell 3; have x4 := HO2.out.cell 4; have x5 := HO2.out.cell 5; simp at x0 x1 x2 x3 x4 x5
         clear hr2 hf2 t2)
      | (go_at_call 48
         obtain ⟨w3, hw3⟩ : ∃ w3, w3 = (((((w2.setCell ⟨w.heap.size, 0, none⟩ (.int .i64 E.room)).setCell ⟨w.heap.size, 1, none⟩ (.slice A2 E.fs.length c2)).setCell ⟨w.heap.size, 2, none⟩ (.bool E.down)).setCell ⟨w.heap.size, 3, none⟩ (.int .i64 E.armed)).setCell ⟨w.heap.size, 4, none⟩ (.int .u64 (E.steps : Int))) := ⟨_, rfl⟩
         rw [← hw3]
         have t3 : Touch (fun q => q = w.heap.size) w2 w3 := by rw [hw3]; exact tch5 _ _ _ _ _ _
         have hb3 : Blk w3 w.heap.size 67 #[.int .i64 E.room, .slice A2 E.fs.length c2, .bool E.down, .int .i64 E.armed, .int .u64 (E.steps : Int)] := by rw [hw3]; exact blk5 HB2.out _ _ _ _ _
         have hs3 := t3.size
         have tw3 := HT2.out.trans t3 (fun q hq e => by omega)
         have hd3 := HD.out.far (tw3.mono (S' := fun _ => False) (fun _ _ e => e))
         go_must (refine (HPr.out w3 hd3 ).mono ?_); rintro e w4 ⟨rfl, F4, hd4, hf4, t4⟩
         have HB4 := Lib.hid (t4.blk hb3 (by omega))
         have HS4 := Lib.hid (t4.blk (t3.blk HS2.out (by omega)) (by omega))
         have HD4 := Lib.hid hd4
         have HF4 := Lib.hid hf4
         have HT34 := Lib.hid (t3.mono (S' := fun q => q = w.heap.size) (fun _ _ e => e))
         have HT4 := Lib.hid t4
         have hs4 := t4.size
         clear p0 p1 p2 p3 p4 m0 m1 m2 m3 m4
         have p0 := HB4.out.cell 0; have p1 := HB4.out.cell 1; have p2 := HB4.out.cell 2; have p3 := HB4.out.cell 3; have p4 := HB4.out.cell 4; simp at p0 p1 p2 p3 p4
         have m0 := HB4.out.frozen 0; have m1 := HB4.out.frozen 1; have m2 := HB4.out.frozen 2; have m3 := HB4.out.frozen 3; have m4 := HB4.out.frozen 4
         have y0 := HS4.out.cell 0; have y1 := HS4.out.cell 1; have y2 := HS4.out.cell 2; have y3 := HS4.out.cell 3; have y4 := HS4.out.cell 4; simp at y0 y1 y2 y3 y4
         have z0 := HS4.out.frozen 0; have z1 := HS4.out.frozen 1; have z2 := HS4.out.frozen 2; have z3 := HS4.out.frozen 3; have z4 := HS4.out.frozen 4
         clear hd4 hf4 t4 hb3 hd3 tw3 t3 hw3))
    have tz := tch5 (w := w4) (w.heap.size + 1 + 1) (.int .i64 E.room) (.slice A2 E.fs.length c2) (.bool E.down) (.int .i64 E.armed) (.int .u64 (E.steps : Int))
    have hz := tz.size
    refine bodyPost_ret (results_cell2 (cs := rdA A2 c2 E) 6 7 rowRd rfl (by exact fin5 HS4.out _ _ _ _ _) rfl rfl) rfl ?_
    rw [HV.out]
    have hg4 := HT4.out
    refine ⟨A2, c2, F4, F2, rfl, HD4.out.touch tz (by omega) (by omega) (by omega) (fun q hq e => by rcases HF4.out q hq with h | h; have := HFl.out q h; omega; omega), ((HR2.out.touch HT34.out (fun q hq e => by rcases HF2.out q hq with h | h; have := HRF.out q h; omega; omega)).touch hg4 (fun q hq e => by rcases HF2.out q hq with h | h; have := HRF.out q h; omega; omega)).touch tz (fun q hq e => by rcases HF2.out q hq with h | h; have := HRF.out q h; omega; omega), fun q hq => ?_, fun q hq => ?_, ?_⟩
    · rcases HF4.out q hq with h | h
      · exact .inl h
      · exact .inr (by omega)
    · rcases HF2.out q hq with h | h
      · exact .inl h
      · exact .inr (by omega)
    · exact (((HT2.out.trans HT34.out (fun q hq e => by omega)).mono (S' := fun q => q = g ∨ q = b ∨ q = m) (fun _ _ e => e.elim)).trans hg4 (fun _ _ e => e)).trans tz (fun q hq e => by omega)
  · obtain ⟨⟨E, v⟩, hp⟩ : ∃ p, p = D.move nm to_ := ⟨_, rfl⟩
    have HV := Lib.hid (show doV D ⟨4, n, nm, to_, tx, ts, TA, tc⟩ = E by unfold doV; simp only; rw [if_neg (by omega), if_neg (by omega), if_neg (by omega), if_pos trivial]; rw [← hp])
    have HRf := Lib.hid (show ∀ W : World, Touch (fun _ => False) w W → Calls Try.prog 79 #[.agg #[.int .i64 D.room, .slice A D.fs.length c, .bool D.down, .int .i64 D.armed, .int .u64 (D.steps : Int)], St nm, St to_] W fun e w' => ∃ A' c' F', e = .returned (.tuple #[.agg #[.int .i64 E.room, .slice A' E.fs.length c', .bool E.down, .int .i64 E.armed, .int .u64 (E.steps : Int)], .int .i64 v]) ∧ RfF w' F' A' E.fs ∧ (∀ q, F' q → RF q ∨ (W.heap.size ≤ q ∧ q < w'.heap.size)) ∧ Touch (fun _ => False) W w' from fun W hW => by
      have := fmove_any D RF A c nm to_ (by omega) W (hr.touch hW (fun _ _ e => e)) hd.ok (fun q hq => Nat.lt_of_lt_of_le (hRF q hq).1 hW.size) hst
      unfold RkP at this
      rw [← hp] at this
      exact this)
    have HPr := Lib.hid (show ∀ W : World, DkAt W g b m D F → Calls Try.prog 49 #[.pointer (some ⟨g, 0, none⟩), St nm, St to_] W fun e w' => e = .returned (.int .i64 v) ∧ ∃ F', DkAt w' g b m E F' ∧ (∀ q, F' q → F q ∨ (W.heap.size ≤ q ∧ q < w'.heap.size)) ∧ Touch (fun q => q = g ∨ q = b ∨ q = m) W w' from fun W h => by
      have := dmove_any h nm (by omega) to_ (by omega) hst
      unfold DkC at this
      rw [← hp] at this
      exact this)
    clear hp hd hr hRF hG
    go_enter Try.func34, Try.ntmps34
    go_wp2_with (first
      | (go_at_call 79; rw [← HW1.out]; go_must (refine (HRf.out w1 HT1.out).mono ?_); rintro e w2 ⟨A2, c2, F2, rfl, hr2, hf2, t2⟩
         have HR2 := Lib.hid hr2
         have HF2 := Lib.hid hf2
         have HT2 := Lib.hid (HT1.out.trans t2 (fun _ _ e => e))
         have HB2 := Lib.hid (t2.blk HB1.out (fun e => e))
         have HO2 := Lib.hid (t2.blk HO1.out (fun e => e))
         have HS2 := Lib.hid (t2.blk HS1.out (fun e => e))
         have hs2 := t2.size
         have p0 := HB2.out.cell 0; have p1 := HB2.out.cell 1; have p2 := HB2.out.cell 2; have p3 := HB2.out.cell 3; have p4 := HB2.out.cell 4; simp at p0 p1 p2 p3 p4
         have m0 := HB2.out.frozen 0; have m1 := HB2.out.frozen 1; have m2 := HB2.out.frozen 2; have m3 := HB2.out.frozen 3; have m4 := HB2.out.frozen 4
         have x0 := HO2.out.cell 0; have x1 := HO2.out.cell 1; have x2 := HO2.out.cell 2; have x3 := HO2.out.cell 3; have x4 := HO2.out.cell 4; have x5 := HO2.out.cell 5; simp at x0 x1 x2 x3 x4 x5
         clear hr2 hf2 t2)
      | (go_at_call 49
         obtain ⟨w3, hw3⟩ : ∃ w3, w3 = (((((w2.setCell ⟨w.heap.size, 0, none⟩ (.int .i64 E.room)).setCell ⟨w.heap.size, 1, none⟩ (.slice A2 E.fs.length c2)).setCell ⟨w.heap.size, 2, none⟩ (.bool E.down)).setCell ⟨w.heap.size, 3, none⟩ (.int .i64 E.armed)).setCell ⟨w.heap.size, 4, none⟩ (.int .u64 (E.steps : Int))) := ⟨_, rfl⟩
         rw [← hw3]
         have t3 : Touch (fun q => q = w.heap.size) w2 w3 := by rw [hw3]; exact tch5 _ _ _ _ _ _
         have hb3 : Blk w3 w.heap.size 67 #[.int .i64 E.room, .slice A2 E.fs.length c2, .bool E.down, .int .i64 E.armed, .int .u64 (E.steps : Int)] := by rw [hw3]; exact blk5 HB2.out _ _ _ _ _
         have hs3 := t3.size
         have tw3 := HT2.out.trans t3 (fun q hq e => by omega)
         have hd3 := HD.out.far (tw3.mono (S' := fun _ => False) (fun _ _ e => e))
         go_must (refine (HPr.out w3 hd3 ).mono ?_); rintro e w4 ⟨rfl, F4, hd4, hf4, t4⟩
         have HB4 := Lib.hid (t4.blk hb3 (by omega))
         have HS4 := Lib.hid (t4.blk (t3.blk HS2.out (by omega)) (by omega))
         have HD4 := Lib.hid hd4
         have HF4 := Lib.hid hf4
         have HT34 := Lib.hid (t3.mono (S' := fun q => q = w.heap.size) (fun _ _ e => e))
         have HT4 := Lib.hid t4
         have hs4 := t4.size
         clear p0 p1 p2 p3 p4 m0 m1 m2 m3 m4
         have p0 := HB4.out.cell 0; have p1 := HB4.out.cell 1; have p2 := HB4.out.cell 2; have p3 := HB4.out.cell 3; have p4 := HB4.out.cell 4; simp at p0 p1 p2 p3 p4
         have m0 := HB4.out.frozen 0; have m1 := HB4.out.frozen 1; have m2 := HB4.out.frozen 2; have m3 := HB4.out.frozen 3; have m4 := HB4.out.frozen 4
         have y0 := HS4.out.cell 0; have y1 := HS4.out.cell 1; have y2 := HS4.out.cell 2; have y3 := HS4.out.cell 3; have y4 := HS4.out.cell 4; simp at y0 y1 y2 y3 y4
         have z0 := HS4.out.frozen 0; have z1 := HS4.out.frozen 1; have z2 := HS4.out.frozen 2; have z3 := HS4.out.frozen 3; have z4 := HS4.out.frozen 4
         clear hd4 hf4 t4 hb3 hd3 tw3 t3 hw3))
    have tz := tch5 (w := w4) (w.heap.size + 1 + 1) (.int .i64 E.room) (.slice A2 E.fs.length c2) (.bool E.down) (.int .i64 E.armed) (.int .u64 (E.steps : Int))
    have hz := tz.size
    refine bodyPost_ret (results_cell2 (cs := rdA A2 c2 E) 6 7 rowRd rfl (by exact fin5 HS4.out _ _ _ _ _) rfl rfl) rfl ?_
    rw [HV.out]
    have hg4 := HT4.out
    refine ⟨A2, c2, F4, F2, rfl, HD4.out.touch tz (by omega) (by omega) (by omega) (fun q hq e => by rcases HF4.out q hq with h | h; have := HFl.out q h; omega; omega), ((HR2.out.touch HT34.out (fun q hq e => by rcases HF2.out q hq with h | h; have := HRF.out q h; omega; omega)).touch hg4 (fun q hq e => by rcases HF2.out q hq with h | h; have := HRF.out q h; omega; omega)).touch tz (fun q hq e => by rcases HF2.out q hq with h | h; have := HRF.out q h; omega; omega), fun q hq => ?_, fun q hq => ?_, ?_⟩
    · rcases HF4.out q hq with h | h
      · exact .inl h
      · exact .inr (by omega)
    · rcases HF2.out q hq with h | h
      · exact .inl h
      · exact .inr (by omega)
    · exact (((HT2.out.trans HT34.out (fun q hq e => by omega)).mono (S' := fun q => q = g ∨ q = b ∨ q = m) (fun _ _ e => e.elim)).trans hg4 (fun _ _ e => e)).trans tz (fun q hq e => by omega)
  · obtain ⟨⟨L, v⟩, hp⟩ : ∃ p, p = D.read nm := ⟨_, rfl⟩
    have HV := Lib.hid (show doV D ⟨5, n, nm, to_, tx, ts, TA, tc⟩ = D by unfold doV; simp only; rw [if_neg (by omega), if_neg (by omega), if_neg (by omega), if_neg (by omega), if_pos trivial])
    have HRf := Lib.hid (show ∀ W : World, Touch (fun _ => False) w W → Calls Try.prog 80 #[.agg #[.int .i64 D.room, .slice A D.fs.length c, .bool D.down, .int .i64 D.armed, .int .u64 (D.steps : Int)], St nm] W fun e w' => e = .returned (.tuple #[St L, .int .i64 v]) ∧ Touch (fun _ => False) W w' from fun W hW => by
      have := fdread_any D RF A c nm W (hr.touch hW (fun _ _ e => e)) hd.ok.n
      rw [← hp] at this
      exact this)
    have HPr := Lib.hid (show ∀ W : World, DkAt W g b m D F → Calls Try.prog 52 #[.pointer (some ⟨g, 0, none⟩), St nm] W fun e w' => ∃ A c, e = .returned (.tuple #[.slice A L.length c, .int .i64 v]) ∧ BtR w' (fun q => W.heap.size ≤ q) A c L ∧ Touch (fun _ => False) W w' from fun W h => by
      have := dread_any h nm (by omega)
      unfold RdkP at this
      rw [← hp] at this
      exact this)
    clear hp hd hr hRF hG
    go_enter Try.func34, Try.ntmps34
    go_wp2_with (first
      | (go_at_call 80; rw [← HW1.out]; go_must (refine (HRf.out w1 HT1.out).mono ?_); rintro e w2 ⟨rfl, t2⟩
         have HT2 := Lib.hid (HT1.out.trans t2 (fun _ _ e => e))
         have HB2 := Lib.hid (t2.blk HB1.out (fun e => e))
         have HO2 := Lib.hid (t2.blk HO1.out (fun e => e))
         have HS2 := Lib.hid (t2.blk HS1.out (fun e => e))
         have hs2 := t2.size
         have x0 := HO2.out.cell 0; have x1 := HO2.out.cell 1; have x2 := HO2.out.cell 2; have x3 := HO2.out.cell 3; have x4 := HO2.out.cell 4; have x5 := HO2.out.cell 5; simp at x0 x1 x2 x3 x4 x5
         clear t2)
      | (go_at_call 52; go_must (refine (HPr.out w2 (HD.out.far HT2.out)).mono ?_); rintro e w4 ⟨A4, c4, rfl, hb4, t4⟩
         have hcv := hb4.1.str c4
         have HT4 := Lib.hid (HT2.out.trans t4 (fun _ _ e => e))
         have HB4 := Lib.hid (t4.blk HB2.out (fun e => e))
         have HS4 := Lib.hid (t4.blk HS2.out (fun e => e))
         have hs4 := t4.size
         have p0 := HB4.out.cell 0; have p1 := HB4.out.cell 1; have p2 := HB4.out.cell 2; have p3 := HB4.out.cell 3; have p4 := HB4.out.cell 4; simp at p0 p1 p2 p3 p4
         have m0 := HB4.out.frozen 0; have m1 := HB4.out.frozen 1; have m2 := HB4.out.frozen 2; have m3 := HB4.out.frozen 3; have m4 := HB4.out.frozen 4
         have y0 := HS4.out.cell 0; have y1 := HS4.out.cell 1; have y2 := HS4.out.cell 2; have y3 := HS4.out.cell 3; have y4 := HS4.out.cell 4; simp at y0 y1 y2 y3 y4
         have z0 := HS4.out.frozen 0; have z1 := HS4.out.frozen 1; have z2 := HS4.out.frozen 2; have z3 := HS4.out.frozen 3; have z4 := HS4.out.frozen 4
         clear hb4 t4))
    have tz := tch5 (w := w4) (w.heap.size + 1 + 1) (.int .i64 D.room) (.slice A D.fs.length c) (.bool D.down) (.int .i64 D.armed) (.int .u64 (D.steps : Int))
    have hz := tz.size
    refine bodyPost_ret (results_cell2 (cs := rdA A c D) 6 7 rowRd rfl (by exact fin5 HS4.out _ _ _ _ _) rfl rfl) rfl ?_
    rw [HV.out]
    have t4 := HT4.out.trans tz (fun q hq e => by omega)
    exact ⟨A, c, F, RF, by simp, HD.out.far (t4.mono (fun _ _ e => e)), HR.out.touch t4 (fun _ _ e => e), fun q hq => .inl hq, fun q hq => .inl hq, t4.mono (fun _ _ e => e.elim)⟩
  · obtain ⟨⟨E, v⟩, hp⟩ : ∃ p, p = D.arm n := ⟨_, rfl⟩
    have HV := Lib.hid (show doV D ⟨6, n, nm, to_, tx, ts, TA, tc⟩ = E by unfold doV; simp only; rw [if_neg (by omega), if_neg (by omega), if_neg (by omega), if_neg (by omega), if_neg (by omega), if_pos trivial]; rw [← hp])
    have HRf := Lib.hid (show ∀ W : World, Touch (fun _ => False) w W → Calls Try.prog 81 #[.agg #[.int .i64 D.room, .slice A D.fs.length c, .bool D.down, .int .i64 D.armed, .int .u64 (D.steps : Int)], .int .i64 n] W fun e w' => ∃ A' c' F', e = .returned (.tuple #[.agg #[.int .i64 E.room, .slice A' E.fs.length c', .bool E.down, .int .i64 E.armed, .int .u64 (E.steps : Int)], .int .i64 v]) ∧ RfF w' F' A' E.fs ∧ (∀ q, F' q → RF q ∨ (W.heap.size ≤ q ∧ q < w'.heap.size)) ∧ Touch (fun _ => False) W w' from fun W hW => by
      have := farm_any D RF A c n W (hr.touch hW (fun _ _ e => e))
      unfold RkP at this
      rw [← hp] at this
      exact this)
    have HPr := Lib.hid (show ∀ W : World, DkAt W g b m D F → Calls Try.prog 44 #[.pointer (some ⟨g, 0, none⟩), .int .i64 n] W fun e w' => e = .returned (.int .i64 v) ∧ ∃ F', DkAt w' g b m E F' ∧ (∀ q, F' q → F q ∨ (W.heap.size ≤ q ∧ q < w'.heap.size)) ∧ Touch (fun q => q = g ∨ q = b ∨ q = m) W w' from fun W h => by
      have := darm_any h n (by omega)
      unfold DkC at this
      rw [← hp] at this
      exact this)
    clear hp hd hr hRF hG
    go_enter Try.func34, Try.ntmps34
    go_wp2_with (first
      | (go_at_call 81; rw [← HW1.out]; go_must (refine (HRf.out w1 HT1.out).mono ?_); rintro e w2 ⟨A2, c2, F2, rfl, hr2, hf2, t2⟩
         have HR2 := Lib.hid hr2
         have HF2 := Lib.hid hf2
         have HT2 := Lib.hid (HT1.out.trans t2 (fun _ _ e => e))
         have HB2 := Lib.hid (t2.blk HB1.out (fun e => e))
         have HO2 := Lib.hid (t2.blk HO1.out (fun e => e))
         have HS2 := Lib.hid (t2.blk HS1.out (fun e => e))
         have hs2 := t2.size
         have p0 := HB2.out.cell 0; have p1 := HB2.out.cell 1; have p2 := HB2.out.cell 2; have p3 := HB2.out.cell 3; have p4 := HB2.out.cell 4; simp at p0 p1 p2 p3 p4
         have m0 := HB2.out.frozen 0; have m1 := HB2.out.frozen 1; have m2 := HB2.out.frozen 2; have m3 := HB2.out.frozen 3; have m4 := HB2.out.frozen 4
         have x0 := HO2.out.cell 0; have x1 := HO2.out.cell 1; have x2 := HO2.out.cell 2; have x3 := HO2.out.cell 3; have x4 := HO2.out.cell 4; have x5 := HO2.out.cell 5; simp at x0 x1 x2 x3 x4 x5
         clear hr2 hf2 t2)
      | (go_at_call 44
         obtain ⟨w3, hw3⟩ : ∃ w3, w3 = (((((w2.setCell ⟨w.heap.size, 0, none⟩ (.int .i64 E.room)).setCell ⟨w.heap.size, 1, none⟩ (.slice A2 E.fs.length c2)).setCell ⟨w.heap.size, 2, none⟩ (.bool E.down)).setCell ⟨w.heap.size, 3, none⟩ (.int .i64 E.armed)).setCell ⟨w.heap.size, 4, none⟩ (.int .u64 (E.steps : Int))) := ⟨_, rfl⟩
         rw [← hw3]
         have t3 : Touch (fun q => q = w.heap.size) w2 w3 := by rw [hw3]; exact tch5 _ _ _ _ _ _
         have hb3 : Blk w3 w.heap.size 67 #[.int .i64 E.room, .slice A2 E.fs.length c2, .bool E.down, .int .i64 E.armed, .int .u64 (E.steps : Int)] := by rw [hw3]; exact blk5 HB2.out _ _ _ _ _
         have hs3 := t3.size
         have tw3 := HT2.out.trans t3 (fun q hq e => by omega)
         have hd3 := HD.out.far (tw3.mono (S' := fun _ => False) (fun _ _ e => e))
         go_must (refine (HPr.out w3 hd3 ).mono ?_); rintro e w4 ⟨rfl, F4, hd4, hf4, t4⟩
         have HB4 := Lib.hid (t4.blk hb3 (by omega))
         have HS4 := Lib.hid (t4.blk (t3.blk HS2.out (by omega)) (by omega))
         have HD4 := Lib.hid hd4
         have HF4 := Lib.hid hf4
         have HT34 := Lib.hid (t3.mono (S' := fun q => q = w.heap.size) (fun _ _ e => e))
         have HT4 := Lib.hid t4
         have hs4 := t4.size
         clear p0 p1 p2 p3 p4 m0 m1 m2 m3 m4
         have p0 := HB4.out.cell 0; have p1 := HB4.out.cell 1; have p2 := HB4.out.cell 2; have p3 := HB4.out.cell 3; have p4 := HB4.out.cell 4; simp at p0 p1 p2 p3 p4
         have m0 := HB4.out.frozen 0; have m1 := HB4.out.frozen 1; have m2 := HB4.out.frozen 2; have m3 := HB4.out.frozen 3; have m4 := HB4.out.frozen 4
         have y0 := HS4.out.cell 0; have y1 := HS4.out.cell 1; have y2 := HS4.out.cell 2; have y3 := HS4.out.cell 3; have y4 := HS4.out.cell 4; simp at y0 y1 y2 y3 y4
         have z0 := HS4.out.frozen 0; have z1 := HS4.out.frozen 1; have z2 := HS4.out.frozen 2; have z3 := HS4.out.frozen 3; have z4 := HS4.out.frozen 4
         clear hd4 hf4 t4 hb3 hd3 tw3 t3 hw3))
    have tz := tch5 (w := w4) (w.heap.size + 1 + 1) (.int .i64 E.room) (.slice A2 E.fs.length c2) (.bool E.down) (.int .i64 E.armed) (.int .u64 (E.steps : Int))
    have hz := tz.size
    refine bodyPost_ret (results_cell2 (cs := rdA A2 c2 E) 6 7 rowRd rfl (by exact fin5 HS4.out _ _ _ _ _) rfl rfl) rfl ?_
    rw [HV.out]
    have hg4 := HT4.out
    refine ⟨A2, c2, F4, F2, rfl, HD4.out.touch tz (by omega) (by omega) (by omega) (fun q hq e => by rcases HF4.out q hq with h | h; have := HFl.out q h; omega; omega), ((HR2.out.touch HT34.out (fun q hq e => by rcases HF2.out q hq with h | h; have := HRF.out q h; omega; omega)).touch hg4 (fun q hq e => by rcases HF2.out q hq with h | h; have := HRF.out q h; omega; omega)).touch tz (fun q hq e => by rcases HF2.out q hq with h | h; have := HRF.out q h; omega; omega), fun q hq => ?_, fun q hq => ?_, ?_⟩
    · rcases HF4.out q hq with h | h
      · exact .inl h
      · exact .inr (by omega)
    · rcases HF2.out q hq with h | h
      · exact .inl h
      · exact .inr (by omega)
    · exact (((HT2.out.trans HT34.out (fun q hq e => by omega)).mono (S' := fun q => q = g ∨ q = b ∨ q = m) (fun _ _ e => e.elim)).trans hg4 (fun _ _ e => e)).trans tz (fun q hq e => by omega)
  · obtain ⟨E, hp⟩ : ∃ p, p = D.crash ts := ⟨_, rfl⟩
    have HV := Lib.hid (show doV D ⟨7, n, nm, to_, tx, ts, TA, tc⟩ = E by unfold doV; simp only; rw [if_neg (by omega), if_neg (by omega), if_neg (by omega), if_neg (by omega), if_neg (by omega), if_neg (by omega), if_pos trivial]; exact hp.symm)
    obtain ⟨v, hv⟩ : ∃ v : Int, v = 0 := ⟨_, rfl⟩
    have HTe := Lib.hid (show ∀ W : World, Touch (fun _ => False) w W → Calls Try.prog 83 #[.slice TA ts.length tc] W (TrsP ts W) from fun W hW => tears_any G TA tc ts W (ho5.touch hW (fun _ _ e => e)) (by omega))
    unfold TrsP at HTe
    have HRf := Lib.hid (show ∀ (W : World) (G' : Nat → Prop) (TA' : Option Addr) (tc' : Nat), Touch (fun _ => False) w W → TrR W G' TA' ts.length ts → Calls Try.prog 82 #[.agg #[.int .i64 D.room, .slice A D.fs.length c, .bool D.down, .int .i64 D.armed, .int .u64 (D.steps : Int)], .slice TA' ts.length tc'] W fun e w' => ∃ A' c' F', e = .returned (.agg #[.int .i64 E.room, .slice A' E.fs.length c', .bool E.down, .int .i64 E.armed, .int .u64 (E.steps : Int)]) ∧ RfF w' F' A' E.fs ∧ (∀ q, F' q → RF q ∨ (W.heap.size ≤ q ∧ q < w'.heap.size)) ∧ Touch (fun _ => False) W w' from fun W G' TA' tc' hW hT => by
      refine (fcrash_any D RF G' A TA' c tc' ts W (hr.touch hW (fun _ _ e => e)) hd.ok hT ho2 (by omega)).mono ?_
      rintro e w' ⟨A', c', rfl, hr', t⟩
      rw [← hp] at hr' ⊢
      exact ⟨A', c', _, rfl, hr', fun q hq => .inr hq, t⟩)
    have HPr := Lib.hid (show ∀ W : World, DkAt W g b m D F → w.heap.size ≤ W.heap.size → Touch (fun _ => False) w W → Calls Try.prog 43 #[.pointer (some ⟨g, 0, none⟩), .slice TA ts.length tc] W fun e w' => e = .returned (.int .i64 v) ∧ ∃ F', DkAt w' g b m E F' ∧ (∀ q, F' q → F q ∨ (W.heap.size ≤ q ∧ q < w'.heap.size)) ∧ Touch (fun q => q = g ∨ q = b ∨ q = m) W w' from fun W h hw hT => by
      have := dcrash_any h ts (ho5.touch hT (fun _ _ e => e)) (fun q hq => ⟨by have := hG q hq; omega, (hG q hq).2⟩) ⟨ho3, ho4⟩ ho2
      unfold DkC at this
      rw [← hp] at this
      subst hv
      exact this)
    clear hp hd hr hRF hG
    subst hv
    go_enter Try.func34, Try.ntmps34
    obtain ⟨W, hW⟩ : ∃ W, W = w1.drew := ⟨_, rfl⟩
    have tW : Touch (fun _ => False) w1 W := hW ▸ (Touch.refl _ _).drew
    have HTW := Lib.hid (HT1.out.trans tW (fun _ _ e => e))
    have hbW := tW.blk HB1.out (fun e => e)
    have hoW := tW.blk HO1.out (fun e => e)
    have HBW := Lib.hid hbW
    have HOW := Lib.hid hoW
    have HSW := Lib.hid (tW.blk HS1.out (fun e => e))
    have hsW := tW.size
    have p0 := hbW.cell 0; have p1 := hbW.cell 1; have p2 := hbW.cell 2; have p3 := hbW.cell 3; have p4 := hbW.cell 4; simp at p0 p1 p2 p3 p4
    have x0 := hoW.cell 0; have x1 := hoW.cell 1; have x2 := hoW.cell 2; have x3 := hoW.cell 3; have x4 := hoW.cell 4; have x5 := hoW.cell 5; simp at x0 x1 x2 x3 x4 x5
    have hpl := hbW.lt
    clear tW hbW hoW
    go_wp2_with fail
    rw [← HW1.out]
    refine wp_region_plan [(0, 1), (0, 2), (1, 0), (2, 3), (2, 4), (3, 5)] (fun _ => False) (by kernel_rfl) (by kernel_rfl) (fun c a d v w h => by cases d <;> exact h) ?_
    rw [← hW]
    clear hW
    iterate 2
      refine plan_s1 rfl (by rfl) (fun Kc hKc => ?_)
      go_simp
      first
        | (refine hKc _ ?_)
      clear hKc Kc
    iterate 1
      apply plan_h
      · rfl
      · rfl
      · intro wh hT
        have hf0 := (hT.cell (p := ⟨w.heap.size, 0, none⟩) hpl (fun e => e)).trans p0
        have hf1 := (hT.cell (p := ⟨w.heap.size, 1, none⟩) hpl (fun e => e)).trans p1
        have hf2 := (hT.cell (p := ⟨w.heap.size, 2, none⟩) hpl (fun e => e)).trans p2
        have hf3 := (hT.cell (p := ⟨w.heap.size, 3, none⟩) hpl (fun e => e)).trans p3
        have hf4 := (hT.cell (p := ⟨w.heap.size, 4, none⟩) hpl (fun e => e)).trans p4
        go_simp
        try rfl
      go_frame
    refine plan_a1 rfl (by rfl) (fun Kc hKc => ?_)
    go_simp
    refine (HTe.out W HTW.out).mono ?_
    rintro e wa ⟨TB, tcb, rfl, htb, ta⟩
    refine hKc _ _ ⟨ta, ?_⟩
    clear hKc Kc
    have HTb := Lib.hid htb
    have HTa := Lib.hid (HTW.out.trans ta (fun _ _ e => e))
    have HBa := Lib.hid (ta.blk HBW.out (fun e => e))
    have HOa := Lib.hid (ta.blk HOW.out (fun e => e))
    have HSa := Lib.hid (ta.blk HSW.out (fun e => e))
    have hsa := ta.size
    clear htb ta
    refine plan_a1 rfl (by rfl) (fun Kc hKc => ?_)
    go_simp
    refine (HRf.out wa _ TB tcb HTa.out HTb.out).mono ?_
    rintro e w2 ⟨A2, c2, F2, rfl, hr2, hf2, t2⟩
    refine hKc _ _ ⟨t2, ?_⟩
    clear hKc Kc
    have HR2 := Lib.hid hr2
    have HF2 := Lib.hid hf2
    have HT2 := Lib.hid (HTa.out.trans t2 (fun _ _ e => e))
    have HB2 := Lib.hid (t2.blk HBa.out (fun e => e))
    have HO2 := Lib.hid (t2.blk HOa.out (fun e => e))
    have HS2 := Lib.hid (t2.blk HSa.out (fun e => e))
    have hs2 := t2.size
    clear p0 p1 p2 p3 p4 x0 x1 x2 x3 x4 x5 hr2 hf2 t2
    have p0 := HB2.out.cell 0; have p1 := HB2.out.cell 1; have p2 := HB2.out.cell 2; have p3 := HB2.out.cell 3; have p4 := HB2.out.cell 4; simp at p0 p1 p2 p3 p4
    have m0 := HB2.out.frozen 0; have m1 := HB2.out.frozen 1; have m2 := HB2.out.frozen 2; have m3 := HB2.out.frozen 3; have m4 := HB2.out.frozen 4
    have x0 := HO2.out.cell 0; have x1 := HO2.out.cell 1; have x2 := HO2.out.cell 2; have x3 := HO2.out.cell 3; have x4 := HO2.out.cell 4; have x5 := HO2.out.cell 5; simp at x0 x1 x2 x3 x4 x5
    refine plan_b1 rfl (by rfl) (fun Kc hKc => ?_)
    go_simp
    refine hKc _ _ ?_
    clear hKc Kc
    refine plan_done ?_
    go_wp2_with (first
      | (go_at_call 43
         obtain ⟨w3, hw3⟩ : ∃ w3, w3 = (((((w2.setCell ⟨w.heap.size, 0, none⟩ (.int .i64 E.room)).setCell ⟨w.heap.size, 1, none⟩ (.slice A2 E.fs.length c2)).setCell ⟨w.heap.size, 2, none⟩ (.bool E.down)).setCell ⟨w.heap.size, 3, none⟩ (.int .i64 E.armed)).setCell ⟨w.heap.size, 4, none⟩ (.int .u64 (E.steps : Int))) := ⟨_, rfl⟩
         rw [← hw3]
         have t3 : Touch (fun q => q = w.heap.size) w2 w3 := by rw [hw3]; exact tch5 _ _ _ _ _ _
         have hb3 : Blk w3 w.heap.size 67 #[.int .i64 E.room, .slice A2 E.fs.length c2, .bool E.down, .int .i64 E.armed, .int .u64 (E.steps : Int)] := by rw [hw3]; exact blk5 HB2.out _ _ _ _ _
         have hs3 := t3.size
         have tw3 := HT2.out.trans t3 (fun q hq e => by omega)
         have hd3 := HD.out.far (tw3.mono (S' := fun _ => False) (fun _ _ e => e))
         go_must (refine (HPr.out w3 hd3 (by omega) (by exact tw3)).mono ?_); rintro e w4 ⟨rfl, F4, hd4, hf4, t4⟩
         have HB4 := Lib.hid (t4.blk hb3 (by omega))
         have HS4 := Lib.hid (t4.blk (t3.blk HS2.out (by omega)) (by omega))
         have HD4 := Lib.hid hd4
         have HF4 := Lib.hid hf4
         have HT34 := Lib.hid (t3.mono (S' := fun q => q = w.heap.size) (fun _ _ e => e))
         have HT4 := Lib.hid t4
         have hs4 := t4.size
         clear p0 p1 p2 p3 p4 m0 m1 m2 m3 m4
         have p0 := HB4.out.cell 0; have p1 := HB4.out.cell 1; have p2 := HB4.out.cell 2; have p3 := HB4.out.cell 3; have p4 := HB4.out.cell 4; simp at p0 p1 p2 p3 p4
         have m0 := HB4.out.frozen 0; have m1 := HB4.out.frozen 1; have m2 := HB4.out.frozen 2; have m3 := HB4.out.frozen 3; have m4 := HB4.out.frozen 4
         have y0 := HS4.out.cell 0; have y1 := HS4.out.cell 1; have y2 := HS4.out.cell 2; have y3 := HS4.out.cell 3; have y4 := HS4.out.cell 4; simp at y0 y1 y2 y3 y4
         have z0 := HS4.out.frozen 0; have z1 := HS4.out.frozen 1; have z2 := HS4.out.frozen 2; have z3 := HS4.out.frozen 3; have z4 := HS4.out.frozen 4
         clear hd4 hf4 t4 hb3 hd3 tw3 t3 hw3))
    have tz := tch5 (w := w4) (w.heap.size + 1 + 1) (.int .i64 E.room) (.slice A2 E.fs.length c2) (.bool E.down) (.int .i64 E.armed) (.int .u64 (E.steps : Int))
    have hz := tz.size
    refine bodyPost_ret (results_cell2 (cs := rdA A2 c2 E) 6 7 rowRd rfl (by exact fin5 HS4.out _ _ _ _ _) rfl rfl) rfl ?_
    rw [HV.out]
    have hg4 := HT4.out
    refine ⟨A2, c2, F4, F2, rfl, HD4.out.touch tz (by omega) (by omega) (by omega) (fun q hq e => by rcases HF4.out q hq with h | h; have := HFl.out q h; omega; omega), ((HR2.out.touch HT34.out (fun q hq e => by rcases HF2.out q hq with h | h; have := HRF.out q h; omega; omega)).touch hg4 (fun q hq e => by rcases HF2.out q hq with h | h; have := HRF.out q h; omega; omega)).touch tz (fun q hq e => by rcases HF2.out q hq with h | h; have := HRF.out q h; omega; omega), fun q hq => ?_, fun q hq => ?_, ?_⟩
    · rcases HF4.out q hq with h | h
      · exact .inl h
      · exact .inr (by omega)
    · rcases HF2.out q hq with h | h
      · exact .inl h
      · exact .inr (by omega)
    · exact (((HT2.out.trans HT34.out (fun q hq e => by omega)).mono (S' := fun q => q = g ∨ q = b ∨ q = m) (fun _ _ e => e.elim)).trans hg4 (fun _ _ e => e)).trans tz (fun q hq e => by omega)
  · obtain ⟨E, hp⟩ : ∃ p, p = D.boot := ⟨_, rfl⟩
    have HV := Lib.hid (show doV D ⟨8, n, nm, to_, tx, ts, TA, tc⟩ = E by unfold doV; simp only; rw [if_neg (by omega), if_neg (by omega), if_neg (by omega), if_neg (by omega), if_neg (by omega), if_neg (by omega), if_neg (by omega), if_pos trivial]; exact hp.symm)
    obtain ⟨v, hv⟩ : ∃ v : Int, v = 0 := ⟨_, rfl⟩
    have HRf := Lib.hid (show ∀ W : World, Touch (fun _ => False) w W → Calls Try.prog 84 #[.agg #[.int .i64 D.room, .slice A D.fs.length c, .bool D.down, .int .i64 D.armed, .int .u64 (D.steps : Int)]] W fun e w' => ∃ A' c' F', e = .returned (.agg #[.int .i64 E.room, .slice A' E.fs.length c', .bool E.down, .int .i64 E.armed, .int .u64 (E.steps : Int)]) ∧ RfF w' F' A' E.fs ∧ (∀ q, F' q → RF q ∨ (W.heap.size ≤ q ∧ q < w'.heap.size)) ∧ Touch (fun _ => False) W w' from fun W hW => by
      refine (fboot_any D A c W).mono ?_
      rintro e w' ⟨rfl, t⟩
      rw [hp]
      exact ⟨A, c, RF, rfl, (hr.touch hW (fun _ _ e => e)).touch t (fun _ _ e => e), fun q hq => .inl hq, t⟩)
    have HPr := Lib.hid (show ∀ W : World, DkAt W g b m D F → w.heap.size ≤ W.heap.size → Touch (fun _ => False) w W → Calls Try.prog 51 #[.pointer (some ⟨g, 0, none⟩)] W fun e w' => e = .returned (.int .i64 v) ∧ ∃ F', DkAt w' g b m E F' ∧ (∀ q, F' q → F q ∨ (W.heap.size ≤ q ∧ q < w'.heap.size)) ∧ Touch (fun q => q = g ∨ q = b ∨ q = m) W w' from fun W h hw hT => by
      have := dboot_any h
      unfold DkC at this
      rw [← hp] at this
      subst hv
      exact this)
    clear hp hd hr hRF hG
    subst hv
    go_enter Try.func34, Try.ntmps34
    go_wp2_with (first
      | (go_at_call 84; rw [← HW1.out]; go_must (refine (HRf.out w1 HT1.out).mono ?_); rintro e w2 ⟨A2, c2, F2, rfl, hr2, hf2, t2⟩
         have HR2 := Lib.hid hr2
         have HF2 := Lib.hid hf2
         have HT2 := Lib.hid (HT1.out.trans t2 (fun _ _ e => e))
         have HB2 := Lib.hid (t2.blk HB1.out (fun e => e))
         have HO2 := Lib.hid (t2.blk HO1.out (fun e => e))
         have HS2 := Lib.hid (t2.blk HS1.out (fun e => e))
         have hs2 := t2.size
         have p0 := HB2.out.cell 0; have p1 := HB2.out.cell 1; have p2 := HB2.out.cell 2; have p3 := HB2.out.cell 3; have p4 := HB2.out.cell 4; simp at p0 p1 p2 p3 p4
         have m0 := HB2.out.frozen 0; have m1 := HB2.out.frozen 1; have m2 := HB2.out.frozen 2; have m3 := HB2.out.frozen 3; have m4 := HB2.out.frozen 4
         have x0 := HO2.out.cell 0; have x1 := HO2.out.cell 1; have x2 := HO2.out.cell 2; have x3 := HO2.out.cell 3; have x4 := HO2.out.cell 4; have x5 := HO2.out.cell 5; simp at x0 x1 x2 x3 x4 x5
         clear hr2 hf2 t2)
      | (go_at_call 51
         obtain ⟨w3, hw3⟩ : ∃ w3, w3 = (((((w2.setCell ⟨w.heap.size, 0, none⟩ (.int .i64 E.room)).setCell ⟨w.heap.size, 1, none⟩ (.slice A2 E.fs.length c2)).setCell ⟨w.heap.size, 2, none⟩ (.bool E.down)).setCell ⟨w.heap.size, 3, none⟩ (.int .i64 E.armed)).setCell ⟨w.heap.size, 4, none⟩ (.int .u64 (E.steps : Int))) := ⟨_, rfl⟩
         rw [← hw3]
         have t3 : Touch (fun q => q = w.heap.size) w2 w3 := by rw [hw3]; exact tch5 _ _ _ _ _ _
         have hb3 : Blk w3 w.heap.size 67 #[.int .i64 E.room, .slice A2 E.fs.length c2, .bool E.down, .int .i64 E.armed, .int .u64 (E.steps : Int)] := by rw [hw3]; exact blk5 HB2.out _ _ _ _ _
         have hs3 := t3.size
         have tw3 := HT2.out.trans t3 (fun q hq e => by omega)
         have hd3 := HD.out.far (tw3.mono (S' := fun _ => False) (fun _ _ e => e))
         go_must (refine (HPr.out w3 hd3 (by omega) (by exact tw3)).mono ?_); rintro e w4 ⟨rfl, F4, hd4, hf4, t4⟩
         have HB4 := Lib.hid (t4.blk hb3 (by omega))
         have HS4 := Lib.hid (t4.blk (t3.blk HS2.out (by omega)) (by omega))
         have HD4 := Lib.hid hd4
         have HF4 := Lib.hid hf4
         have HT34 := Lib.hid (t3.mono (S' := fun q => q = w.heap.size) (fun _ _ e => e))
         have HT4 := Lib.hid t4
         have hs4 := t4.size
         clear p0 p1 p2 p3 p4 m0 m1 m2 m3 m4
         have p0 := HB4.out.cell 0; have p1 := HB4.out.cell 1; have p2 := HB4.out.cell 2; have p3 := HB4.out.cell 3; have p4 := HB4.out.cell 4; simp at p0 p1 p2 p3 p4
         have m0 := HB4.out.frozen 0; have m1 := HB4.out.frozen 1; have m2 := HB4.out.frozen 2; have m3 := HB4.out.frozen 3; have m4 := HB4.out.frozen 4
         have y0 := HS4.out.cell 0; have y1 := HS4.out.cell 1; have y2 := HS4.out.cell 2; have y3 := HS4.out.cell 3; have y4 := HS4.out.cell 4; simp at y0 y1 y2 y3 y4
         have z0 := HS4.out.frozen 0; have z1 := HS4.out.frozen 1; have z2 := HS4.out.frozen 2; have z3 := HS4.out.frozen 3; have z4 := HS4.out.frozen 4
         clear hd4 hf4 t4 hb3 hd3 tw3 t3 hw3))
    have tz := tch5 (w := w4) (w.heap.size + 1 + 1) (.int .i64 E.room) (.slice A2 E.fs.length c2) (.bool E.down) (.int .i64 E.armed) (.int .u64 (E.steps : Int))
    have hz := tz.size
    refine bodyPost_ret (results_cell2 (cs := rdA A2 c2 E) 6 7 rowRd rfl (by exact fin5 HS4.out _ _ _ _ _) rfl rfl) rfl ?_
    rw [HV.out]
    have hg4 := HT4.out
    refine ⟨A2, c2, F4, F2, rfl, HD4.out.touch tz (by omega) (by omega) (by omega) (fun q hq e => by rcases HF4.out q hq with h | h; have := HFl.out q h; omega; omega), ((HR2.out.touch HT34.out (fun q hq e => by rcases HF2.out q hq with h | h; have := HRF.out q h; omega; omega)).touch hg4 (fun q hq e => by rcases HF2.out q hq with h | h; have := HRF.out q h; omega; omega)).touch tz (fun q hq e => by rcases HF2.out q hq with h | h; have := HRF.out q h; omega; omega), fun q hq => ?_, fun q hq => ?_, ?_⟩
    · rcases HF4.out q hq with h | h
      · exact .inl h
      · exact .inr (by omega)
    · rcases HF2.out q hq with h | h
      · exact .inl h
      · exact .inr (by omega)
    · exact (((HT2.out.trans HT34.out (fun q hq e => by omega)).mono (S' := fun q => q = g ∨ q = b ∨ q = m) (fun _ _ e => e.elim)).trans hg4 (fun _ _ e => e)).trans tz (fun q hq e => by omega)
  · obtain ⟨⟨E, v⟩, hp⟩ : ∃ p, p = D.resize n := ⟨_, rfl⟩
    have HV := Lib.hid (show doV D ⟨9, n, nm, to_, tx, ts, TA, tc⟩ = E by unfold doV; simp only; rw [if_neg (by omega), if_neg (by omega), if_neg (by omega), if_neg (by omega), if_neg (by omega), if_neg (by omega), if_neg (by omega), if_neg (by omega), if_pos trivial]; rw [← hp])
    have HRf := Lib.hid (show ∀ W : World, Touch (fun _ => False) w W → Calls Try.prog 85 #[.agg #[.int .i64 D.room, .slice A D.fs.length c, .bool D.down, .int .i64 D.armed, .int .u64 (D.steps : Int)], .int .i64 n] W fun e w' => ∃ A' c' F', e = .returned (.tuple #[.agg #[.int .i64 E.room, .slice A' E.fs.length c', .bool E.down, .int .i64 E.armed, .int .u64 (E.steps : Int)], .int .i64 v]) ∧ RfF w' F' A' E.fs ∧ (∀ q, F' q → RF q ∨ (W.heap.size ≤ q ∧ q < w'.heap.size)) ∧ Touch (fun _ => False) W w' from fun W hW => by
      have := fresize_any D RF A c n W (hr.touch hW (fun _ _ e => e))
      unfold RkP at this
      rw [← hp] at this
      exact this)
    have HPr := Lib.hid (show ∀ W : World, DkAt W g b m D F → Calls Try.prog 50 #[.pointer (some ⟨g, 0, none⟩), .int .i64 n] W fun e w' => e = .returned (.int .i64 v) ∧ ∃ F', DkAt w' g b m E F' ∧ (∀ q, F' q → F q ∨ (W.heap.size ≤ q ∧ q < w'.heap.size)) ∧ Touch (fun q => q = g ∨ q = b ∨ q = m) W w' from fun W h => by
      have := dresize_any h n
      unfold DkC at this
      rw [← hp] at this
      exact this)
    clear hp hd hr hRF hG
    go_enter Try.func34, Try.ntmps34
    go_wp2_with (first
      | (go_at_call 85; rw [← HW1.out]; go_must (refine (HRf.out w1 HT1.out).mono ?_); rintro e w2 ⟨A2, c2, F2, rfl, hr2, hf2, t2⟩
         have HR2 := Lib.hid hr2
         have HF2 := Lib.hid hf2
         have HT2 := Lib.hid (HT1.out.trans t2 (fun _ _ e => e))
         have HB2 := Lib.hid (t2.blk HB1.out (fun e => e))
         have HO2 := Lib.hid (t2.blk HO1.out (fun e => e))
         have HS2 := Lib.hid (t2.blk HS1.out (fun e => e))
         have hs2 := t2.size
         have p0 := HB2.out.cell 0; have p1 := HB2.out.cell 1; have p2 := HB2.out.cell 2; have p3 := HB2.out.cell 3; have p4 := HB2.out.cell 4; simp at p0 p1 p2 p3 p4
         have m0 := HB2.out.frozen 0; have m1 := HB2.out.frozen 1; have m2 := HB2.out.frozen 2; have m3 := HB2.out.frozen 3; have m4 := HB2.out.frozen 4
         have x0 := HO2.out.cell 0; have x1 := HO2.out.cell 1; have x2 := HO2.out.cell 2; have x3 := HO2.out.cell 3; have x4 := HO2.out.cell 4; have x5 := HO2.out.cell 5; simp at x0 x1 x2 x3 x4 x5
         clear hr2 hf2 t2)
      | (go_at_call 50
         obtain ⟨w3, hw3⟩ : ∃ w3, w3 = (((((w2.setCell ⟨w.heap.size, 0, none⟩ (.int .i64 E.room)).setCell ⟨w.heap.size, 1, none⟩ (.slice A2 E.fs.length c2)).setCell ⟨w.heap.size, 2, none⟩ (.bool E.down)).setCell ⟨w.heap.size, 3, none⟩ (.int .i64 E.armed)).setCell ⟨w.heap.size, 4, none⟩ (.int .u64 (E.steps : Int))) := ⟨_, rfl⟩
         rw [← hw3]
         have t3 : Touch (fun q => q = w.heap.size) w2 w3 := by rw [hw3]; exact tch5 _ _ _ _ _ _
         have hb3 : Blk w3 w.heap.size 67 #[.int .i64 E.room, .slice A2 E.fs.length c2, .bool E.down, .int .i64 E.armed, .int .u64 (E.steps : Int)] := by rw [hw3]; exact blk5 HB2.out _ _ _ _ _
         have hs3 := t3.size
         have tw3 := HT2.out.trans t3 (fun q hq e => by omega)
         have hd3 := HD.out.far (tw3.mono (S' := fun _ => False) (fun _ _ e => e))
         go_must (refine (HPr.out w3 hd3 ).mono ?_); rintro e w4 ⟨rfl, F4, hd4, hf4, t4⟩
         have HB4 := Lib.hid (t4.blk hb3 (by omega))
         have HS4 := Lib.hid (t4.blk (t3.blk HS2.out (by omega)) (by omega))
         have HD4 := Lib.hid hd4
         have HF4 := Lib.hid hf4
         have HT34 := Lib.hid (t3.mono (S' := fun q => q = w.heap.size) (fun _ _ e => e))
         have HT4 := Lib.hid t4
         have hs4 := t4.size
         clear p0 p1 p2 p3 p4 m0 m1 m2 m3 m4
         have p0 := HB4.out.cell 0; have p1 := HB4.out.cell 1; have p2 := HB4.out.cell 2; have p3 := HB4.out.cell 3; have p4 := HB4.out.cell 4; simp at p0 p1 p2 p3 p4
         have m0 := HB4.out.frozen 0; have m1 := HB4.out.frozen 1; have m2 := HB4.out.frozen 2; have m3 := HB4.out.frozen 3; have m4 := HB4.out.frozen 4
         have y0 := HS4.out.cell 0; have y1 := HS4.out.cell 1; have y2 := HS4.out.cell 2; have y3 := HS4.out.cell 3; have y4 := HS4.out.cell 4; simp at y0 y1 y2 y3 y4
         have z0 := HS4.out.frozen 0; have z1 := HS4.out.frozen 1; have z2 := HS4.out.frozen 2; have z3 := HS4.out.frozen 3; have z4 := HS4.out.frozen 4
         clear hd4 hf4 t4 hb3 hd3 tw3 t3 hw3))
    have tz := tch5 (w := w4) (w.heap.size + 1 + 1) (.int .i64 E.room) (.slice A2 E.fs.length c2) (.bool E.down) (.int .i64 E.armed) (.int .u64 (E.steps : Int))
    have hz := tz.size
    refine bodyPost_ret (results_cell2 (cs := rdA A2 c2 E) 6 7 rowRd rfl (by exact fin5 HS4.out _ _ _ _ _) rfl rfl) rfl ?_
    rw [HV.out]
    have hg4 := HT4.out
    refine ⟨A2, c2, F4, F2, rfl, HD4.out.touch tz (by omega) (by omega) (by omega) (fun q hq e => by rcases HF4.out q hq with h | h; have := HFl.out q h; omega; omega), ((HR2.out.touch HT34.out (fun q hq e => by rcases HF2.out q hq with h | h; have := HRF.out q h; omega; omega)).touch hg4 (fun q hq e => by rcases HF2.out q hq with h | h; have := HRF.out q h; omega; omega)).touch tz (fun q hq e => by rcases HF2.out q hq with h | h; have := HRF.out q h; omega; omega), fun q hq => ?_, fun q hq => ?_, ?_⟩
    · rcases HF4.out q hq with h | h
      · exact .inl h
      · exact .inr (by omega)
    · rcases HF2.out q hq with h | h
      · exact .inl h
      · exact .inr (by omega)
    · exact (((HT2.out.trans HT34.out (fun q hq e => by omega)).mono (S' := fun q => q = g ∨ q = b ∨ q = m) (fun _ _ e => e.elim)).trans hg4 (fun _ _ e => e)).trans tz (fun q hq e => by omega)
  · obtain ⟨⟨E, v⟩, hp⟩ : ∃ p, p = D.append nm tx := ⟨_, rfl⟩
    have HV := Lib.hid (show doV D ⟨k, n, nm, to_, tx, ts, TA, tc⟩ = E by unfold doV; simp only; rw [if_neg (by omega), if_neg (by omega), if_neg (by omega), if_neg (by omega), if_neg (by omega), if_neg (by omega), if_neg (by omega), if_neg (by omega), if_neg (by omega)]; rw [← hp])
    have HRf := Lib.hid (show ∀ W : World, Touch (fun _ => False) w W → Calls Try.prog 86 #[.agg #[.int .i64 D.room, .slice A D.fs.length c, .bool D.down, .int .i64 D.armed, .int .u64 (D.steps : Int)], St nm, St tx] W fun e w' => ∃ A' c' F', e = .returned (.tuple #[.agg #[.int .i64 E.room, .slice A' E.fs.length c', .bool E.down, .int .i64 E.armed, .int .u64 (E.steps : Int)], .int .i64 v]) ∧ RfF w' F' A' E.fs ∧ (∀ q, F' q → RF q ∨ (W.heap.size ≤ q ∧ q < w'.heap.size)) ∧ Touch (fun _ => False) W w' from fun W hW => by
      have := fappend_any D RF A c nm tx (by omega) (by omega) W (hr.touch hW (fun _ _ e => e)) hd.ok (fun q hq => Nat.lt_of_lt_of_le (hRF q hq).1 hW.size) hst
      unfold RkP at this
      rw [← hp] at this
      exact this)
    have HPr := Lib.hid (show ∀ W : World, DkAt W g b m D F → ∀ (G : Nat → Prop) (B : Option Addr) (bc : Nat), Rd W G B tx.length (tx.map B8) → (∀ q, G q → q < W.heap.size) → Calls Try.prog 45 #[.pointer (some ⟨g, 0, none⟩), St nm, .slice B tx.length bc] W fun e w' => e = .returned (.int .i64 v) ∧ ∃ F', DkAt w' g b m E F' ∧ (∀ q, F' q → F q ∨ (W.heap.size ≤ q ∧ q < w'.heap.size)) ∧ Touch (fun q => q = g ∨ q = b ∨ q = m) W w' from fun W h G B bc hB hG => by
      have := dappend_any (bc := bc) h nm (by omega) hst tx hB hG (by omega)
      unfold DkC at this
      rw [← hp] at this
      exact this)
    have hk1 : (k == 1) = false := by simp; omega
    have hk2 : (k == 2) = false := by simp; omega
    have hk3 : (k == 3) = false := by simp; omega
    have hk4 : (k == 4) = false := by simp; omega
    have hk5 : (k == 5) = false := by simp; omega
    have hk6 : (k == 6) = false := by simp; omega
    have hk7 : (k == 7) = false := by simp; omega
    have hk8 : (k == 8) = false := by simp; omega
    have hk9 : (k == 9) = false := by simp; omega
    clear hp hd hr hRF hG
    go_enter Try.func34, Try.ntmps34
    go_wp2_with (first
      | (go_at_call 86; rw [← HW1.out]; go_must (refine (HRf.out w1 HT1.out).mono ?_); rintro e w2 ⟨A2, c2, F2, rfl, hr2, hf2, t2⟩
         have HR2 := Lib.hid hr2
         have HF2 := Lib.hid hf2
         have HT2 := Lib.hid (HT1.out.trans t2 (fun _ _ e => e))
         have HB2 := Lib.hid (t2.blk HB1.out (fun e => e))
         have HO2 := Lib.hid (t2.blk HO1.out (fun e => e))
         have HS2 := Lib.hid (t2.blk HS1.out (fun e => e))
         have hs2 := t2.size
         have p0 := HB2.out.cell 0; have p1 := HB2.out.cell 1; have p2 := HB2.out.cell 2; have p3 := HB2.out.cell 3; have p4 := HB2.out.cell 4; simp at p0 p1 p2 p3 p4
         have m0 := HB2.out.frozen 0; have m1 := HB2.out.frozen 1; have m2 := HB2.out.frozen 2; have m3 := HB2.out.frozen 3; have m4 := HB2.out.frozen 4
         have x0 := HO2.out.cell 0; have x1 := HO2.out.cell 1; have x2 := HO2.out.cell 2; have x3 := HO2.out.cell 3; have x4 := HO2.out.cell 4; have x5 := HO2.out.cell 5; simp at x0 x1 x2 x3 x4 x5
         obtain ⟨w3, hw3⟩ : ∃ w3, w3 = (((((w2.setCell ⟨w.heap.size, 0, none⟩ (.int .i64 E.room)).setCell ⟨w.heap.size, 1, none⟩ (.slice A2 E.fs.length c2)).setCell ⟨w.heap.size, 2, none⟩ (.bool E.down)).setCell ⟨w.heap.size, 3, none⟩ (.int .i64 E.armed)).setCell ⟨w.heap.size, 4, none⟩ (.int .u64 (E.steps : Int))) := ⟨_, rfl⟩
         have t3 : Touch (fun q => q = w.heap.size) w2 w3 := by rw [hw3]; exact tch5 _ _ _ _ _ _
         have hb3 : Blk w3 w.heap.size 67 #[.int .i64 E.room, .slice A2 E.fs.length c2, .bool E.down, .int .i64 E.armed, .int .u64 (E.steps : Int)] := by rw [hw3]; exact blk5 HB2.out _ _ _ _ _
         obtain ⟨bc, bcs, w3a, hcv, t3a, hb3a, hc3a, hlc, hcm, hcs3, hs3a⟩ := conv_u tx w3 w3.heap.size rfl (by omega)
         rw [hw3, show ((((((w2.setCell ⟨w.heap.size, 0, none⟩ (.int .i64 E.room)).setCell ⟨w.heap.size, 1, none⟩ (.slice A2 E.fs.length c2)).setCell ⟨w.heap.size, 2, none⟩ (.bool E.down)).setCell ⟨w.heap.size, 3, none⟩ (.int .i64 E.armed)).setCell ⟨w.heap.size, 4, none⟩ (.int .u64 (E.steps : Int)))).heap.size = w2.heap.size from by simp [World.setCell]] at hcv
         have HT23 := Lib.hid (show Touch (fun q => q = w.heap.size) w2 w3a from t3.trans t3a (fun _ _ e => e.elim))
         have HB3 := Lib.hid (t3a.blk hb3 (fun e => e))
         have h3s : w3.heap.size = w2.heap.size := by rw [hw3]; simp [World.setCell]
         have HRd3 := Lib.hid (show Rd w3a (fun q => q = w2.heap.size) (some ⟨w2.heap.size, 0, none⟩) tx.length (tx.map B8) from by
           rw [h3s] at hb3a
           refine ⟨by rw [List.length_map], fun _ => ⟨_, 0, rfl, hb3a.lt, rfl, fun j u hj => ?_⟩⟩
           rw [Nat.zero_add, hb3a.cell]
           exact take_get hc3a hj)
         have hs3a' : w3a.heap.size = w2.heap.size + 1 := by omega
         clear t3 hb3 t3a hb3a hc3a hcs3 hlc hcm hw3 h3s hs3a
         clear hr2 hf2 t2)
      | (go_at_call 45
         have t3 := HT23.out
         have hb3 := HB3.out
         have hs3 := t3.size
         have tw3 := HT2.out.trans t3 (fun q hq e => by omega)
         have hd3 := HD.out.far (tw3.mono (S' := fun _ => False) (fun _ _ e => e))
         go_must (refine (HPr.out w3a hd3 (fun q => q = w2.heap.size) (some ⟨w2.heap.size, 0, none⟩) bc (by exact HRd3.out) (fun q hq => by omega)).mono ?_); rintro e w4 ⟨rfl, F4, hd4, hf4, t4⟩
         have HB4 := Lib.hid (t4.blk hb3 (by omega))
         have HS4 := Lib.hid (t4.blk (t3.blk HS2.out (by omega)) (by omega))
         have HD4 := Lib.hid hd4
         have HF4 := Lib.hid hf4
         have HT34 := Lib.hid (t3.mono (S' := fun q => q = w.heap.size) (fun _ _ e => e))
         have HT4 := Lib.hid t4
         have hs4 := t4.size
         clear p0 p1 p2 p3 p4 m0 m1 m2 m3 m4
         have p0 := HB4.out.cell 0; have p1 := HB4.out.cell 1; have p2 := HB4.out.cell 2; have p3 := HB4.out.cell 3; have p4 := HB4.out.cell 4; simp at p0 p1 p2 p3 p4
         have m0 := HB4.out.frozen 0; have m1 := HB4.out.frozen 1; have m2 := HB4.out.frozen 2; have m3 := HB4.out.frozen 3; have m4 := HB4.out.frozen 4
         have y0 := HS4.out.cell 0; have y1 := HS4.out.cell 1; have y2 := HS4.out.cell 2; have y3 := HS4.out.cell 3; have y4 := HS4.out.cell 4; simp at y0 y1 y2 y3 y4
         have z0 := HS4.out.frozen 0; have z1 := HS4.out.frozen 1; have z2 := HS4.out.frozen 2; have z3 := HS4.out.frozen 3; have z4 := HS4.out.frozen 4
         clear hd4 hf4 t4 hb3 hd3 tw3 t3))
    have tz := tch5 (w := w4) (w.heap.size + 1 + 1) (.int .i64 E.room) (.slice A2 E.fs.length c2) (.bool E.down) (.int .i64 E.armed) (.int .u64 (E.steps : Int))
    have hz := tz.size
    refine bodyPost_ret (results_cell2 (cs := rdA A2 c2 E) 6 7 rowRd rfl (by exact fin5 HS4.out _ _ _ _ _) rfl rfl) rfl ?_
    rw [HV.out]
    have hg4 := HT4.out
    refine ⟨A2, c2, F4, F2, rfl, HD4.out.touch tz (by omega) (by omega) (by omega) (fun q hq e => by rcases HF4.out q hq with h | h; have := HFl.out q h; omega; omega), ((HR2.out.touch HT34.out (fun q hq e => by rcases HF2.out q hq with h | h; have := HRF.out q h; omega; omega)).touch hg4 (fun q hq e => by rcases HF2.out q hq with h | h; have := HRF.out q h; omega; omega)).touch tz (fun q hq e => by rcases HF2.out q hq with h | h; have := HRF.out q h; omega; omega), fun q hq => ?_, fun q hq => ?_, ?_⟩
    · rcases HF4.out q hq with h | h
      · exact .inl h
      · exact .inr (by omega)
    · rcases HF2.out q hq with h | h
      · exact .inl h
      · exact .inr (by omega)
    · exact (((HT2.out.trans HT34.out (fun q hq e => by omega)).mono (S' := fun q => q = g ∨ q = b ∨ q = m) (fun _ _ e => e.elim)).trans hg4 (fun _ _ e => e)).trans tz (fun q hq e => by omega)
end Go.Proofs.Ytpgakkpmpnebnaa
