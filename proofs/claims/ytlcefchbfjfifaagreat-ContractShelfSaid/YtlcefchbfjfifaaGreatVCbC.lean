/- calendar.Due. -/
import Derived.Test.YtlcefchbfjfifaaGreatVCbB
import Derived.Shelf.Abstract
namespace Go.Proofs.YtlcefchbfjfifaaGreat
open Go.RowKit Go.Shelf Cal
attribute [local go_sem] Oper.semAt_some
set_option maxHeartbeats 8000000
set_option maxRecDepth 100000
set_option linter.unusedVariables false
attribute [local irreducible] wpPlan

theorem LzAt.cells {w : World} {b g : Nat} {wk : List Sp} {G : Nat → Prop} (h : LzAt w b g wk G) : ∃ o : Obj, w.heap[b]? = some o ∧ o.isCells = true := by
  rcases h with ⟨sm, ak, hb⟩ | ⟨sm, ak, A, c, hb, _⟩ <;> exact ⟨_, hb, rfl⟩
theorem Blk.cells {w : World} {g : Nat} {t : TypeId} {cs : Array Value} (h : Blk w g t cs) : ∃ o : Obj, w.heap[g]? = some o ∧ o.isCells = true := ⟨_, h, rfl⟩
theorem cdue_any (k a p b : Nat) (c : Ca) (G : Nat → Prop) (x y : Int) (w : World) (h : CkAt w k a p b c G) (hy : y ≤ 9223372036854775807) :
    Calls Tryz.prog 37 #[.pointer (some ⟨k, 0, none⟩), .int .i64 x, .int .i64 y] w (Ck2 k a p b c G (c.due x y) w) := by
  obtain ⟨W0, hW0⟩ : ∃ W0, W0 = (((w.alloc (.cells #[.pointer (some ⟨k, 0, none⟩)] 80)).alloc (.cells #[.int .i64 y] 2)).alloc (.cells #[.int .i64 0] 2)).alloc (.cells #[.int .i64 0] 27) := ⟨_, rfl⟩
  have t0 : Touch (fun _ => False) w W0 := hW0 ▸ ((((Touch.refl _ w).alloc _).alloc _).alloc _).alloc _
  have b0 : Blk W0 w.heap.size 80 #[.pointer (some ⟨k, 0, none⟩)] := hW0 ▸ (((Blk.new w _ _).alloc _).alloc _).alloc _
  have b1 : Blk W0 (w.heap.size + 1) 2 #[.int .i64 y] := hW0 ▸ (by simpa using ((Blk.new (w.alloc (.cells #[.pointer (some ⟨k, 0, none⟩)] 80)) 2 #[.int .i64 y]).alloc (.cells #[.int .i64 0] 2)).alloc (.cells #[.int .i64 0] 27))
  have b2 : Blk W0 (w.heap.size + 2) 2 #[.int .i64 0] := hW0 ▸ (by simpa using (Blk.new ((w.alloc (.cells #[.pointer (some ⟨k, 0, none⟩)] 80)).alloc (.cells #[.int .i64 y] 2)) 2 #[.int .i64 0]).alloc (.cells #[.int .i64 0] 27))
  have b3 : Blk W0 (w.heap.size + 3) 27 #[.int .i64 0] := hW0 ▸ (by simpa using (Blk.new (((w.alloc (.cells #[.pointer (some ⟨k, 0, none⟩)] 80)).alloc (.cells #[.int .i64 y] 2)).alloc (.cells #[.int .i64 0] 2)) 27 #[.int .i64 0]))
  have hz0 : W0.heap.size = w.heap.size + 4 := by rw [hW0]; simp
  have hck := h.shrink
  have hbw := h.bl
  have hD0 : DueI w W0 k a p b c (fun q => G q ∧ q < w.heap.size) y 0 0 W0 := ⟨b0, b1, b2, b3, (hck.none t0).grow (fun q hq => .inl hq) (fun e => by rcases e with e | e; exact hck.nb e; omega), t0.mono (fun _ _ e => e.elim), Nat.le_refl _⟩
  have HD0 := Lib.hid hD0
  have HT0 := Lib.hid t0
  have HCk0 := Lib.hid (hck.none t0)
  have HN := Lib.hid (cnone_any k a p b c _ W0 (hck.none t0))
  -- what comes of a return that has been laid into the two cells
  have fin : ∀ {GL : Nat → Prop} {wL W : World} {v d e : Int} {r : Int × Int}, Hid (c.due x y = r) → d = r.1 → e = r.2 → DueI w wL k a p b c GL v d e W → (∀ q, GL q → G q ∨ (w.heap.size ≤ q ∧ q < W.heap.size)) → w.heap.size ≤ wL.heap.size → Ck2 k a p b c G (c.due x y) w (.returned (.tuple #[.int .i64 d, .int .i64 e])) W := by
    intro GL wL W v d e r h1 h2 h3 h4 h5 h6
    refine Ck2.of h1 h2 h3 (h4.ck.grow (fun q hq => ?_) (fun e => ?_)) h4.t
    · rcases hq with hq | hq
      · exact h5 q hq
      · exact .inr (by omega)
    · rcases e with e | e
      · exact h.nb e
      · omega
  have Fin := Lib.hid (fun GL wL W v d e r => fin (GL := GL) (wL := wL) (W := W) (v := v) (d := d) (e := e) (r := r))
  clear fin h hck hD0 t0
  have HG0 := Lib.hid (show ∀ q, (G q ∧ q < w.heap.size) → ¬ DueT w b q from fun q hq e => by
    rcases e with e | e
    · subst e; exact HCk0.out.nb hq
    · omega)
  have q1 := b1.cell 0
  have q0 := b0.cell 0
  have p2 := b2.cell 0; have z2 := b2.frozen 0
  have p3 := b3.cell 0; have z3 := b3.frozen 0
  simp at q0 q1 p2 p3
  clear b0 b1 b2 b3
  have HW0 := Lib.hid hW0
  clear hW0
  cases ia : instB x
  · have HV := Lib.hid (due_bad c (b := y) ia)
    refine (callsIn_wide (n := 4)).1 (callsIn_of_wp_marks Tryz.func37 rfl trivial ?_ rfl)
    simp only [Tryz.ntmps37, List.size_toArray, List.length_cons, List.length_nil, Nat.reduceAdd, Nat.reduceSub, Array.replicate_succ, Array.replicate_zero, List.push_toArray, List.append_toArray, List.nil_append, List.cons_append]
    gi_wp2_with fail
    rw [← HW0.out, show w.heap.size + 1 + 1 + 1 = w.heap.size + 3 from rfl, show w.heap.size + 1 + 1 = w.heap.size + 2 from rfl]
    refine ⟨trivial, ?_⟩
    gi_at_call 71
    refine (callsIn_wide.2 HN.out).mono ?_
    rintro e w1 ⟨rfl, rfl⟩
    gi_wp2_with (refine ⟨trivial, ?_⟩; gi_at_call 72; refine (callsIn_wide.2 (cinstant_any x _)).mono ?_; rintro e w1 ⟨rfl, rfl⟩)
    have hd := HD0.out.setR HG0.out (by omega) hbw (0) 2
    have e0 := hd.c0.cell 0; have e1 := hd.c1.cell 0
    simp at e0 e1
    refine ⟨.tuple #[.int .i64 (0), .int .i64 2], by simp [results, Tryz.results37, go_sem, e0, e1], ?_⟩
    exact Fin.out _ W0 _ _ _ _ _ HV rfl rfl hd (fun q hq => .inl hq.1) (by omega)
  by_cases hy0 : y < 0
  · have HV := Lib.hid (due_neg c (a := x) hy0)
    refine (callsIn_wide (n := 4)).1 (callsIn_of_wp_marks Tryz.func37 rfl trivial ?_ rfl)
    simp only [Tryz.ntmps37, List.size_toArray, List.length_cons, List.length_nil, Nat.reduceAdd, Nat.reduceSub, Array.replicate_succ, Array.replicate_zero, List.push_toArray, List.append_toArray, List.nil_append, List.cons_append]
    gi_wp2_with fail
    rw [← HW0.out, show w.heap.size + 1 + 1 + 1 = w.heap.size + 3 from rfl, show w.heap.size + 1 + 1 = w.heap.size + 2 from rfl]
    refine ⟨trivial, ?_⟩
    gi_at_call 71
    refine (callsIn_wide.2 HN.out).mono ?_
    rintro e w1 ⟨rfl, rfl⟩
    gi_wp2_with (refine ⟨trivial, ?_⟩; gi_at_call 72; refine (callsIn_wide.2 (cinstant_any x _)).mono ?_; rintro e w1 ⟨rfl, rfl⟩)
    have hd := HD0.out.setR HG0.out (by omega) hbw (0) 2
    have e0 := hd.c0.cell 0; have e1 := hd.c1.cell 0
    simp at e0 e1
    refine ⟨.tuple #[.int .i64 (0), .int .i64 2], by simp [results, Tryz.results37, go_sem, e0, e1], ?_⟩
    exact Fin.out _ W0 _ _ _ _ _ HV rfl rfl hd (fun q hq => .inl hq.1) (by omega)
  by_cases hyz : y = 0
  · subst hyz
    have HV := Lib.hid (due_zero c ia)
    refine (callsIn_wide (n := 4)).1 (callsIn_of_wp_marks Tryz.func37 rfl trivial ?_ rfl)
    simp only [Tryz.ntmps37, List.size_toArray, List.length_cons, List.length_nil, Nat.reduceAdd, Nat.reduceSub, Array.replicate_succ, Array.replicate_zero, List.push_toArray, List.append_toArray, List.nil_append, List.cons_append]
    gi_wp2_with fail
    rw [← HW0.out, show w.heap.size + 1 + 1 + 1 = w.heap.size + 3 from rfl, show w.heap.size + 1 + 1 = w.heap.size + 2 from rfl]
    refine ⟨trivial, ?_⟩
    gi_at_call 71
    refine (callsIn_wide.2 HN.out).mono ?_
    rintro e w1 ⟨rfl, rfl⟩
    gi_wp2_with (refine ⟨trivial, ?_⟩; gi_at_call 72; refine (callsIn_wide.2 (cinstant_any x _)).mono ?_; rintro e w1 ⟨rfl, rfl⟩)
    have hd := HD0.out.setR HG0.out (by omega) hbw (x) 0
    have e0 := hd.c0.cell 0; have e1 := hd.c1.cell 0
    simp at e0 e1
    refine ⟨.tuple #[.int .i64 (x), .int .i64 0], by simp [results, Tryz.results37, go_sem, e0, e1], ?_⟩
    exact Fin.out _ W0 _ _ _ _ _ HV rfl rfl hd (fun q hq => .inl hq.1) (by omega)
  have hyp : 0 < y := by omega
  have hye : (y == 0) = false := by simp; omega
  have g0 := HCk0.out.blk.cell 0; have g1 := HCk0.out.blk.cell 1
  simp at g0 g1
  have HTot := Lib.hid (total_any p c.wk b _ W0 HD0.out.ck.pn)
  by_cases hl : len c.wk = 0
  · have HV := Lib.hid (due_closed c ia hyp hl)
    rw [hl] at HTot
    refine (callsIn_wide (n := 4)).1 (callsIn_of_wp_marks Tryz.func37 rfl trivial ?_ rfl)
    simp only [Tryz.ntmps37, List.size_toArray, List.length_cons, List.length_nil, Nat.reduceAdd, Nat.reduceSub, Array.replicate_succ, Array.replicate_zero, List.push_toArray, List.append_toArray, List.nil_append, List.cons_append]
    gi_wp2_with fail
    rw [← HW0.out, show w.heap.size + 1 + 1 + 1 = w.heap.size + 3 from rfl, show w.heap.size + 1 + 1 = w.heap.size + 2 from rfl]
    refine ⟨trivial, ?_⟩
    gi_at_call 71
    refine (callsIn_wide.2 HN.out).mono ?_
    rintro e w1 ⟨rfl, rfl⟩
    gi_wp2_with (refine ⟨trivial, ?_⟩; gi_at_call 72; refine (callsIn_wide.2 (cinstant_any x _)).mono ?_; rintro e w1 ⟨rfl, rfl⟩)
    gi_wp2_with (refine ⟨trivial, ?_⟩; gi_at_call 73; refine (callsIn_wide.2 HTot.out).mono ?_; rintro e w2 ⟨rfl, pn2, t2⟩; have HD2 := Lib.hid (HD0.out.get hbw t2 (HD0.out.ck.get t2 pn2)); have hs2 := t2.size; have u2 := HD2.out.c0.cell 0; have u3 := HD2.out.c1.cell 0; have v2 := HD2.out.c0.frozen 0; have v3 := HD2.out.c1.frozen 0; have u0 := HD2.out.kb.cell 0; have u1 := HD2.out.bb.cell 0; have k0 := HD2.out.ck.blk.cell 0; have k1 := HD2.out.ck.blk.cell 1; simp at u0 u1 u2 u3 k0 k1; clear pn2 t2)
    have hd := HD2.out.setR HG0.out (by omega) hbw 0 40
    have e0 := hd.c0.cell 0; have e1 := hd.c1.cell 0
    simp at e0 e1
    refine ⟨.tuple #[.int .i64 0, .int .i64 40], by simp [results, Tryz.results37, go_sem, e0, e1], ?_⟩
    exact Fin.out _ W0 _ _ _ _ _ HV rfl rfl hd (fun q hq => .inl hq.1) (by omega)
  have hlb := HCk0.out.ok.wk.len_bd
  have hle : (len c.wk == 0) = false := by simpa using hl
  have hlp : 0 < len c.wk := by omega
  refine (callsIn_wide (n := 4)).1 (callsIn_of_wp_marks Tryz.func37 rfl trivial ?_ rfl)
  simp only [Tryz.ntmps37, List.size_toArray, List.length_cons, List.length_nil, Nat.reduceAdd, Nat.reduceSub, Array.replicate_succ, Array.replicate_zero, List.push_toArray, List.append_toArray, List.nil_append, List.cons_append]
  gi_wp2_with fail
  rw [← HW0.out, show w.heap.size + 1 + 1 + 1 = w.heap.size + 3 from rfl, show w.heap.size + 1 + 1 = w.heap.size + 2 from rfl]
  refine ⟨trivial, ?_⟩
  gi_at_call 71
  refine (callsIn_wide.2 HN.out).mono ?_
  rintro e w1 ⟨rfl, rfl⟩
  gi_wp2_with (refine ⟨trivial, ?_⟩; gi_at_call 72; refine (callsIn_wide.2 (cinstant_any x _)).mono ?_; rintro e w1 ⟨rfl, rfl⟩)
  gi_wp2_with (first
    | (refine ⟨trivial, ?_⟩; gi_at_call 73; refine (callsIn_wide.2 HTot.out).mono ?_; rintro e w2 ⟨rfl, pn2, t2⟩; have HD2 := Lib.hid (HD0.out.get hbw t2 (HD0.out.ck.get t2 pn2)); have hs2 := t2.size; have u2 := HD2.out.c0.cell 0; have u3 := HD2.out.c1.cell 0; have v2 := HD2.out.c0.frozen 0; have v3 := HD2.out.c1.frozen 0; have u0 := HD2.out.kb.cell 0; have u1 := HD2.out.bb.cell 0; have k0 := HD2.out.ck.blk.cell 0; have k1 := HD2.out.ck.blk.cell 1; simp at u0 u1 u2 u3 k0 k1; clear pn2 t2)
    | (refine ⟨trivial, ?_⟩; gi_at_call 74; refine (callsIn_wide.2 (free_any a x 1125899906842624 w2)).mono ?_; rintro e w3 ⟨rfl, rfl⟩))
  obtain ⟨GL, hGL⟩ : ∃ GL, GL = More (fun q => G q ∧ q < w.heap.size) W0 w2 := ⟨_, rfl⟩
  have HGL := Lib.hid (show ∀ q, GL q → ¬ DueT w b q from fun q hq e => by
    rw [hGL] at hq
    rcases hq with hq | hq
    · exact HG0.out q hq e
    · rcases e with e | e
      · omega
      · omega)
  have HGs := Lib.hid (show ∀ q, GL q → G q ∨ (w.heap.size ≤ q ∧ q < w2.heap.size) from fun q hq => by
    rw [hGL] at hq
    rcases hq with hq | hq
    · exact .inl hq.1
    · exact .inr (by omega))
  obtain ⟨wL, hwL⟩ : ∃ wL, wL = ((w2.alloc (.cells #[.pointer (some ⟨a, 0, none⟩)] 134)).alloc (.cells #[.int .i64 x] 2)).alloc (.cells #[.int .i64 1125899906842624] 2) := ⟨_, rfl⟩
  have tL : Touch (fun _ => False) w2 wL := hwL ▸ (((Touch.refl _ w2).alloc _).alloc _).alloc _
  have hzL : wL.heap.size = w2.heap.size + 3 := by rw [hwL]; simp
  have hDL := ((hGL ▸ HD2.out.rebase hbw (by omega) HCk0.out.nb : DueI w w2 k a p b c GL y 0 0 w2)).touch tL
  have hca : wL.cell? ⟨w2.heap.size, 0, none⟩ = some (.pointer (some ⟨a, 0, none⟩)) := by rw [hwL]; simpa using (((Blk.new w2 134 #[.pointer (some ⟨a, 0, none⟩)]).alloc (.cells #[.int .i64 x] 2)).alloc (.cells #[.int .i64 1125899906842624] 2)).cell 0
  have hcf : wL.cell? ⟨w2.heap.size + 1, 0, none⟩ = some (.int .i64 x) := by rw [hwL]; simpa using ((Blk.new (w2.alloc (.cells #[.pointer (some ⟨a, 0, none⟩)] 134)) 2 #[.int .i64 x]).alloc (.cells #[.int .i64 1125899906842624] 2)).cell 0
  have hct : wL.cell? ⟨w2.heap.size + 2, 0, none⟩ = some (.int .i64 1125899906842624) := by rw [hwL]; simpa using (Blk.new ((w2.alloc (.cells #[.pointer (some ⟨a, 0, none⟩)] 134)).alloc (.cells #[.int .i64 x] 2)) 2 #[.int .i64 1125899906842624]).cell 0
  obtain ⟨B1, m1, hal⟩ := hDL.ck.al
  have hM : ∀ q, More GL w2 wL q → ¬ DueT w b q := fun q hq e => by
    rcases hq with hq | hq
    · exact HGL.out q hq e
    · rcases e with e | e <;> omega
  obtain ⟨x0, x1⟩ := instB_true ia
  have hit := freeIter (4 - 1) (by omega) a w2.heap.size (w2.heap.size + 1) (w2.heap.size + 2) c.cl B1 m1 (More GL w2 wL) (DueT w b) x wL hal hM (hM a hDL.ck.ga) (fun e => by rcases e with e | e <;> omega) (fun q hq => by rcases hq with hq | hq <;> omega) hcf hct hca HCk0.out.ok.rowc x0 x1
  have hwL2 : w2.heap.size ≤ wL.heap.size := by omega
  have hI : ∀ {W W' : World} {row : Option Nat} {v r0 r1 : Int}, DueI w w2 k a p b c GL v r0 r1 W → W.grownBy W' row → (∀ r, row = some r → wL.heap.size ≤ r ∧ ∃ o : Obj, W.heap[r]? = some o ∧ o.isCells = false) → DueI w w2 k a p b c GL v r0 r1 W' := fun h hg hr => h.grown (by omega) hg (fun r e => ⟨by have := (hr r e).1; omega, (hr r e).2⟩)
  rw [← hwL]
  refine wpIn_rangeFunc_ownH (F := Fence.wide) (n := 4) (α := FSp) (encs := encSp) (Kp := KeepT (DueT w b)) (S := fun xs => xs.map (·.1) = freeL c.cl x) (Sp := fun pre => pre.map (·.1) <+: freeL c.cl x) (N := (freeL c.cl x).length) (w0 := wL) rfl (by omega) (gf := 104)
    (lb := #[.pointer (some ⟨w2.heap.size + 1, 0, none⟩), .pointer (some ⟨w2.heap.size + 2, 0, none⟩), .pointer (some ⟨w2.heap.size, 0, none⟩)]) rfl trivial (enters_of Tryz.func104 (by kernel_rfl) rfl) hit KeepT.t KeepT.b (Below.refl _ _) (fun _ => rfl)
    (fun pre W => DueI w w2 k a p b c GL (y - c.lost (pre.map (·.1))) 0 0 W ∧ 1 ≤ y - c.lost (pre.map (·.1)))
    (fun cd pre W => cd = .ret ∧ ∃ (pre0 : List FSp) (s : FSp) (v d t : Int), pre = pre0 ++ [s] ∧ DueI w w2 k a p b c GL v d 0 W ∧ 1 ≤ y - c.lost (pre0.map (·.1)) ∧ y - c.lost (pre0.map (·.1)) ≤ c.weekly s.1.f s.1.t ∧ 0 ≤ t ∧ hasB c.wk (t % 604800) = true ∧ U c.wk t = c.V s.1.f + (y - c.lost (pre0.map (·.1))) - 1 ∧ d = t - (604800 - c.off) + 1)
    (fun s A B row hs hg hr => ⟨hI hs.1 hg hr, hs.2⟩)
    (fun cd s A B row hs hg hr => by
      obtain ⟨e, pre0, u, v, d, t, h1, h2, h3⟩ := hs
      exact ⟨e, pre0, u, v, d, t, h1, hI h2 hg hr, h3⟩)
    ⟨by simpa [Ca.lost] using hDL, by simp [Ca.lost]; omega⟩
    (fun z a' W => ∃ Bx, w2.heap.size ≤ Bx ∧ Blk W Bx 92 #[.int .i64 z.1.f, .int .i64 z.1.t] ∧ a' = { tmps := #[.pointer (some ⟨k, 0, none⟩), .int .i64 x, .int .i64 y, .pointer (some ⟨w.heap.size, 0, none⟩), undef, .pointer (some ⟨w.heap.size + 1, 0, none⟩), .pointer (some ⟨w.heap.size + 2, 0, none⟩), .pointer (some ⟨w.heap.size + 3, 0, none⟩), .pointer (some ⟨Bx, 0, none⟩), undef, undef, undef, .bool false, .pointer (some ⟨k, 0, none⟩), .bool false, .bool (decide (y < 0)), .int .i64 x, .bool true, .bool false, .bool false, .int .i64 y, .bool (decide (y < 0)), .bool (decide (y < 0)), .bool false, .int .i64 y, .bool false, undef, .bool false, .pointer (some ⟨k, 0, none⟩), .pointer (some ⟨k, 0, none⟩), .pointer (some ⟨k, 1, none⟩), .pointer (some ⟨p, 0, none⟩), .int .i64 (len c.wk), .bool false, .pointer (some ⟨k, 0, none⟩), .pointer (some ⟨k, 0, none⟩), .pointer (some ⟨k, 0, none⟩), .pointer (some ⟨a, 0, none⟩), .int .i64 x, .func (.func 104) #[] #[.pointer (some ⟨w2.heap.size + 1, 0, none⟩), .pointer (some ⟨w2.heap.size + 2, 0, none⟩), .pointer (some ⟨w2.heap.size, 0, none⟩)], .agg #[.int .i64 z.1.f, .int .i64 z.1.t], undef, undef, undef, undef, undef, undef, undef, undef, undef, undef, undef, undef, undef, undef, undef, undef, undef, undef, undef, undef, undef, undef, undef, undef, undef, undef, undef, undef, undef, undef, undef, undef, undef, undef, undef, undef, undef, undef, undef, undef, undef, undef, undef], defers := [] })
    (fun z a' s A B row hs hg hr => by
      obtain ⟨Bx, h1, h2, h3⟩ := hs
      exact ⟨Bx, h1, (KeepT.of_grown hg (fun r e => (hr r e).2)).blk h2 (fun e => e), h3⟩) ?assign ?body ?done ?stop
  case assign =>
    intro l pre z W K hi hK
    obtain ⟨⟨f, t⟩, hft⟩ := z
    have tW := (Touch.refl (fun _ => False) W).alloc (.cells #[.int .i64 f, .int .i64 t] 92)
    have hs := hi.1.sz
    have key := fun a' ha' => hK a' (W.alloc (.cells #[.int .i64 f, .int .i64 t] 92)) ((KeepsOthers.alloc W _).from _) (KeepT.of_touch tW (fun _ e => e.elim)) ⟨hi.1.touch tW, hi.2⟩ ⟨W.heap.size, ?hle, Blk.new _ _ _, ha'⟩
    case hle => exact hs
    have Key := Lib.hid key
    clear key hK hi hI hit hDL hal
    dsimp only [encSp]
    gi_wp2
    exact Key.out _ rfl
  case body =>
    rintro l pre z a' W hl - ⟨hi, h1⟩ ⟨Bx, hBx, hbx, rfl⟩ hlt
    obtain ⟨⟨f, t⟩, hft⟩ := z
    simp only at hbx hft
    have c0 := hi.kb.cell 0; have c1 := hi.bb.cell 0; have zb := hi.bb.frozen 0
    have d0 := hbx.cell 0; have d1 := hbx.cell 1
    simp at c0 c1 d0 d1
    have HW := Lib.hid (cweekly_any k a p b c _ f t W hi.ck (by omega) (by omega) (by omega) (by omega))
    have hwb := HCk0.out.ok.weekly_bd (a := f) (b := t) (by omega) (by omega)
    have hls := Ca.lost_snoc c (pre.map (·.1)) ⟨f, t⟩
    have HLs := Lib.hid hls
    have HI1 := Lib.hid hi
    have HBx := Lib.hid hbx
    have hBb : Bx ≠ b := by omega
    have hzw := hi.sz
    by_cases huv : c.weekly f t < y - c.lost (pre.map (·.1))
    · generalize hv : y - c.lost (pre.map (·.1)) = v at *
      have HVv := Lib.hid hv
      generalize hu : c.weekly f t = u at *
      have HUu := Lib.hid hu
      have hlostb : v ≤ 9223372036854775807 := by
        have := (HCk0.out.ok.lost_bd (pre.map (·.1)) (fun s hs => by
          obtain ⟨q, -, rfl⟩ := List.mem_map.1 hs
          have := q.2; omega)).1
        omega
      clear hi h1 hbx hI hit hDL hal hls hv hu
      gi_wp2_with (refine ⟨trivial, ?_⟩; gi_at_call 75; refine (CallsIn.inRound l (callsIn_wide.2 HW.out)).mono ?_; rintro e W2 ⟨rfl, ck2, t2⟩; have HI2 := Lib.hid (HI1.out.get hbw t2 ck2); have HT2 := Lib.hid t2; have c1' := HI2.out.bb.cell 0; have zb' := HI2.out.bb.frozen 0; simp at c1'; clear ck2 t2)
      have tt : Touch (fun q => q = b ∨ q = w.heap.size + 1) W (W2.setCell ⟨w.heap.size + 1, 0, none⟩ (.int .i64 (v - u))) := (HT2.out.mono (S' := fun q => q = b ∨ q = w.heap.size + 1) (fun _ _ e => .inl e)).set (fun _ => .inr rfl) _
      refine ⟨(tt.others (fun q hq => ?_)).from _, KeepT.of_touch tt (fun q hq => ?_), ?_, ?_⟩
      · rcases hq with rfl | rfl
        · exact HI1.out.ck.pn.lz.cells
        · exact HI1.out.bb.cells
      · rcases hq with rfl | rfl
        · exact .inl rfl
        · exact .inr (by omega)
      · have hv2 : y - c.lost ((pre ++ [(⟨⟨f, t⟩, hft⟩ : FSp)]).map (fun x => x.1)) = v - u := by
          rw [List.map_append, List.map_cons, List.map_nil, HLs.out]
          have := HVv.out; have := HUu.out
          omega
        rw [hv2]
        exact HI2.out.setB HGL.out (by omega) hbw _
      · rw [List.map_append, List.map_cons, List.map_nil, HLs.out]
        have := HVv.out; have := HUu.out
        omega
    · have k0 := hi.ck.blk.cell 0
      have HUn := Lib.hid (fun w1 G (hh : PnAt w1 p c.wk b G) => until_any p c.wk b G (f + (604800 - c.off)) w1 hh (by have := HCk0.out.ok.off; omega) (by have := HCk0.out.ok.off; omega))
      have hoff : 0 ≤ 604800 - c.off ∧ 604800 - c.off ≤ 604800 := by have := HCk0.out.ok.off; omega
      have hVf := U_bd HCk0.out.ok.wk (u := f + (604800 - c.off)) (by omega)
      have hVt := U_bd HCk0.out.ok.wk (u := t + (604800 - c.off)) (by omega)
      have hwe := HCk0.out.ok.weekly_eq (a := f) (b := t) (by omega) (by omega)
      have HVf := Lib.hid (show c.V f = U c.wk (f + (604800 - c.off)) from rfl)
      have HVt := Lib.hid (show c.V t = U c.wk (t + (604800 - c.off)) from rfl)
      rw [HVf.out, HVt.out] at hwe
      have HNt := Lib.hid (fun n w1 G (hh : PnAt w1 p c.wk b G) (hn0 : 0 ≤ n) (hn : n < U c.wk (t + (604800 - c.off))) => nth_any p c.wk b G n (t + (604800 - c.off)) w1 hh hn0 hlp (by omega) (by omega) hn)
      have HPost := Lib.hid (And.intro h1 (show y - c.lost (pre.map (·.1)) ≤ c.weekly f t by omega))
      generalize hv : y - c.lost (pre.map (·.1)) = v at *
      have HVv := Lib.hid hv
      generalize hu : c.weekly f t = u at *
      have HUu := Lib.hid hu
      generalize hVV : U c.wk (f + (604800 - c.off)) = Vf at *
      have HVV := Lib.hid hVV
      generalize U c.wk (t + (604800 - c.off)) = Vt at *
      generalize hsh : 604800 - c.off = s at *
      have HSh := Lib.hid hsh
      clear hi h1 hbx hI hit hDL hal hls hv hu hVV hsh k0
      gi_wp2_with (refine ⟨trivial, ?_⟩; gi_at_call 75; refine (CallsIn.inRound l (callsIn_wide.2 HW.out)).mono ?_; rintro e W2 ⟨rfl, ck2, t2⟩; have HI2 := Lib.hid (HI1.out.get hbw t2 ck2); have HT2 := Lib.hid t2; have c1' := HI2.out.bb.cell 0; have zb' := HI2.out.bb.frozen 0; simp at c1'; clear ck2 t2)
      have e0 := HI2.out.kb.cell 0; have e1 := HI2.out.ck.blk.cell 1; have e2 := HI2.out.ck.blk.cell 2
      have b2 := (HT2.out.blk HBx.out hBb).cell 0
      simp at e0 e1 e2 b2
      rw [HSh.out] at e2
      have hkl := HI2.out.kb.lt
      have hkk := HI2.out.ck.blk.lt
      have hkb : k ≠ b := HI2.out.ck.gb _ HI2.out.ck.gk
      have hbl := HI2.out.bb.lt
      have hw0b : w.heap.size ≠ b := by omega
      have hw1b : w.heap.size + 1 ≠ b := by omega
      have hv1 := HPost.out.1
      have hv2 := HPost.out.2
      have hw1 : IntKind.i64.wrap (f + s) = f + s := IntWalk.i64_in _ (by omega)
      have hw2 : IntKind.i64.wrap (Vf + v) = Vf + v := IntWalk.i64_in _ (by omega)
      have hw3 : IntKind.i64.wrap (Vf + v - 1) = Vf + v - 1 := IntWalk.i64_in _ (by omega)
      refine wpIn_region_plan [(0, 4), (0, 5), (0, 6), (0, 7), (0, 8), (0, 9), (0, 10), (0, 11), (0, 12), (0, 13), (0, 14), (1, 0), (1, 1), (1, 2), (1, 3), (1, 16), (2, 15), (0, 17), (0, 18), (2, 19), (0, 20), (0, 21), (0, 22), (0, 23), (0, 24)] (fun q => q = b) (by kernel_rfl) (by kernel_rfl) (by kernel_rfl) (fun ⟨_, _, h⟩ => h) (fun c a d v w h => by cases d <;> exact h) ?_
      iterate 11
        refine plan_s1 rfl (by rfl) (fun Kc hKc => ?_)
        go_simp
        first
          | (refine hKc _ ?_)
        clear hKc Kc
      iterate 5
        apply plan_h
        · rfl
        · rfl
        · intro wh hT
          have hf0 := (hT.cell (p := ⟨w.heap.size, 0, none⟩) hkl hw0b).trans e0
          have hf1 := (hT.cell (p := ⟨k, 1, none⟩) hkk hkb).trans e1
          have hf2 := (hT.cell (p := ⟨w.heap.size + 1, 0, none⟩) hbl hw1b).trans c1'
          go_simp
          try rfl
        go_frame
      refine plan_a1 rfl (by rfl) (fun Kc hKc => ?_)
      go_simp
      refine (HUn.out _ _ (by exact HI2.out.ck.pn.drew)).mono ?_
      rintro e W3 ⟨rfl, p3, t3⟩
      refine hKc _ _ ⟨t3, ?_⟩
      clear hKc Kc
      have t3' : Touch (fun q => q = b) W2 W3 := (Touch.refl _ W2).drew.trans t3 (fun _ _ e => e)
      have HI3 := Lib.hid (HI2.out.get hbw t3' (HI2.out.ck.get t3' p3))
      have HT3 := Lib.hid t3'
      clear p3 t3 t3'
      iterate 2
        refine plan_s1 rfl (by rfl) (fun Kc hKc => ?_)
        go_simp
        first
          | (refine hKc _ ?_)
        clear hKc Kc
      refine plan_a1 rfl (by rfl) (fun Kc hKc => ?_)
      go_simp
      refine (HNt.out (Vf + v - 1) _ _ (by exact HI3.out.ck.pn) (by omega) (by omega)).mono ?_
      rintro e W4 ⟨d, rfl, y1, y2, y3, y4, p4, t4⟩
      refine hKc _ _ ⟨t4, ?_⟩
      clear hKc Kc
      have HI4 := Lib.hid (HI3.out.get hbw t4 (HI3.out.ck.get t4 p4))
      have HT4 := Lib.hid t4
      have HN4 := Lib.hid (And.intro y1 (And.intro y3 y4))
      clear p4 t4 y3 y4
      iterate 5
        refine plan_s1 rfl (by rfl) (fun Kc hKc => ?_)
        go_simp
        first
          | (refine hKc _ ?_)
        clear hKc Kc
      refine plan_done ?_
      clear hw1 hw2 hw3
      have g0 := HI4.out.kb.cell 0; have g2 := HI4.out.ck.blk.cell 2
      have g3 := HI4.out.c0.cell 0; have g4 := HI4.out.c1.cell 0
      have g5 := HI4.out.c0.frozen 0; have g6 := HI4.out.c1.frozen 0
      simp at g0 g2 g3 g4
      rw [HSh.out] at g2
      gi_wp2
      obtain ⟨y1, y3, y4⟩ := HN4.out
      have tt : Touch (fun q => q = b ∨ (w.heap.size + 2 ≤ q ∧ q ≤ w.heap.size + 3)) W ((W4.setCell ⟨w.heap.size + 2, 0, none⟩ (.int .i64 (d - s + 1))).setCell ⟨w.heap.size + 3, 0, none⟩ (.int .i64 0)) :=
        ((((HT2.out.trans HT3.out (fun _ _ e => e)).trans HT4.out (fun _ _ e => e)).mono (S' := fun q => q = b ∨ (w.heap.size + 2 ≤ q ∧ q ≤ w.heap.size + 3)) (fun _ _ e => .inl e)).set (fun _ => .inr (by omega)) _).set (fun _ => .inr (by omega)) _
      refine ⟨(tt.others (fun q hq => ?_)).from _, rfl, pre, ⟨⟨f, t⟩, hft⟩, v, d - s + 1, d, rfl, HI4.out.setR HGL.out (by omega) hbw _ _, ?_, ?_, y1, y3, ?_, ?_⟩
      · rcases hq with rfl | hq
        · exact HI1.out.ck.pn.lz.cells
        · rcases (show q = w.heap.size + 2 ∨ q = w.heap.size + 3 by omega) with rfl | rfl
          · exact HI1.out.c0.cells
          · exact HI1.out.c1.cells
      · rw [HVv.out]; exact HPost.out.1
      · rw [HVv.out]
        show v ≤ c.weekly f t
        rw [HUu.out]; omega
      · rw [HVv.out, y4]
        show _ = c.V f + v - 1
        rw [HVf.out]
      · first | rfl | rw [HSh.out]
  case done =>
    rintro D xs W hD hS ⟨hi, h1⟩ hK
    rw [hS] at hi h1
    have hbig := HCk0.out.ok.big x0 x1
    have HV := Lib.hid (due_big c ia hyp hl (by rw [hbig]; omega))
    have hd := hi.setR HGL.out (by omega) hbw 0 10
    have w2' := hi.c0.cell 0; have w3' := hi.c1.cell 0
    have f2 := hi.c0.frozen 0; have f3 := hi.c1.frozen 0
    simp at w2' w3'
    have HI := Lib.hid hi
    have hK' := ((KeepsOthers.setCell W ⟨w.heap.size + 2, 0, none⟩ (.int .i64 0)).trans (KeepsOthers.setCell _ ⟨w.heap.size + 3, 0, none⟩ (.int .i64 10))).same D _ hK rfl
    have hd2 := hI hd (grownBy_putObj' _ D (.deferred none)) (fun r e => by cases e; exact ⟨hD, _, hK', rfl⟩)
    have HD3 := Lib.hid hd2
    have HKd := Lib.hid hK'
    clear hi h1 hbig hd hd2 hK hK' hI hit hDL hal
    gi_wp2
    have e0 := HD3.out.c0.cell 0; have e1 := HD3.out.c1.cell 0
    simp at e0 e1
    refine ⟨by simp, .inl ⟨_, _, rfl, run_takeDeferred HKd.out, ?_⟩⟩
    refine ⟨.tuple #[.int .i64 0, .int .i64 10], by simp [results, Tryz.results37, go_sem, e0, e1], ?_⟩
    have hz := HI.out.sz
    exact Fin.out _ w2 _ _ _ _ _ HV rfl rfl HD3.out (fun q hq => by rcases HGs.out q hq with e | e; exact .inl e; exact .inr ⟨e.1, by simp; omega⟩) (by omega)
  case stop =>
    rintro D cd pre W hD hpre ⟨rfl, pre0, s, v, d, t, rfl, hi, h1, h2, h3, h4, h5, rfl⟩ hK
    obtain ⟨post, hpost⟩ := hpre
    rw [List.map_append, List.append_assoc] at hpost
    obtain ⟨hdue, hle, hnn⟩ := HCk0.out.ok.due x0 (post := post) (s := s.1) hpost.symm h1 h2 h3 h4 h5
    have HV := Lib.hid (due_of c ia hl hdue hle)
    have hd2 := hI hi (grownBy_putObj' _ D (.deferred none)) (fun r e => by cases e; exact ⟨hD, _, hK, rfl⟩)
    have HD3 := Lib.hid hd2
    have HKd := Lib.hid hK
    have hz := hi.sz
    clear hi h1 hd2 hK hI hit hDL hal hdue h2 h3 h4 h5 hpost
    gi_wp2
    have e0 := HD3.out.c0.cell 0; have e1 := HD3.out.c1.cell 0
    simp at e0 e1
    refine ⟨by simp, .inl ⟨_, _, rfl, run_takeDeferred HKd.out, ?_⟩⟩
    refine ⟨.tuple #[.int .i64 _, .int .i64 0], by simp [results, Tryz.results37, go_sem, e0, e1]; rfl, ?_⟩
    exact Fin.out _ w2 _ _ _ _ _ HV rfl rfl HD3.out (fun q hq => by rcases HGs.out q hq with e | e; exact .inl e; exact .inr ⟨e.1, by simp; omega⟩) (by omega)
end Go.Proofs.YtlcefchbfjfifaaGreat
