/- law20.do. (written by gensesv.py) -/
import Derived.Test.YtmgmjehebbggaaaVArgsO
namespace Go.Proofs.Ytmgmjehebbggaaa
open Go.RowKit Go.Maps
set_option maxHeartbeats 4000000
set_option maxRecDepth 100000
set_option linter.unusedVariables false
attribute [local irreducible] wpPlan

/-- A call's cells: kind, client, request, reply. -/
structure OpC (OC R : Array Value) (k : Int) (c q : Nat) : Prop where
  n : OC.size = 17
  k0 : OC[0]? = some (.int .i64 k)
  k1 : OC[1]? = some (.int .u64 (c : Nat))
  k2 : OC[2]? = some (.int .u64 (q : Nat))
  r : OC.extract 3 (3 + 14) = R
  rn : R.size = 14
  r1 : R.all (·.oneCell') = true
def F1 (w : World) (F : Nat → Prop) (k : Nat) : Prop := (F k ∧ k < w.heap.size) ∨ w.heap.size + 3 ≤ k
theorem SesAt.to1 {w : World} {g b : Nat} {s : SesS} {F : Nat → Prop} (h : SesAt w g b s F) : SesAt w g b s (F1 w F) :=
  ⟨h.blk, h.lt_.map.mono (fun k hk => .inl hk), h.ok, fun k hk => by
    have hbl := h.map.choose_spec.1.lt
    rcases hk with hk | hk
    · exact h.nF k hk.1
    · omega, h.ne⟩
/-- What stands when do has begun. -/
structure DoW (w W : World) (g b : Nat) (s : SesS) (F : Nat → Prop) (C OC : Array Value) : Prop where
  t : Touch (fun k => k = b) w W
  ses : SesAt W g b s (F1 w F)
  b0 : Blk W w.heap.size 46 C
  bo : Blk W (w.heap.size + 1) 37 OC
  br : ∃ Z, Z.size = 135 ∧ Blk W (w.heap.size + 2) 46 Z
  n : w.heap.size + 3 ≤ W.heap.size
  lb : b < w.heap.size
  lg : g < w.heap.size
theorem DoW.far {w W W2 : World} {g b : Nat} {s : SesS} {F : Nat → Prop} {C OC : Array Value} (h : DoW w W g b s F C OC) (t : Touch (fun _ => False) W W2) : DoW w W2 g b s F C OC := by
  obtain ⟨h1, h2, h3, h4, ⟨Z, hZ, h5⟩, h6, h7, h8⟩ := h
  exact ⟨h1.trans t (fun _ _ e => e.elim), h2.touch t (fun e => e) (fun e => e) (fun _ _ e => e), t.blk h3 (fun e => e), t.blk h4 (fun e => e), ⟨Z, hZ, t.blk h5 (fun e => e)⟩, Nat.le_trans h6 t.size, h7, h8⟩
theorem DoW.next {w W W2 : World} {g b : Nat} {s s' : SesS} {F : Nat → Prop} {C OC : Array Value} (h : DoW w W g b s F C OC) (t : Touch (fun k => k = b) W W2) (hs : SesAt W2 g b s' (F1 w F)) : DoW w W2 g b s' F C OC := by
  obtain ⟨h1, h2, h3, h4, ⟨Z, hZ, h5⟩, h6, h7, h8⟩ := h
  exact ⟨h1.trans t (fun _ _ e => e), hs, t.blk h3 (by omega), t.blk h4 (by omega), ⟨Z, hZ, t.blk h5 (by omega)⟩, Nat.le_trans h6 t.size, h7, h8⟩
def DoP (g b : Nat) (F : Nat → Prop) (s' : SesS) (T' : RT) (w : World) (e : Ending) (w' : World) : Prop :=
  e = .returned (.tuple #[.agg T'.cells, .bool true]) ∧ SesAt w' g b s' (F1 w F) ∧ w.heap.size + 3 ≤ w'.heap.size ∧ Touch (fun k => k = b) w w'
theorem DoW.new {w : World} {g b : Nat} {s : SesS} {F : Nat → Prop} (T : RT) (OC : Array Value) (h : SesAt w g b s F) : DoW w (((w.alloc (.cells T.cells 46)).alloc (.cells OC 37)).alloc (.cells Try.zeroCells46 46)) g b s F T.cells OC := by
  have hbl := h.map.choose_spec.1.lt
  have hgl := h.blk.lt
  have t0 := (((Touch.refl (fun _ => False) w).alloc (.cells T.cells 46)).alloc (.cells OC 37)).alloc (.cells Try.zeroCells46 46)
  refine ⟨t0.mono (fun _ _ e => e.elim), h.to1.touch t0 (fun e => e) (fun e => e) (fun _ _ e => e), ((Blk.new w _ T.cells).alloc _).alloc _, ?_, ⟨Try.zeroCells46, by kernel_rfl, ?_⟩, by simp, hbl, hgl⟩
  · have h := (Blk.new (w.alloc (.cells T.cells 46)) 37 OC).alloc (.cells Try.zeroCells46 46)
    simpa using h
  · have h := Blk.new ((w.alloc (.cells T.cells 46)).alloc (.cells OC 37)) 46 Try.zeroCells46
    simpa using h
theorem do20_drop (g b : Nat) (s : SesS) (F : Nat → Prop) (w : World) (h : SesAt w g b s F) (T : RT) (hT : RTs T s) (OC R : Array Value) (c q : Nat) (hc : c < 18446744073709551616) (hO : OpC OC R 2 c q) :
    Calls Try.prog 13 #[.pointer (some ⟨g, 0, none⟩), .agg T.cells, .agg OC] w (DoP g b F (dropS s c) (dropT T s c) w) := by
  have HW := Lib.hid (DoW.new T OC h)
  have HN := Lib.hid T.cells_size
  have HD := Lib.hid (fun w1 => fdrop20_any T s hT h.ok c w1)
  have HP := Lib.hid (fun w1 (h1 : SesAt w1 g b s (F1 w F)) => sdrop_any g b s (F1 w F) w1 h1 c hc)
  have HO := Lib.hid hO
  unfold RtP at HD
  unfold DropP at HP
  unfold DoP
  generalize dropB s c = B at *
  generalize dropS s c = s2 at *
  have HN2 := Lib.hid (dropT T s c).cells_size
  have H12 := Lib.hid (dropT T s c).cells_one
  generalize (dropT T s c).cells = D at *
  generalize T.cells = C at *
  have q0 := HW.out.bo.cell 0
  have q1 := HW.out.bo.cell 1
  rw [hO.k0] at q0
  rw [hO.k1] at q1
  clear h hT hO
  go_enter Try.func13, Try.ntmps13
  go_wp2_with (first
    | ((with_reducible apply HW.out.b0.ld rowRt HN.out); exact rfl; exact rfl; exact rfl)
    | (go_at_call 30; go_must (refine (HD.out _).mono ?_); rintro e w1 ⟨rfl, t1⟩
       have HW1 := Lib.hid (HW.out.far t1)
       clear t1)
    | (refine storeC rowRt _ _ rfl rfl _ _ D rfl rfl rfl (by kernel_rfl) HN2.out H12.out ?_))
  have HW2 := Lib.hid (HW1.out.far ((Touch.refl (fun _ => False) w1).alloc (.cells D 46)))
  have HBd := Lib.hid (Blk.new w1 46 D)
  generalize hv : w1.alloc (.cells D 46) = w2 at *
  clear q0 q1
  have q1 := (HW2.out.far (Touch.refl _ _).drew).bo.cell 1
  rw [HO.out.k1] at q1
  refine wp_region_plan [(0, 1), (0, 2), (0, 3), (1, 0), (1, 5), (2, 4), (1, 6), (2, 7), (0, 8)] (fun k => k = b ∨ k = w.heap.size + 2) (by kernel_rfl) (by kernel_rfl) (fun c a d v w h => by cases d <;> exact h) ?_
  iterate 3
    refine plan_s1 rfl (by rfl) (fun Kc hKc => ?_)
    go_simp
    first
      | (refine hKc _ ?_)
    clear hKc Kc
  have hn1 := HW1.out.n
  have hlb := HW1.out.lb
  refine plan_hC rowRt rfl _ rfl rfl w1.heap.size 0 rfl D HN2.out (fun wh hT => (hT.blk (HBd.out.drewN 0) (by rintro (e | e) <;> omega)).whole) ?_
  go_frame
  iterate 1
    apply plan_h
    · rfl
    · rfl
    · intro wh hT
      go_simp
      try rfl
    go_frame
  refine plan_a1 rfl (by rfl) (fun Kc hKc => ?_)
  go_simp
  refine (HP.out _ (HW2.out.far (Touch.refl _ _).drew).ses).mono ?_
  rintro e w3 ⟨rfl, hs3, t3⟩
  have HW3 := Lib.hid ((HW2.out.far (Touch.refl _ _).drew).next t3 hs3)
  refine hKc _ _ ⟨t3.mono (fun _ _ e => .inl e), ?_⟩
  clear hKc Kc
  clear hs3 t3
  have hbe : (B == B) = true := by simp
  iterate 1
    apply plan_h
    · rfl
    · rfl
    · intro wh hT
      go_simp
      try rfl
    go_frame
  obtain ⟨Z, hZ, hZb⟩ := HW3.out.br
  refine plan_aM rowRt rfl rfl _ _ rfl (w.heap.size + 2) 0 rfl D rfl _ Z hZb (by omega) HN2.out H12.out (.inr rfl) ?_
  intro w4 hb4 t4 _
  go_frame
  rw [setAll_whole _ _ (by simp [HN2.out, hZ])] at hb4
  have HB4 := Lib.hid (show Blk w4 (w.heap.size + 2) 46 D by simpa using hb4)
  have hlg := HW3.out.lg
  have HS4 := Lib.hid (HW3.out.ses.touch t4 (by omega) (by omega) (fun k hk e => by rcases hk with hk | hk <;> omega))
  have hn4 := Nat.le_trans HW3.out.n t4.size
  have HT4 := Lib.hid (HW3.out.t.trans t4 (S := fun k => k = b) (fun q hq e => by omega))
  clear hb4 t4
  iterate 1
    refine plan_s1 rfl (by rfl) (fun Kc hKc => ?_)
    go_simp
    first
      | (refine hKc _ ?_)
    clear hKc Kc
  refine plan_done ?_
  go_wp2_with fail
  exact bodyPost_ret (results_cell2 6 7 rowRt HN2.out (HB4.out.whole) rfl rfl) rfl ⟨rfl, HS4.out, hn4, HT4.out⟩
theorem do20_done (g b : Nat) (s : SesS) (F : Nat → Prop) (w : World) (h : SesAt w g b s F) (T : RT) (hT : RTs T s) (OC : Array Value) (k : Int) (hk1 : k ≠ 1) (hk2 : k ≠ 2) (c q : Nat) (hc : c < 18446744073709551616) (hq : q < 18446744073709551616) (a : RpV) (A : Option Addr) (n : Nat) (hak : a.t.ok) (Fo : Nat → Prop) (hro : Rd w Fo A a.fired.length (a.fired.map U64)) (hFo : ∀ k, Fo k → k ≠ b ∧ k < w.heap.size) (hO : OpC OC (rpC a A n) k c q) :
    Calls Try.prog 13 #[.pointer (some ⟨g, 0, none⟩), .agg T.cells, .agg OC] w (DoP g b F (doneS s c q a) (doneT T s c q a A n) w) := by
  have HW := Lib.hid (DoW.new T OC h)
  have HN := Lib.hid T.cells_size
  have HD := Lib.hid (fun w1 => fdone20_any T s hT h.ok c q hq a hak A n w1)
  have HP := Lib.hid (fun w1 (h1 : DoW w w1 g b s F T.cells OC) => sdone_any g b s (F1 w F) w1 h1.ses (fun k hk => .inr (Nat.le_trans h1.n hk)) c q hc hq a A n ((hro.touch h1.t (fun k hk => (hFo k hk).1)).mono (fun k hk => by have := (hFo k hk).2; have := h1.n; omega)) hak)
  have HO := Lib.hid hO
  have hP := HP.out
  rw [show (#[.int .i64 a.code, .int .i64 a.time, .int .u64 a.t.id, .int .i64 a.t.contract, .int .i64 a.t.state, .int .i64 a.t.level, .int .u64 a.t.gen, .int .i64 a.t.from_, .int .i64 a.t.left, .int .i64 a.t.due, .int .i64 a.t.told, .slice A a.fired.length n, .int .u64 a.notice, .int .i64 a.dead] : Array Value) = rpC a A n from rfl] at hP
  have HP := Lib.hid hP
  clear hP
  unfold RtP at HD
  unfold DoneP at HP
  unfold DoP
  generalize doneE s c q a = E at *
  generalize doneS s c q a = s2 at *
  have HN2 := Lib.hid (doneT T s c q a A n).cells_size
  have H12 := Lib.hid (doneT T s c q a A n).cells_one
  generalize (doneT T s c q a A n).cells = D at *
  generalize T.cells = C at *
  generalize rpC a A n = R at *
  have HRn := Lib.hid hO.rn
  have HRx := Lib.hid hO.r
  have q0 := HW.out.bo.cell 0
  have q1 := HW.out.bo.cell 1
  have q2 := HW.out.bo.cell 2
  rw [hO.k0] at q0
  rw [hO.k1] at q1
  rw [hO.k2] at q2
  have hk1' : (k == 1) = false := by simpa using hk1
  have hk2' : (k == 2) = false := by simpa using hk2
  clear h hT hO hro hFo hak
  go_enter Try.func13, Try.ntmps13
  go_wp2_with (first
    | ((with_reducible apply HW.out.b0.ld rowRt HN.out); exact rfl; exact rfl; exact rfl)
    | ((with_reducible apply HW.out.bo.lp (k := 3) rowRy HRn.out HRx.out); exact rfl; exact rfl; exact rfl)
    | (go_at_call 31; go_must (refine (HD.out _).mono ?_); rintro e w1 ⟨rfl, t1⟩
       have HW1 := Lib.hid (HW.out.far t1)
       clear t1)
    | (refine storeC rowRt _ _ rfl rfl _ _ D rfl rfl rfl (by kernel_rfl) HN2.out H12.out ?_))
  have HW2 := Lib.hid (HW1.out.far ((Touch.refl (fun _ => False) w1).alloc (.cells D 46)))
  have HBd := Lib.hid (Blk.new w1 46 D)
  generalize hv : w1.alloc (.cells D 46) = w2 at *
  clear q0 q1 q2
  have q1 := (HW2.out.far (Touch.refl _ _).drew).bo.cell 1
  have q2 := (HW2.out.far (Touch.refl _ _).drew).bo.cell 2
  rw [HO.out.k1] at q1
  rw [HO.out.k2] at q2
  refine wp_region_plan [(0, 1), (0, 2), (0, 3), (0, 4), (0, 5), (0, 6), (1, 7), (1, 0), (1, 9), (2, 8), (1, 10), (2, 11), (0, 12)] (fun k => k = b ∨ k = w.heap.size + 2) (by kernel_rfl) (by kernel_rfl) (fun c a d v w h => by cases d <;> exact h) ?_
  iterate 6
    refine plan_s1 rfl (by rfl) (fun Kc hKc => ?_)
    go_simp
    first
      | (refine hKc _ ?_)
    clear hKc Kc
  have hn1 := HW1.out.n
  have hlb := HW1.out.lb
  refine plan_hC rowRy rfl _ rfl rfl (w.heap.size + 1) 3 rfl R HRn.out (fun wh hT => HRx.out ▸ (hT.blk (HW2.out.far (Touch.refl _ _).drew).bo (by rintro (e | e) <;> omega)).range 3 14) ?_
  go_frame
  refine plan_hC rowRt rfl _ rfl rfl w1.heap.size 0 rfl D HN2.out (fun wh hT => (hT.blk (HBd.out.drewN 0) (by rintro (e | e) <;> omega)).whole) ?_
  go_frame
  iterate 1
    apply plan_h
    · rfl
    · rfl
    · intro wh hT
      go_simp
      try rfl
    go_frame
  refine plan_a1 rfl (by rfl) (fun Kc hKc => ?_)
  go_simp
  refine (HP.out _ (HW2.out.far (Touch.refl _ _).drew)).mono ?_
  rintro e w3 ⟨rfl, hs3, t3⟩
  have HW3 := Lib.hid ((HW2.out.far (Touch.refl _ _).drew).next t3 hs3)
  refine hKc _ _ ⟨t3.mono (fun _ _ e => .inl e), ?_⟩
  clear hKc Kc
  clear hs3 t3
  have hbe : (E == E) = true := by simp
  iterate 1
    apply plan_h
    · rfl
    · rfl
    · intro wh hT
      go_simp
      try rfl
    go_frame
  obtain ⟨Z, hZ, hZb⟩ := HW3.out.br
  refine plan_aM rowRt rfl rfl _ _ rfl (w.heap.size + 2) 0 rfl D rfl _ Z hZb (by omega) HN2.out H12.out (.inr rfl) ?_
  intro w4 hb4 t4 _
  go_frame
  rw [setAll_whole _ _ (by simp [HN2.out, hZ])] at hb4
  have HB4 := Lib.hid (show Blk w4 (w.heap.size + 2) 46 D by simpa using hb4)
  have hlg := HW3.out.lg
  have HS4 := Lib.hid (HW3.out.ses.touch t4 (by omega) (by omega) (fun k hk e => by rcases hk with hk | hk <;> omega))
  have hn4 := Nat.le_trans HW3.out.n t4.size
  have HT4 := Lib.hid (HW3.out.t.trans t4 (S := fun k => k = b) (fun q hq e => by omega))
  clear hb4 t4
  iterate 1
    refine plan_s1 rfl (by rfl) (fun Kc hKc => ?_)
    go_simp
    first
      | (refine hKc _ ?_)
    clear hKc Kc
  refine plan_done ?_
  go_wp2_with fail
  exact bodyPost_ret (results_cell2 6 7 rowRt HN2.out (HB4.out.whole) rfl rfl) rfl ⟨rfl, HS4.out, hn4, HT4.out⟩
end Go.Proofs.Ytmgmjehebbggaaa
