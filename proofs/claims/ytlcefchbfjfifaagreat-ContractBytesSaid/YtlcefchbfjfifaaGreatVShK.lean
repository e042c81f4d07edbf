/- ContractBytes walked (written by genkb.py). -/
import Derived.Test.YtlcefchbfjfifaaGreatVShJ
namespace Go.Proofs.YtlcefchbfjfifaaGreat
open Go.RowKit Cal
set_option maxHeartbeats 8000000
set_option maxRecDepth 100000
set_option linter.unusedVariables false
attribute [local irreducible] wpPlan

theorem kb_big {w : World} (x : Co) (A : Option Addr) (n : Nat) (hrx : SpR w (fun q => q < w.heap.size) A x.lv.length x.lv) (ux : x.lv.length ≤ n ∧ n ≤ maxLen)
    (y : Co) (A' : Option Addr) (n' : Nat) (hry : SpR w (fun q => q < w.heap.size) A' y.lv.length y.lv) (uy : y.lv.length ≤ n' ∧ n' ≤ maxLen)
    (D : Option Addr) (nd cd : Nat) (lb : List UInt8) (e1 : lb.length = nd) (g1 : D = none → cd = 0) (u1 : nd ≤ cd) (m1 : cd ≤ maxLen) (s1 : Rd w (fun q => q < w.heap.size) D nd (lb.map B8)) (h : 60 < x.lv.length ∨ (¬ 60 < x.lv.length ∧ 60 < y.lv.length) ∨ ((¬ 60 < x.lv.length ∧ ¬ 60 < y.lv.length) ∧ 3000 < nd)) :
    Calls Tryz.prog 3 #[.agg #[.int .i64 x.cal, .slice A x.lv.length n, .int .i64 x.rt, .int .i64 x.bk], .agg #[.int .i64 y.cal, .slice A' y.lv.length n', .int .i64 y.rt, .int .i64 y.bk], .slice D nd cd] w fun e w' => e = .returned (.bool true) ∧ Below w.heap.size w w' := by
  subst e1
  have HA := Lib.hid (show Touch (fun _ => False) w ((w.alloc (.cells #[.int .i64 x.cal, .slice A x.lv.length n, .int .i64 x.rt, .int .i64 x.bk] 24)).alloc (.cells #[.int .i64 y.cal, .slice A' y.lv.length n', .int .i64 y.rt, .int .i64 y.bk] 24)) from ((Touch.refl (fun _ => False) w).alloc _).alloc _)
  have HBx := Lib.hid (show Blk ((w.alloc (.cells #[.int .i64 x.cal, .slice A x.lv.length n, .int .i64 x.rt, .int .i64 x.bk] 24)).alloc (.cells #[.int .i64 y.cal, .slice A' y.lv.length n', .int .i64 y.rt, .int .i64 y.bk] 24)) w.heap.size 24 #[.int .i64 x.cal, .slice A x.lv.length n, .int .i64 x.rt, .int .i64 x.bk] from (Blk.new w _ _).alloc _)
  have HBy := Lib.hid (show Blk ((w.alloc (.cells #[.int .i64 x.cal, .slice A x.lv.length n, .int .i64 x.rt, .int .i64 x.bk] 24)).alloc (.cells #[.int .i64 y.cal, .slice A' y.lv.length n', .int .i64 y.rt, .int .i64 y.bk] 24)) (w.heap.size + 1) 24 #[.int .i64 y.cal, .slice A' y.lv.length n', .int .i64 y.rt, .int .i64 y.bk] from by simpa using Blk.new (w.alloc (.cells #[.int .i64 x.cal, .slice A x.lv.length n, .int .i64 x.rt, .int .i64 x.bk] 24)) 24 #[.int .i64 y.cal, .slice A' y.lv.length n', .int .i64 y.rt, .int .i64 y.bk])
  have HBb := Lib.hid (s1.touch HA.out (fun _ _ e => e))
  have z1 := HBx.out.cell 1
  have z2 := HBy.out.cell 1
  simp at z1 z2
  clear HBx HBy HBb hrx hry g1 s1
  rcases h with h1 | ⟨h1, h2⟩ | ⟨⟨h1, h2⟩, h3⟩
  · have b1 : (60 : Int) < (x.lv.length : Int) := by omega
    go_enter Tryz.func3, Tryz.ntmps3
    go_wp2_with (go_at_call 8; go_must (refine (lives14_any _).mono ?_); rintro e we ⟨rfl, te⟩; have HTe := Lib.hid (HA.out.trans te (fun _ _ e => e)); clear te)
    go_ret
    exact ⟨rfl, HTe.out.below⟩
  · have b1 : ¬ (60 : Int) < (x.lv.length : Int) := by omega
    have b2 : (60 : Int) < (y.lv.length : Int) := by omega
    go_enter Tryz.func3, Tryz.ntmps3
    go_wp2_with (go_at_call 8; go_must (refine (lives14_any _).mono ?_); rintro e we ⟨rfl, te⟩; have HTe := Lib.hid (HA.out.trans te (fun _ _ e => e)); clear te)
    go_ret
    exact ⟨rfl, HTe.out.below⟩
  · have b1 : ¬ (60 : Int) < (x.lv.length : Int) := by omega
    have b2 : ¬ (60 : Int) < (y.lv.length : Int) := by omega
    have b3 : (3000 : Int) < (lb.length : Int) := by omega
    go_enter Tryz.func3, Tryz.ntmps3
    go_wp2_with (go_at_call 8; go_must (refine (lives14_any _).mono ?_); rintro e we ⟨rfl, te⟩; have HTe := Lib.hid (HA.out.trans te (fun _ _ e => e)); clear te)
    go_ret
    exact ⟨rfl, HTe.out.below⟩
theorem kb_small {w : World} (x : Co) (A : Option Addr) (n : Nat) (hrx : SpR w (fun q => q < w.heap.size) A x.lv.length x.lv) (ux : x.lv.length ≤ n ∧ n ≤ maxLen)
    (y : Co) (A' : Option Addr) (n' : Nat) (hry : SpR w (fun q => q < w.heap.size) A' y.lv.length y.lv) (uy : y.lv.length ≤ n' ∧ n' ≤ maxLen)
    (D : Option Addr) (nd cd : Nat) (lb : List UInt8) (e1 : lb.length = nd) (g1 : D = none → cd = 0) (u1 : nd ≤ cd) (m1 : cd ≤ maxLen) (s1 : Rd w (fun q => q < w.heap.size) D nd (lb.map B8)) (hx : x.lv.length ≤ 60) (hy : y.lv.length ≤ 60) (hnd : nd ≤ 3000) :
    Calls Tryz.prog 3 #[.agg #[.int .i64 x.cal, .slice A x.lv.length n, .int .i64 x.rt, .int .i64 x.bk], .agg #[.int .i64 y.cal, .slice A' y.lv.length n', .int .i64 y.rt, .int .i64 y.bk], .slice D nd cd] w fun e w' => e = .returned (.bool true) ∧ Below w.heap.size w w' := by
  subst e1
  have HA := Lib.hid (show Touch (fun _ => False) w ((w.alloc (.cells #[.int .i64 x.cal, .slice A x.lv.length n, .int .i64 x.rt, .int .i64 x.bk] 24)).alloc (.cells #[.int .i64 y.cal, .slice A' y.lv.length n', .int .i64 y.rt, .int .i64 y.bk] 24)) from ((Touch.refl (fun _ => False) w).alloc _).alloc _)
  have HBx := Lib.hid (show Blk ((w.alloc (.cells #[.int .i64 x.cal, .slice A x.lv.length n, .int .i64 x.rt, .int .i64 x.bk] 24)).alloc (.cells #[.int .i64 y.cal, .slice A' y.lv.length n', .int .i64 y.rt, .int .i64 y.bk] 24)) w.heap.size 24 #[.int .i64 x.cal, .slice A x.lv.length n, .int .i64 x.rt, .int .i64 x.bk] from (Blk.new w _ _).alloc _)
  have HBy := Lib.hid (show Blk ((w.alloc (.cells #[.int .i64 x.cal, .slice A x.lv.length n, .int .i64 x.rt, .int .i64 x.bk] 24)).alloc (.cells #[.int .i64 y.cal, .slice A' y.lv.length n', .int .i64 y.rt, .int .i64 y.bk] 24)) (w.heap.size + 1) 24 #[.int .i64 y.cal, .slice A' y.lv.length n', .int .i64 y.rt, .int .i64 y.bk] from by simpa using Blk.new (w.alloc (.cells #[.int .i64 x.cal, .slice A x.lv.length n, .int .i64 x.rt, .int .i64 x.bk] 24)) 24 #[.int .i64 y.cal, .slice A' y.lv.length n', .int .i64 y.rt, .int .i64 y.bk])
  have HBb := Lib.hid (s1.touch HA.out (fun _ _ e => e))
  have z1 := HBx.out.cell 1
  have z2 := HBy.out.cell 1
  simp at z1 z2
  have HRx := Lib.hid (hrx.touch HA.out (fun _ _ e => e))
  have HRy := Lib.hid (hry.touch HA.out (fun _ _ e => e))
  have HCk := Lib.hid (fun w1 h1 => kcheck_any (fun q => q < w.heap.size) A n x w1 h1)
  have HGd := Lib.hid (fun w1 h1 => fgood_any (fun q => q < w.heap.size) A n x w1 h1)
  have HCp := Lib.hid (fun w1 h1 => kcopy_any (fun q => q < w.heap.size) A n x w1 h1 (by omega))
  unfold CopK conA at HCp
  have HSxy := Lib.hid (fun w1 h1 h2 => ksame_any (fun q => q < w.heap.size) (fun q => q < w.heap.size) A A' n n' x y w1 h1 h2 (by omega))
  have HFxy := Lib.hid (fun w1 h1 h2 => fksame_any (fun q => q < w.heap.size) (fun q => q < w.heap.size) A A' n n' x y w1 h1 h2 (by omega))
  have hRD := (fun g F w1 h h1 h2 => kread_any g F false lb w1 h h1 h2)
  have hRF := (fun g F w1 h h1 h2 => fkread_any g F false lb w1 h h1 h2)
  unfold KpPost at hRD
  unfold FKpPost at hRF
  have hql := conRes_len (rdCon (false, lb))
  generalize conRes (rdCon (false, lb)) = Q at *
  generalize conGood (rdCon (false, lb)) = okv at *
  obtain ⟨q, bad, left⟩ := Q
  simp only at hRD hRF hql
  have HRD := Lib.hid hRD
  have HRF := Lib.hid hRF
  generalize sameK x y = v at *
  clear hRD hRF hrx hry s1 g1
  cases hg : goodB x
  · rw [show goodE x = 2 by rw [goodE, hg]; rfl] at HCk
    rw [hg] at HGd
    clear hg
    have b1 : ¬ (60 : Int) < (x.lv.length : Int) := by omega
    have b2 : ¬ (60 : Int) < (y.lv.length : Int) := by omega
    have b3 : ¬ (3000 : Int) < (lb.length : Int) := by omega
    go_enter Tryz.func3, Tryz.ntmps3
    go_wp2_with fail
    clear z1 z2 b1 b2 b3
    obtain ⟨WW, hWW⟩ : ∃ WW, WW = ((w.alloc (.cells #[.int .i64 x.cal, .slice A x.lv.length n, .int .i64 x.rt, .int .i64 x.bk] 24)).alloc (.cells #[.int .i64 y.cal, .slice A' y.lv.length n', .int .i64 y.rt, .int .i64 y.bk] 24)) := ⟨_, rfl⟩
    obtain ⟨WD, hWD⟩ : ∃ WD, WD = WW.drew := ⟨_, rfl⟩
    rw [← hWW]
    have HTd := Lib.hid (show Touch (fun _ => False) ((w.alloc (.cells #[.int .i64 x.cal, .slice A x.lv.length n, .int .i64 x.rt, .int .i64 x.bk] 24)).alloc (.cells #[.int .i64 y.cal, .slice A' y.lv.length n', .int .i64 y.rt, .int .i64 y.bk] 24)) WD from hWD ▸ hWW ▸ (Touch.refl (fun _ => False) _).drew)
    have hbx := HTd.out.blk HBx.out (fun e => e)
    have hby := HTd.out.blk HBy.out (fun e => e)
    have q0 := hbx.cell 0; have q1 := hbx.cell 1; have q2 := hbx.cell 2; have q3 := hbx.cell 3
    have r0 := hby.cell 0; have r1 := hby.cell 1; have r2 := hby.cell 2; have r3 := hby.cell 3
    simp at q0 q1 q2 q3 r0 r1 r2 r3
    have hgx := hbx.lt
    have hgy := hby.lt
    clear hbx hby
    refine wp_region_plan [(0, 0), (1, 3), (2, 1), (1, 2), (2, 4), (0, 5), (0, 6), (0, 7), (0, 8), (1, 10), (1, 11), (2, 9), (2, 12), (0, 13), (0, 14), (0, 15), (0, 16), (1, 18), (2, 17), (2, 19), (0, 20), (0, 21)] (fun _ => False) (by kernel_rfl) (by kernel_rfl) (fun c a d v w h => by cases d <;> exact h) ?_
    rw [← hWD]
    clear hWD hWW
    iterate 1
      refine plan_s1 rfl (by rfl) (fun Kc hKc => ?_)
      go_simp
      first
        | (refine hKc _ ?_)
      clear hKc Kc
    iterate 1
      apply plan_h
      · rfl
      · rfl
      · intro wh hT
        have hf0 := (hT.cell (p := ⟨w.heap.size, 0, none⟩) hgx (fun e => e)).trans q0
        have hf1 := (hT.cell (p := ⟨w.heap.size, 1, none⟩) hgx (fun e => e)).trans q1
        have hf2 := (hT.cell (p := ⟨w.heap.size, 2, none⟩) hgx (fun e => e)).trans q2
        have hf3 := (hT.cell (p := ⟨w.heap.size, 3, none⟩) hgx (fun e => e)).trans q3
        go_simp
        try rfl
      go_frame
    clear q0 q1 q2 q3 r0 r1 r2 r3 hgx hgy
    refine plan_a1 rfl (by rfl) (fun Kc hKc => ?_)
    go_simp
    refine (HCk.out _ (by exact HRx.out.touch HTd.out (fun _ _ e => e))).mono ?_
    rintro e w1 ⟨rfl, t1⟩
    refine hKc _ _ ⟨t1, ?_⟩
    clear hKc Kc
    have HT1 := Lib.hid (HTd.out.trans t1 (fun _ _ e => e))
    clear t1
    iterate 1
      apply plan_h
      · rfl
      · rfl
      · intro wh hT
        go_simp
        try rfl
      go_frame
    refine plan_a1 rfl (by rfl) (fun Kc hKc => ?_)
    go_simp
    refine (HGd.out _ (by exact HRx.out.touch HT1.out (fun _ _ e => e))).mono ?_
    rintro e w2 ⟨rfl, t2⟩
    refine hKc _ _ ⟨t2, ?_⟩
    clear hKc Kc
    have HT2 := Lib.hid (HT1.out.trans t2 (fun _ _ e => e))
    clear t2
    have hbx := HT2.out.blk HBx.out (fun e => e)
    have hby := HT2.out.blk HBy.out (fun e => e)
    have q0 := hbx.cell 0; have q1 := hbx.cell 1; have q2 := hbx.cell 2; have q3 := hbx.cell 3
    have r0 := hby.cell 0; have r1 := hby.cell 1; have r2 := hby.cell 2; have r3 := hby.cell 3
    simp at q0 q1 q2 q3 r0 r1 r2 r3
    have hgx := hbx.lt
    have hgy := hby.lt
    clear hbx hby
    iterate 4
      refine plan_s1 rfl (by rfl) (fun Kc hKc => ?_)
      go_simp
      first
        | (refine hKc _ ?_)
      clear hKc Kc
    iterate 2
      apply plan_h
      · rfl
      · rfl
      · intro wh hT
        have hf0 := (hT.cell (p := ⟨w.heap.size, 0, none⟩) hgx (fun e => e)).trans q0
        have hf1 := (hT.cell (p := ⟨w.heap.size, 1, none⟩) hgx (fun e => e)).trans q1
        have hf2 := (hT.cell (p := ⟨w.heap.size, 2, none⟩) hgx (fun e => e)).trans q2
        have hf3 := (hT.cell (p := ⟨w.heap.size, 3, none⟩) hgx (fun e => e)).trans q3
        have hf4 := (hT.cell (p := ⟨w.heap.size + 1, 0, none⟩) hgy (fun e => e)).trans r0
        have hf5 := (hT.cell (p := ⟨w.heap.size + 1, 1, none⟩) hgy (fun e => e)).trans r1
        have hf6 := (hT.cell (p := ⟨w.heap.size + 1, 2, none⟩) hgy (fun e => e)).trans r2
        have hf7 := (hT.cell (p := ⟨w.heap.size + 1, 3, none⟩) hgy (fun e => e)).trans r3
        go_simp
        try rfl
      go_frame
    clear q0 q1 q2 q3 r0 r1 r2 r3 hgx hgy
    refine plan_a1 rfl (by rfl) (fun Kc hKc => ?_)
    go_simp
    refine (HSxy.out _ (by exact HRx.out.touch HT2.out (fun _ _ e => e)) (by exact HRy.out.touch HT2.out (fun _ _ e => e))).mono ?_
    rintro e w3 ⟨rfl, t3⟩
    refine hKc _ _ ⟨t3, ?_⟩
    clear hKc Kc
    have HT3 := Lib.hid (HT2.out.trans t3 (fun _ _ e => e))
    clear t3
    refine plan_a1 rfl (by rfl) (fun Kc hKc => ?_)
    go_simp
    refine (HFxy.out _ (by exact HRx.out.touch HT3.out (fun _ _ e => e)) (by exact HRy.out.touch HT3.out (fun _ _ e => e))).mono ?_
    rintro e w4 ⟨rfl, t4⟩
    refine hKc _ _ ⟨t4, ?_⟩
    clear hKc Kc
    have HT4 := Lib.hid (HT3.out.trans t4 (fun _ _ e => e))
    clear t4
    have hbx := HT4.out.blk HBx.out (fun e => e)
    have hby := HT4.out.blk HBy.out (fun e => e)
    have q0 := hbx.cell 0; have q1 := hbx.cell 1; have q2 := hbx.cell 2; have q3 := hbx.cell 3
    have r0 := hby.cell 0; have r1 := hby.cell 1; have r2 := hby.cell 2; have r3 := hby.cell 3
    simp at q0 q1 q2 q3 r0 r1 r2 r3
    have hgx := hbx.lt
    have hgy := hby.lt
    clear hbx hby
    iterate 4
      refine plan_s1 rfl (by rfl) (fun Kc hKc => ?_)
      go_simp
      first
        | (refine hKc _ ?_)
      clear hKc Kc
    iterate 1
      apply plan_h
      · rfl
      · rfl
      · intro wh hT
        have hf0 := (hT.cell (p := ⟨w.heap.size, 0, none⟩) hgx (fun e => e)).trans q0
        have hf1 := (hT.cell (p := ⟨w.heap.size, 1, none⟩) hgx (fun e => e)).trans q1
        have hf2 := (hT.cell (p := ⟨w.heap.size, 2, none⟩) hgx (fun e => e)).trans q2
        have hf3 := (hT.cell (p := ⟨w.heap.size, 3, none⟩) hgx (fun e => e)).trans q3
        go_simp
        try rfl
      go_frame
    clear q0 q1 q2 q3 r0 r1 r2 r3 hgx hgy
    refine plan_a1 rfl (by rfl) (fun Kc hKc => ?_)
    go_simp
    refine (HCp.out _ (by exact HRx.out.touch HT4.out (fun _ _ e => e))).mono ?_
    rintro e w5 ⟨A5, n5, rfl, hs5, t5⟩
    refine hKc _ _ ⟨t5, ?_⟩
    clear hKc Kc
    have HT5 := Lib.hid (HT4.out.trans t5 (fun _ _ e => e))
    have HS5 := Lib.hid hs5
    clear t5 hs5
    refine plan_a1 rfl (by rfl) (fun Kc hKc => ?_)
    go_simp
    refine (fksame_any _ _ A5 A n5 n x x _ (by exact HS5.out) (by exact HRx.out.touch HT5.out (fun _ _ e => e)) (by omega)).mono ?_
    rintro e w5b ⟨rfl, t5⟩
    rw [sameK_self]
    refine hKc _ _ ⟨t5, ?_⟩
    clear hKc Kc
    have HT5 := Lib.hid (HT5.out.trans t5 (fun _ _ e => e))
    clear t5 HS5
    have hbx := HT5.out.blk HBx.out (fun e => e)
    have q0 := hbx.cell 0; have q1 := hbx.cell 1; have q2 := hbx.cell 2; have q3 := hbx.cell 3
    simp at q0 q1 q2 q3
    clear hbx
    iterate 2
      refine plan_s1 rfl (by rfl) (fun Kc hKc => ?_)
      go_simp
      first
        | (refine hKc _ ?_)
      clear hKc Kc
    refine plan_done ?_
    go_wp2_with (first
      | (go_at_call 10; go_must (refine (HGd.out _ (by exact HRx.out.touch HT5.out (fun _ _ e => e))).mono ?_); rintro e w6 ⟨rfl, t6⟩; have HT6 := Lib.hid (HT5.out.trans t6 (fun _ _ e => e)); have hbx := HT6.out.blk HBx.out (fun e => e); have q0 := hbx.cell 0; have q1 := hbx.cell 1; have q2 := hbx.cell 2; have q3 := hbx.cell 3; simp at q0 q1 q2 q3; clear t6 hbx)
      | (go_at_call 9; go_must (refine (HCk.out _ (by exact HRx.out.touch HT6.out (fun _ _ e => e))).mono ?_); rintro e w7 ⟨rfl, t7⟩; have HT7 := Lib.hid (HT6.out.trans t7 (fun _ _ e => e)); clear t7))
    obtain ⟨wa, hwa⟩ : ∃ wa, wa = (w7.alloc (.cells #[.slice D lb.length cd, .bool false] 103)).alloc (.cells #[.slice D lb.length cd, .bool false] 44) := ⟨_, rfl⟩
    have hTa : Touch (fun _ => False) w7 wa := hwa ▸ ((Touch.refl _ w7).alloc _).alloc _
    have hza : w7.heap.size + 2 ≤ wa.heap.size := by rw [hwa]; simp
    have HTw := Lib.hid (HT7.out.trans hTa (fun _ _ e => e))
    have hzw : w.heap.size + 2 ≤ w7.heap.size := by have := HT7.out.size; simpa using this
    have hBa : Rd wa (fun q => q < w.heap.size) D lb.length (lb.map B8) := ((HBb.out.touch HT7.out (fun _ _ e => e)).touch hTa (fun _ _ e => e))
    have HD := Lib.hid (show RdAt wa w7.heap.size (fun q => q < w.heap.size) lb false from ⟨by omega, D, cd, u1, m1, hwa ▸ (Blk.new w7 103 #[.slice D lb.length cd, .bool false]).alloc _, hBa⟩)
    have HE := Lib.hid (show RfAt wa (w7.heap.size + 1) (fun q => q < w.heap.size) lb false from ⟨by omega, D, cd, u1, m1, hwa ▸ (by simpa using Blk.new (w7.alloc (.cells #[.slice D lb.length cd, .bool false] 103)) 44 #[.slice D lb.length cd, .bool false]), hBa⟩)
    have HWA := Lib.hid hwa
    have HWz := Lib.hid hzw
    clear hwa hTa hzw hBa
    go_wp2_with (go_at_call 16; go_must (refine (open_any _ _ _ _).mono ?_); rintro e wo ⟨rfl, rfl⟩)
    generalize w7.heap.size = g at *
    rw [← HWA.out]
    clear HWA
    refine (HRD.out g (fun q => q < w.heap.size) wa (by exact HD.out) (by intro k hk; have := HWz.out; omega) (by omega)).mono ?_
    rintro e wb ⟨A2, k2, rfl, hrb, hdb, tb⟩
    have hzab := tb.size
    have HEb := Lib.hid (rfAt_touch HE.out tb (by omega) (by intro k hk e; have := HWz.out; omega))
    have HDb := Lib.hid hdb
    have HRb := Lib.hid hrb
    have HTb := Lib.hid (HTw.out.trans tb (fun k hk e => by have := HWz.out; simp at hk; omega))
    clear hrb hdb tb HTw HD HE
    go_wp2_with fail
    have HAl := Lib.hid ((Touch.refl (fun _ => False) wb).alloc (.cells #[.int .i64 q.cal, .slice A2 q.lv.length k2, .int .i64 q.rt, .int .i64 q.bk] 24))
    refine (HRF.out (g + 1) (fun q => q < w.heap.size) _ (by exact rfAt_touch HEb.out HAl.out (fun e => e) (fun _ _ e => e)) (by intro k hk; have := HWz.out; simp; omega) (by simp; omega)).mono ?_
    rintro e wc ⟨A3, k3, rfl, hrc, hec, tc⟩
    have hzc : wb.heap.size + 1 ≤ wc.heap.size := by have := tc.size; simpa using this
    have HBb := Lib.hid (tc.blk (Blk.new wb 24 #[.int .i64 q.cal, .slice A2 q.lv.length k2, .int .i64 q.rt, .int .i64 q.bk]) (by omega))
    have HDc := Lib.hid (rdAt_touch (rdAt_touch HDb.out HAl.out (fun e => e) (fun _ _ e => e)) tc (by omega) (by intro k hk e; have := HWz.out; omega))
    have HRb := Lib.hid ((HRb.out.touch HAl.out (fun _ _ e => e)).touch tc (by intro k hk e; omega))
    have HTc := Lib.hid ((HTb.out.trans HAl.out (fun _ _ e => e)).trans tc (fun k hk e => by have := HWz.out; simp at hk; omega))
    have HRc := Lib.hid hrc
    have HEc := Lib.hid hec
    clear hrc hec tc HAl HDb HEb HTb
    obtain ⟨wd, hwd⟩ : ∃ wd, wd = wc.alloc (.cells #[.int .i64 q.cal, .slice A3 q.lv.length k3, .int .i64 q.rt, .int .i64 q.bk] 24) := ⟨_, rfl⟩
    have HAl := Lib.hid (show Touch (fun _ => False) wc wd from hwd ▸ ((Touch.refl (fun _ => False) wc).alloc (.cells #[.int .i64 q.cal, .slice A3 q.lv.length k3, .int .i64 q.rt, .int .i64 q.bk] 24)))
    have HBc := Lib.hid (show Blk wd wc.heap.size 24 #[.int .i64 q.cal, .slice A3 q.lv.length k3, .int .i64 q.rt, .int .i64 q.bk] from hwd ▸ Blk.new wc 24 _)
    have HWD := Lib.hid hwd
    clear hwd
    go_wp2_with fail
    rw [← HWD.out]
    clear HWD
    have HBb := Lib.hid (HAl.out.blk HBb.out (fun e => e))
    have HDd := Lib.hid (rdAt_touch HDc.out HAl.out (fun e => e) (fun _ _ e => e))
    have HEd := Lib.hid (rfAt_touch HEc.out HAl.out (fun e => e) (fun _ _ e => e))
    have HRb := Lib.hid (HRb.out.touch HAl.out (fun _ _ e => e))
    have HRc := Lib.hid (HRc.out.touch HAl.out (fun _ _ e => e))
    have HTd := Lib.hid (HTc.out.trans HAl.out (fun _ _ e => e))
    have q0 := HBb.out.cell 0; have q1 := HBb.out.cell 1; have q2 := HBb.out.cell 2; have q3 := HBb.out.cell 3
    have p0 := HBc.out.cell 0; have p1 := HBc.out.cell 1; have p2 := HBc.out.cell 2; have p3 := HBc.out.cell 3
    simp at q0 q1 q2 q3 p0 p1 p2 p3
    refine wp_region_plan [(0, 0), (0, 1), (0, 2), (0, 3), (0, 4), (0, 5), (2, 6), (0, 7), (0, 8), (0, 9), (0, 10), (0, 11), (0, 12), (0, 13), (0, 14), (0, 15), (0, 16), (0, 17), (0, 18), (0, 19), (0, 20), (0, 21), (0, 22), (0, 23), (0, 24), (0, 25), (0, 26), (0, 27), (2, 28), (0, 29), (0, 30)] (fun _ => False) (by kernel_rfl) (by kernel_rfl) (fun c a d v w h => by cases d <;> exact h) ?_
    iterate 6
      refine plan_s1 rfl (by rfl) (fun Kc hKc => ?_)
      go_simp
      first
        | (refine hKc _ ?_)
      clear hKc Kc
    refine plan_a1 rfl (by rfl) (fun Kc hKc => ?_)
    go_simp
    refine (fksame_any _ _ A2 A3 k2 k3 q q _ (by exact HRb.out.touch (Touch.refl (fun _ => False) wd).drew (fun _ _ e => e)) (by exact HRc.out.touch (Touch.refl (fun _ => False) wd).drew (fun _ _ e => e)) (by omega)).mono ?_
    rintro e wf ⟨rfl, tf⟩
    rw [sameK_self]
    refine hKc _ _ ⟨tf, ?_⟩
    clear hKc Kc
    have HTf := Lib.hid (HTd.out.drew.trans tf (fun _ _ e => e))
    have HTdf := Lib.hid ((Touch.refl (fun _ => False) wd).drew.trans tf (fun _ _ e => e))
    have HDf := Lib.hid (rdAt_touch HDd.out HTdf.out (fun e => e) (fun _ _ e => e))
    obtain ⟨_, Ae, ce, hle, hme, hbe, _⟩ := rfAt_touch HEd.out HTdf.out (fun e => e) (fun _ _ e => e)
    have y0 := hbe.cell 0; have y1 := hbe.cell 1
    simp at y0 y1
    clear tf hbe hle hme q0 p0 q1 p1 q2 p2 q3 p3
    iterate 21
      refine plan_s1 rfl (by rfl) (fun Kc hKc => ?_)
      go_simp
      first
        | (refine hKc _ ?_)
        | (refine ⟨_, calls_flip (left_st g (fun q => q < w.heap.size) left bad _ (by exact HDf.out)), hKc _ ?_⟩)
        | (refine ⟨_, calls_flip (bad_st g (fun q => q < w.heap.size) left bad _ (by exact HDf.out)), hKc _ ?_⟩)
      clear hKc Kc
    refine plan_a1 rfl (by rfl) (fun Kc hKc => ?_)
    go_simp
    refine (lives14_any _).mono ?_
    rintro e we ⟨rfl, te⟩
    refine hKc _ _ ⟨te, ?_⟩
    clear hKc Kc
    have HTe := Lib.hid (HTf.out.trans te (fun _ _ e => e))
    clear te
    iterate 2
      refine plan_s1 rfl (by rfl) (fun Kc hKc => ?_)
      go_simp
      first
        | (refine hKc _ ?_)
      clear hKc Kc
    refine plan_done ?_
    go_wp2_with fail
    go_ret
    exact ⟨ret_bool (by simp), (HA.out.trans HTe.out (fun _ _ e => e)).below⟩
  · rw [show goodE x = 0 by rw [goodE, hg]; rfl] at HCk
    rw [hg] at HGd
    have b1 : ¬ (60 : Int) < (x.lv.length : Int) := by omega
    have b2 : ¬ (60 : Int) < (y.lv.length : Int) := by omega
    have b3 : ¬ (3000 : Int) < (lb.length : Int) := by omega
    go_enter Tryz.func3, Tryz.ntmps3
    go_wp2_with fail
    clear z1 z2 b1 b2 b3
    obtain ⟨WW, hWW⟩ : ∃ WW, WW = ((w.alloc (.cells #[.int .i64 x.cal, .slice A x.lv.length n, .int .i64 x.rt, .int .i64 x.bk] 24)).alloc (.cells #[.int .i64 y.cal, .slice A' y.lv.length n', .int .i64 y.rt, .int .i64 y.bk] 24)) := ⟨_, rfl⟩
    obtain ⟨WD, hWD⟩ : ∃ WD, WD = WW.drew := ⟨_, rfl⟩
    rw [← hWW]
    have HTd := Lib.hid (show Touch (fun _ => False) ((w.alloc (.cells #[.int .i64 x.cal, .slice A x.lv.length n, .int .i64 x.rt, .int .i64 x.bk] 24)).alloc (.cells #[.int .i64 y.cal, .slice A' y.lv.length n', .int .i64 y.rt, .int .i64 y.bk] 24)) WD from hWD ▸ hWW ▸ (Touch.refl (fun _ => False) _).drew)
    have hbx := HTd.out.blk HBx.out (fun e => e)
    have hby := HTd.out.blk HBy.out (fun e => e)
    have q0 := hbx.cell 0; have q1 := hbx.cell 1; have q2 := hbx.cell 2; have q3 := hbx.cell 3
    have r0 := hby.cell 0; have r1 := hby.cell 1; have r2 := hby.cell 2; have r3 := hby.cell 3
    simp at q0 q1 q2 q3 r0 r1 r2 r3
    have hgx := hbx.lt
    have hgy := hby.lt
    clear hbx hby
    refine wp_region_plan [(0, 0), (1, 3), (2, 1), (1, 2), (2, 4), (0, 5), (0, 6), (0, 7), (0, 8), (1, 10), (1, 11), (2, 9), (2, 12), (0, 13), (0, 14), (0, 15), (0, 16), (1, 18), (2, 17), (2, 19), (0, 20), (0, 21)] (fun _ => False) (by kernel_rfl) (by kernel_rfl) (fun c a d v w h => by cases d <;> exact h) ?_
    rw [← hWD]
    clear hWD hWW
    iterate 1
      refine plan_s1 rfl (by rfl) (fun Kc hKc => ?_)
      go_simp
      first
        | (refine hKc _ ?_)
      clear hKc Kc
    iterate 1
      apply plan_h
      · rfl
      · rfl
      · intro wh hT
        have hf0 := (hT.cell (p := ⟨w.heap.size, 0, none⟩) hgx (fun e => e)).trans q0
        have hf1 := (hT.cell (p := ⟨w.heap.size, 1, none⟩) hgx (fun e => e)).trans q1
        have hf2 := (hT.cell (p := ⟨w.heap.size, 2, none⟩) hgx (fun e => e)).trans q2
        have hf3 := (hT.cell (p := ⟨w.heap.size, 3, none⟩) hgx (fun e => e)).trans q3
        go_simp
        try rfl
      go_frame
    clear q0 q1 q2 q3 r0 r1 r2 r3 hgx hgy
    refine plan_a1 rfl (by rfl) (fun Kc hKc => ?_)
    go_simp
    refine (HCk.out _ (by exact HRx.out.touch HTd.out (fun _ _ e => e))).mono ?_
    rintro e w1 ⟨rfl, t1⟩
    refine hKc _ _ ⟨t1, ?_⟩
    clear hKc Kc
    have HT1 := Lib.hid (HTd.out.trans t1 (fun _ _ e => e))
    clear t1
    iterate 1
      apply plan_h
      · rfl
      · rfl
      · intro wh hT
        go_simp
        try rfl
      go_frame
    refine plan_a1 rfl (by rfl) (fun Kc hKc => ?_)
    go_simp
    refine (HGd.out _ (by exact HRx.out.touch HT1.out (fun _ _ e => e))).mono ?_
    rintro e w2 ⟨rfl, t2⟩
    refine hKc _ _ ⟨t2, ?_⟩
    clear hKc Kc
    have HT2 := Lib.hid (HT1.out.trans t2 (fun _ _ e => e))
    clear t2
    have hbx := HT2.out.blk HBx.out (fun e => e)
    have hby := HT2.out.blk HBy.out (fun e => e)
    have q0 := hbx.cell 0; have q1 := hbx.cell 1; have q2 := hbx.cell 2; have q3 := hbx.cell 3
    have r0 := hby.cell 0; have r1 := hby.cell 1; have r2 := hby.cell 2; have r3 := hby.cell 3
    simp at q0 q1 q2 q3 r0 r1 r2 r3
    have hgx := hbx.lt
    have hgy := hby.lt
    clear hbx hby
    iterate 4
      refine plan_s1 rfl (by rfl) (fun Kc hKc => ?_)
      go_simp
      first
        | (refine hKc _ ?_)
      clear hKc Kc
    iterate 2
      apply plan_h
      · rfl
      · rfl
      · intro wh hT
        have hf0 := (hT.cell (p := ⟨w.heap.size, 0, none⟩) hgx (fun e => e)).trans q0
        have hf1 := (hT.cell (p := ⟨w.heap.size, 1, none⟩) hgx (fun e => e)).trans q1
        have hf2 := (hT.cell (p := ⟨w.heap.size, 2, none⟩) hgx (fun e => e)).trans q2
        have hf3 := (hT.cell (p := ⟨w.heap.size, 3, none⟩) hgx (fun e => e)).trans q3
        have hf4 := (hT.cell (p := ⟨w.heap.size + 1, 0, none⟩) hgy (fun e => e)).trans r0
        have hf5 := (hT.cell (p := ⟨w.heap.size + 1, 1, none⟩) hgy (fun e => e)).trans r1
        have hf6 := (hT.cell (p := ⟨w.heap.size + 1, 2, none⟩) hgy (fun e => e)).trans r2
        have hf7 := (hT.cell (p := ⟨w.heap.size + 1, 3, none⟩) hgy (fun e => e)).trans r3
        go_simp
        try rfl
      go_frame
    clear q0 q1 q2 q3 r0 r1 r2 r3 hgx hgy
    refine plan_a1 rfl (by rfl) (fun Kc hKc => ?_)
    go_simp
    refine (HSxy.out _ (by exact HRx.out.touch HT2.out (fun _ _ e => e)) (by exact HRy.out.touch HT2.out (fun _ _ e => e))).mono ?_
    rintro e w3 ⟨rfl, t3⟩
    refine hKc _ _ ⟨t3, ?_⟩
    clear hKc Kc
    have HT3 := Lib.hid (HT2.out.trans t3 (fun _ _ e => e))
    clear t3
    refine plan_a1 rfl (by rfl) (fun Kc hKc => ?_)
    go_simp
    refine (HFxy.out _ (by exact HRx.out.touch HT3.out (fun _ _ e => e)) (by exact HRy.out.touch HT3.out (fun _ _ e => e))).mono ?_
    rintro e w4 ⟨rfl, t4⟩
    refine hKc _ _ ⟨t4, ?_⟩
    clear hKc Kc
    have HT4 := Lib.hid (HT3.out.trans t4 (fun _ _ e => e))
    clear t4
    have hbx := HT4.out.blk HBx.out (fun e => e)
    have hby := HT4.out.blk HBy.out (fun e => e)
    have q0 := hbx.cell 0; have q1 := hbx.cell 1; have q2 := hbx.cell 2; have q3 := hbx.cell 3
    have r0 := hby.cell 0; have r1 := hby.cell 1; have r2 := hby.cell 2; have r3 := hby.cell 3
    simp at q0 q1 q2 q3 r0 r1 r2 r3
    have hgx := hbx.lt
    have hgy := hby.lt
    clear hbx hby
    iterate 4
      refine plan_s1 rfl (by rfl) (fun Kc hKc => ?_)
      go_simp
      first
        | (refine hKc _ ?_)
      clear hKc Kc
    iterate 1
      apply plan_h
      · rfl
      · rfl
      · intro wh hT
        have hf0 := (hT.cell (p := ⟨w.heap.size, 0, none⟩) hgx (fun e => e)).trans q0
        have hf1 := (hT.cell (p := ⟨w.heap.size, 1, none⟩) hgx (fun e => e)).trans q1
        have hf2 := (hT.cell (p := ⟨w.heap.size, 2, none⟩) hgx (fun e => e)).trans q2
        have hf3 := (hT.cell (p := ⟨w.heap.size, 3, none⟩) hgx (fun e => e)).trans q3
        go_simp
        try rfl
      go_frame
    clear q0 q1 q2 q3 r0 r1 r2 r3 hgx hgy
    refine plan_a1 rfl (by rfl) (fun Kc hKc => ?_)
    go_simp
    refine (HCp.out _ (by exact HRx.out.touch HT4.out (fun _ _ e => e))).mono ?_
    rintro e w5 ⟨A5, n5, rfl, hs5, t5⟩
    refine hKc _ _ ⟨t5, ?_⟩
    clear hKc Kc
    have HT5 := Lib.hid (HT4.out.trans t5 (fun _ _ e => e))
    have HS5 := Lib.hid hs5
    clear t5 hs5
    refine plan_a1 rfl (by rfl) (fun Kc hKc => ?_)
    go_simp
    refine (fksame_any _ _ A5 A n5 n x x _ (by exact HS5.out) (by exact HRx.out.touch HT5.out (fun _ _ e => e)) (by omega)).mono ?_
    rintro e w5b ⟨rfl, t5⟩
    rw [sameK_self]
    refine hKc _ _ ⟨t5, ?_⟩
    clear hKc Kc
    have HT5 := Lib.hid (HT5.out.trans t5 (fun _ _ e => e))
    clear t5 HS5
    have hbx := HT5.out.blk HBx.out (fun e => e)
    have q0 := hbx.cell 0; have q1 := hbx.cell 1; have q2 := hbx.cell 2; have q3 := hbx.cell 3
    simp at q0 q1 q2 q3
    clear hbx
    iterate 2
      refine plan_s1 rfl (by rfl) (fun Kc hKc => ?_)
      go_simp
      first
        | (refine hKc _ ?_)
      clear hKc Kc
    refine plan_done ?_
    have hel := encK_len x (by omega)
    have HPut := Lib.hid (fun g w1 (hw : WAt w1 g none []) (h1 : SpR w1 (fun q => q < w.heap.size) A x.lv.length x.lv) (h2 : ∀ q, q < w.heap.size → q ≠ g) => kput_any g none [] x (fun q => q < w.heap.size) A n w1 hw h1 (fun q hq => ⟨h2 q hq, by simp⟩) hg (by simp))
    simp only [List.nil_append] at HPut
    have HFp := Lib.hid (fun w1 h1 => fputk_any x (fun q => q < w.heap.size) A n w1 h1 hg)
    have HRx2 := fun g F w1 h h1 h2 => kread_any g F false (encK x) w1 h h1 h2
    unfold KpPost at HRx2
    rw [(rdCon_back hg).1, (rdCon_back hg).2] at HRx2
    have HRX := Lib.hid HRx2
    have hx6 := good_hd hg
    generalize encK x = eb at *
    clear HRx2
    go_wp2_with (first
      | (go_at_call 10; go_must (refine (HGd.out _ (by exact HRx.out.touch HT5.out (fun _ _ e => e))).mono ?_); rintro e w6 ⟨rfl, t6⟩
         have HT6 := Lib.hid (HT5.out.trans t6 (fun _ _ e => e))
         have hz6 : w.heap.size + 2 ≤ w6.heap.size := by have := HT6.out.size; simpa using this
         have hb6 := HT6.out.blk HBx.out (fun e => e)
         clear q0 q1 q2 q3 t6
         have q0 : (w6.alloc (.cells #[.slice none 0 0] 33)).cell? ⟨w.heap.size, 0, none⟩ = some (.int .i64 x.cal) := (hb6.alloc _).cell 0
         have q1 : (w6.alloc (.cells #[.slice none 0 0] 33)).cell? ⟨w.heap.size, 1, none⟩ = some (.slice A x.lv.length n) := (hb6.alloc _).cell 1
         have q2 : (w6.alloc (.cells #[.slice none 0 0] 33)).cell? ⟨w.heap.size, 2, none⟩ = some (.int .i64 x.rt) := (hb6.alloc _).cell 2
         have q3 : (w6.alloc (.cells #[.slice none 0 0] 33)).cell? ⟨w.heap.size, 3, none⟩ = some (.int .i64 x.bk) := (hb6.alloc _).cell 3
         have HW0 := Lib.hid (show WAt (w6.alloc (.cells #[.slice none 0 0] 33)) w6.heap.size none [] from ⟨by simp, _, Blk.new w6 33 #[.slice none 0 0], Own.nil _ _ _⟩)
         clear hb6)
      | (go_at_call 14
         go_must (refine (HPut.out w6.heap.size _ (by exact HW0.out) (by exact HRx.out.touch (HT6.out.alloc _) (fun _ _ e => e)) (by intro k hk; omega)).mono ?_)
         rintro e w7 ⟨rfl, r7, hw7, t7, hf7⟩
         have HT7 := Lib.hid ((HT6.out.alloc (.cells #[.slice none 0 0] 33)).trans t7 (fun k hk e => by rcases e with e | e; (simp at hk; omega); cases e))
         have hz7 : w6.heap.size + 1 ≤ w7.heap.size := by have := t7.size; simpa using this
         have HN7 := Lib.hid (show (∀ k, r7 = some k → k < w7.heap.size) from hw7.ltr)
         have HW7 := Lib.hid hw7
         clear t7 hw7 hf7 q0 q1 q2 q3)
      | (go_at_call 17
         go_must (refine (wbytes_any w6.heap.size r7 eb _ (by exact HW7.out) (by omega)).mono ?_)
         rintro e w8 ⟨A8, c8, rfl, u8, m8, hr8, t8⟩
         simp only [List.length_map] at u8 hr8 ⊢
         have HU8 := Lib.hid (And.intro u8 m8)
         have hz8 : w7.heap.size ≤ w8.heap.size := t8.size
         have HR8 := Lib.hid hr8.insideC
         have HT8 := Lib.hid (HT7.out.trans t8 (fun _ _ e => e))
         have HW8 := Lib.hid (HW7.out.touch t8 (fun e => e) (fun _ _ e => e))
         clear u8 m8 hr8 t8)
      | (go_at_call 16; have HM9 := HR8; go_must (refine (open_any _ _ _ _).mono ?_); rintro e w9 ⟨rfl, rfl⟩)
      | (go_at_call 15
         go_must (refine (HRX.out w8.heap.size (fun k => w7.heap.size ≤ k ∧ k < w8.heap.size) _ (by exact ⟨fun h => by omega, A8, c8, HU8.out.1, HU8.out.2, Blk.new _ _ _, HR8.out.touch ((Touch.refl (fun _ => False) w8).alloc _) (fun _ _ e => e)⟩) (by intro k hk; simp; omega) (by simp)).mono ?_)
         rintro e w9 ⟨A9, k9, rfl, hr9, -, t9⟩
         simp only
         have hz9 : w8.heap.size + 1 ≤ w9.heap.size := by have := t9.size; simpa using this
         have HT9 := Lib.hid ((HT8.out.alloc (.cells #[.slice A8 eb.length c8, .bool false] 103)).trans t9 (fun k hk e => by simp at hk; omega))
         have HR9 := Lib.hid hr9
         have HW9 := Lib.hid ((HW8.out.touch ((Touch.refl (fun _ => False) w8).alloc (.cells #[.slice A8 eb.length c8, .bool false] 103)) (fun e => e) (fun _ _ e => e)).touch t9 (by omega) (fun k hk e => by have := HN7.out k hk; omega))
         clear hr9 t9))
    obtain ⟨wA, hwA⟩ : ∃ wA, wA = w9.alloc (.cells #[.int .i64 x.cal, .slice A9 x.lv.length k9, .int .i64 x.rt, .int .i64 x.bk] 24) := ⟨_, rfl⟩
    have hAl : Touch (fun _ => False) w9 wA := hwA ▸ ((Touch.refl (fun _ => False) w9).alloc (.cells #[.int .i64 x.cal, .slice A9 x.lv.length k9, .int .i64 x.rt, .int .i64 x.bk] 24))
    have HB9 := Lib.hid (show Blk wA w9.heap.size 24 #[.int .i64 x.cal, .slice A9 x.lv.length k9, .int .i64 x.rt, .int .i64 x.bk] from hwA ▸ Blk.new w9 24 _)
    have HTA := Lib.hid (HT9.out.trans hAl (fun _ _ e => e))
    have HRA := Lib.hid (HR9.out.touch hAl (fun _ _ e => e))
    have HWA := Lib.hid (HW9.out.touch hAl (fun e => e) (fun _ _ e => e))
    have HWEQ := Lib.hid hwA
    clear hwA hAl
    rw [← HWEQ.out]
    clear HWEQ HT9 HR9 HW9 HW8 HT8 HR8 HT7 HW7 HT6 HU8
    have HTd := Lib.hid (HTA.out.trans ((Touch.refl (fun _ => False) wA).drew) (fun _ _ e => e))
    have HDr := Lib.hid ((Touch.refl (fun _ => False) wA).drew)
    have hbx := HTd.out.blk HBx.out (fun e => e)
    have q0 := hbx.cell 0; have q1 := hbx.cell 1; have q2 := hbx.cell 2; have q3 := hbx.cell 3
    simp at q0 q1 q2 q3
    have hgx := hbx.lt
    clear hbx
    refine wp_region_plan [(1, 2), (2, 0), (1, 1), (2, 3), (0, 4), (0, 5), (0, 6), (0, 7), (0, 8), (0, 9), (0, 10), (0, 11), (0, 12), (2, 13), (0, 14), (0, 15)] (fun _ => False) (by kernel_rfl) (by kernel_rfl) (fun c a d v w h => by cases d <;> exact h) ?_
    iterate 1
      apply plan_h
      · rfl
      · rfl
      · intro wh hT
        have hf0 := (hT.cell (p := ⟨w.heap.size, 0, none⟩) hgx (fun e => e)).trans q0
        have hf1 := (hT.cell (p := ⟨w.heap.size, 1, none⟩) hgx (fun e => e)).trans q1
        have hf2 := (hT.cell (p := ⟨w.heap.size, 2, none⟩) hgx (fun e => e)).trans q2
        have hf3 := (hT.cell (p := ⟨w.heap.size, 3, none⟩) hgx (fun e => e)).trans q3
        go_simp
        try rfl
      go_frame
    refine plan_a1 rfl (by rfl) (fun Kc hKc => ?_)
    go_simp
    refine (wbytes_any w6.heap.size r7 eb _ (by exact HWA.out.touch HDr.out (fun e => e) (fun _ _ e => e)) (by omega)).mono ?_
    rintro e w10 ⟨A10, c10, rfl, -, -, hr10, t10⟩
    simp only [List.length_map] at hr10 ⊢
    refine hKc _ _ ⟨t10, ?_⟩
    clear hKc Kc
    have HT10 := Lib.hid (HTd.out.trans t10 (fun _ _ e => e))
    have HD10 := Lib.hid (HDr.out.trans t10 (fun _ _ e => e))
    have HR10 := Lib.hid hr10
    clear t10 hr10
    iterate 1
      apply plan_h
      · rfl
      · rfl
      · intro wh hT
        have hf0 := Rd.str (HR10.out.touch hT (fun _ _ e => e)) c10
        go_simp
        try rfl
      go_frame
    refine plan_a1 rfl (by rfl) (fun Kc hKc => ?_)
    go_simp
    refine (HFp.out _ (by exact HRx.out.touch HT10.out (fun _ _ e => e))).mono ?_
    rintro e w11 ⟨v11, k11, rfl, ho11, -, t11⟩
    obtain ⟨A11, c11, rfl, -, -, -, hr11⟩ := ho11.rd
    refine hKc _ _ ⟨t11, ?_⟩
    clear hKc Kc
    have HT11 := Lib.hid (HT10.out.trans t11 (fun _ _ e => e))
    have HD11 := Lib.hid (HD10.out.trans t11 (fun _ _ e => e))
    have hs11 := Rd.str hr11 c11
    clear t11 hr11 ho11 q0 q1 q2 q3 hgx
    have hbx := HT11.out.blk HBx.out (fun e => e)
    have q0 := hbx.cell 0; have q1 := hbx.cell 1; have q2 := hbx.cell 2; have q3 := hbx.cell 3
    have hb9 := HD11.out.blk HB9.out (fun e => e)
    have r0 := hb9.cell 0; have r1 := hb9.cell 1; have r2 := hb9.cell 2; have r3 := hb9.cell 3
    simp at q0 q1 q2 q3 r0 r1 r2 r3
    clear hbx hb9
    iterate 9
      refine plan_s1 rfl (by rfl) (fun Kc hKc => ?_)
      go_simp
      first
        | (refine hKc _ ?_)
      clear hKc Kc
    refine plan_a1 rfl (by rfl) (fun Kc hKc => ?_)
    go_simp
    refine (fksame_any _ _ A9 A k9 n x x _ (by exact HRA.out.touch HD11.out (fun _ _ e => e)) (by exact HRx.out.touch HT11.out (fun _ _ e => e)) (by omega)).mono ?_
    rintro e w12 ⟨rfl, t12⟩
    rw [sameK_self]
    refine hKc _ _ ⟨t12, ?_⟩
    clear hKc Kc
    have HT12 := Lib.hid (HT11.out.trans t12 (fun _ _ e => e))
    clear t12 q0 q1 q2 q3 r0 r1 r2 r3 hs11 HD11 HD10 HT10 HT11 HTd HDr HTA HRA HWA HB9
    iterate 2
      refine plan_s1 rfl (by rfl) (fun Kc hKc => ?_)
      go_simp
      first
        | (refine hKc _ ?_)
      clear hKc Kc
    refine plan_done ?_
    obtain ⟨wa, hwa⟩ : ∃ wa, wa = (w12.alloc (.cells #[.slice D lb.length cd, .bool false] 103)).alloc (.cells #[.slice D lb.length cd, .bool false] 44) := ⟨_, rfl⟩
    have hTa : Touch (fun _ => False) w12 wa := hwa ▸ ((Touch.refl _ w12).alloc _).alloc _
    have hza : w12.heap.size + 2 ≤ wa.heap.size := by rw [hwa]; simp
    have HTw := Lib.hid (HT12.out.trans hTa (fun _ _ e => e))
    have hzw : w.heap.size + 2 ≤ w12.heap.size := by have := HT12.out.size; simpa using this
    have hBa : Rd wa (fun q => q < w.heap.size) D lb.length (lb.map B8) := ((HBb.out.touch HT12.out (fun _ _ e => e)).touch hTa (fun _ _ e => e))
    have HD := Lib.hid (show RdAt wa w12.heap.size (fun q => q < w.heap.size) lb false from ⟨by omega, D, cd, u1, m1, hwa ▸ (Blk.new w12 103 #[.slice D lb.length cd, .bool false]).alloc _, hBa⟩)
    have HE := Lib.hid (show RfAt wa (w12.heap.size + 1) (fun q => q < w.heap.size) lb false from ⟨by omega, D, cd, u1, m1, hwa ▸ (by simpa using Blk.new (w12.alloc (.cells #[.slice D lb.length cd, .bool false] 103)) 44 #[.slice D lb.length cd, .bool false]), hBa⟩)
    have HWA := Lib.hid hwa
    have HWz := Lib.hid hzw
    clear hwa hTa hzw hBa
    go_wp2_with (go_at_call 16; go_must (refine (open_any _ _ _ _).mono ?_); rintro e wo ⟨rfl, rfl⟩)
    generalize w12.heap.size = g at *
    rw [← HWA.out]
    clear HWA
    refine (HRD.out g (fun q => q < w.heap.size) wa (by exact HD.out) (by intro k hk; have := HWz.out; omega) (by omega)).mono ?_
    rintro e wb ⟨A2, k2, rfl, hrb, hdb, tb⟩
    have hzab := tb.size
    have HEb := Lib.hid (rfAt_touch HE.out tb (by omega) (by intro k hk e; have := HWz.out; omega))
    have HDb := Lib.hid hdb
    have HRb := Lib.hid hrb
    have HTb := Lib.hid (HTw.out.trans tb (fun k hk e => by have := HWz.out; simp at hk; omega))
    clear hrb hdb tb HTw HD HE
    go_wp2_with fail
    have HAl := Lib.hid ((Touch.refl (fun _ => False) wb).alloc (.cells #[.int .i64 q.cal, .slice A2 q.lv.length k2, .int .i64 q.rt, .int .i64 q.bk] 24))
    refine (HRF.out (g + 1) (fun q => q < w.heap.size) _ (by exact rfAt_touch HEb.out HAl.out (fun e => e) (fun _ _ e => e)) (by intro k hk; have := HWz.out; simp; omega) (by simp; omega)).mono ?_
    rintro e wc ⟨A3, k3, rfl, hrc, hec, tc⟩
    have hzc : wb.heap.size + 1 ≤ wc.heap.size := by have := tc.size; simpa using this
    have HBb := Lib.hid (tc.blk (Blk.new wb 24 #[.int .i64 q.cal, .slice A2 q.lv.length k2, .int .i64 q.rt, .int .i64 q.bk]) (by omega))
    have HDc := Lib.hid (rdAt_touch (rdAt_touch HDb.out HAl.out (fun e => e) (fun _ _ e => e)) tc (by omega) (by intro k hk e; have := HWz.out; omega))
    have HRb := Lib.hid ((HRb.out.touch HAl.out (fun _ _ e => e)).touch tc (by intro k hk e; omega))
    have HTc := Lib.hid ((HTb.out.trans HAl.out (fun _ _ e => e)).trans tc (fun k hk e => by have := HWz.out; simp at hk; omega))
    have HRc := Lib.hid hrc
    have HEc := Lib.hid hec
    clear hrc hec tc HAl HDb HEb HTb
    obtain ⟨wd, hwd⟩ : ∃ wd, wd = wc.alloc (.cells #[.int .i64 q.cal, .slice A3 q.lv.length k3, .int .i64 q.rt, .int .i64 q.bk] 24) := ⟨_, rfl⟩
    have HAl := Lib.hid (show Touch (fun _ => False) wc wd from hwd ▸ ((Touch.refl (fun _ => False) wc).alloc (.cells #[.int .i64 q.cal, .slice A3 q.lv.length k3, .int .i64 q.rt, .int .i64 q.bk] 24)))
    have HBc := Lib.hid (show Blk wd wc.heap.size 24 #[.int .i64 q.cal, .slice A3 q.lv.length k3, .int .i64 q.rt, .int .i64 q.bk] from hwd ▸ Blk.new wc 24 _)
    have HWD := Lib.hid hwd
    clear hwd
    go_wp2_with fail
    rw [← HWD.out]
    clear HWD
    have HBb := Lib.hid (HAl.out.blk HBb.out (fun e => e))
    have HDd := Lib.hid (rdAt_touch HDc.out HAl.out (fun e => e) (fun _ _ e => e))
    have HEd := Lib.hid (rfAt_touch HEc.out HAl.out (fun e => e) (fun _ _ e => e))
    have HRb := Lib.hid (HRb.out.touch HAl.out (fun _ _ e => e))
    have HRc := Lib.hid (HRc.out.touch HAl.out (fun _ _ e => e))
    have HTd := Lib.hid (HTc.out.trans HAl.out (fun _ _ e => e))
    have q0 := HBb.out.cell 0; have q1 := HBb.out.cell 1; have q2 := HBb.out.cell 2; have q3 := HBb.out.cell 3
    have p0 := HBc.out.cell 0; have p1 := HBc.out.cell 1; have p2 := HBc.out.cell 2; have p3 := HBc.out.cell 3
    simp at q0 q1 q2 q3 p0 p1 p2 p3
    refine wp_region_plan [(0, 0), (0, 1), (0, 2), (0, 3), (0, 4), (0, 5), (2, 6), (0, 7), (0, 8), (0, 9), (0, 10), (0, 11), (0, 12), (0, 13), (0, 14), (0, 15), (0, 16), (0, 17), (0, 18), (0, 19), (0, 20), (0, 21), (0, 22), (0, 23), (0, 24), (0, 25), (0, 26), (0, 27), (2, 28), (0, 29), (0, 30)] (fun _ => False) (by kernel_rfl) (by kernel_rfl) (fun c a d v w h => by cases d <;> exact h) ?_
    iterate 6
      refine plan_s1 rfl (by rfl) (fun Kc hKc => ?_)
      go_simp
      first
        | (refine hKc _ ?_)
      clear hKc Kc
    refine plan_a1 rfl (by rfl) (fun Kc hKc => ?_)
    go_simp
    refine (fksame_any _ _ A2 A3 k2 k3 q q _ (by exact HRb.out.touch (Touch.refl (fun _ => False) wd).drew (fun _ _ e => e)) (by exact HRc.out.touch (Touch.refl (fun _ => False) wd).drew (fun _ _ e => e)) (by omega)).mono ?_
    rintro e wf ⟨rfl, tf⟩
    rw [sameK_self]
    refine hKc _ _ ⟨tf, ?_⟩
    clear hKc Kc
    have HTf := Lib.hid (HTd.out.drew.trans tf (fun _ _ e => e))
    have HTdf := Lib.hid ((Touch.refl (fun _ => False) wd).drew.trans tf (fun _ _ e => e))
    have HDf := Lib.hid (rdAt_touch HDd.out HTdf.out (fun e => e) (fun _ _ e => e))
    obtain ⟨_, Ae, ce, hle, hme, hbe, _⟩ := rfAt_touch HEd.out HTdf.out (fun e => e) (fun _ _ e => e)
    have y0 := hbe.cell 0; have y1 := hbe.cell 1
    simp at y0 y1
    clear tf hbe hle hme q0 p0 q1 p1 q2 p2 q3 p3
    iterate 21
      refine plan_s1 rfl (by rfl) (fun Kc hKc => ?_)
      go_simp
      first
        | (refine hKc _ ?_)
        | (refine ⟨_, calls_flip (left_st g (fun q => q < w.heap.size) left bad _ (by exact HDf.out)), hKc _ ?_⟩)
        | (refine ⟨_, calls_flip (bad_st g (fun q => q < w.heap.size) left bad _ (by exact HDf.out)), hKc _ ?_⟩)
      clear hKc Kc
    refine plan_a1 rfl (by rfl) (fun Kc hKc => ?_)
    go_simp
    refine (lives14_any _).mono ?_
    rintro e we ⟨rfl, te⟩
    refine hKc _ _ ⟨te, ?_⟩
    clear hKc Kc
    have HTe := Lib.hid (HTf.out.trans te (fun _ _ e => e))
    clear te
    iterate 2
      refine plan_s1 rfl (by rfl) (fun Kc hKc => ?_)
      go_simp
      first
        | (refine hKc _ ?_)
      clear hKc Kc
    refine plan_done ?_
    go_wp2_with fail
    go_ret
    exact ⟨ret_bool (by simp), (HA.out.trans HTe.out (fun _ _ e => e)).below⟩
theorem walk_ContractBytes {w : World} (x : Co) (A : Option Addr) (n : Nat) (hrx : SpR w (fun q => q < w.heap.size) A x.lv.length x.lv) (ux : x.lv.length ≤ n ∧ n ≤ maxLen)
    (y : Co) (A' : Option Addr) (n' : Nat) (hry : SpR w (fun q => q < w.heap.size) A' y.lv.length y.lv) (uy : y.lv.length ≤ n' ∧ n' ≤ maxLen)
    (D : Option Addr) (nd cd : Nat) (lb : List UInt8) (e1 : lb.length = nd) (g1 : D = none → cd = 0) (u1 : nd ≤ cd) (m1 : cd ≤ maxLen) (s1 : Rd w (fun q => q < w.heap.size) D nd (lb.map B8)) :
    Calls Tryz.prog 3 #[.agg #[.int .i64 x.cal, .slice A x.lv.length n, .int .i64 x.rt, .int .i64 x.bk], .agg #[.int .i64 y.cal, .slice A' y.lv.length n', .int .i64 y.rt, .int .i64 y.bk], .slice D nd cd] w fun e w' => e = .returned (.bool true) ∧ Below w.heap.size w w' := by
  by_cases h1 : 60 < x.lv.length
  · exact kb_big x A n hrx ux y A' n' hry uy D nd cd lb e1 g1 u1 m1 s1 (.inl h1)
  by_cases h2 : 60 < y.lv.length
  · exact kb_big x A n hrx ux y A' n' hry uy D nd cd lb e1 g1 u1 m1 s1 (.inr (.inl ⟨h1, h2⟩))
  by_cases h3 : 3000 < nd
  · exact kb_big x A n hrx ux y A' n' hry uy D nd cd lb e1 g1 u1 m1 s1 (.inr (.inr ⟨⟨h1, h2⟩, h3⟩))
  exact kb_small x A n hrx ux y A' n' hry uy D nd cd lb e1 g1 u1 m1 s1 (by omega) (by omega) (by omega)
end Go.Proofs.YtlcefchbfjfifaaGreat
