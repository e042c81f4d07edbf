/- What reply.Read does. -/
import Derived.Test.YtmgmjehebbggaaaVRepJ
namespace Go.Proofs.Ytmgmjehebbggaaa
open Go.RowKit
set_option maxHeartbeats 4000000
set_option maxRecDepth 100000
set_option linter.unusedVariables false

theorem rrread_any (g : Nat) (F : Nat → Prop) (bad : Bool) (l : List UInt8) (w : World) (h : RdAt w g F l bad) (hg : g < w.heap.size) (hF : ∀ k, F k → k < w.heap.size) :
    Calls Try.prog 38 #[.pointer (some ⟨g, 0, none⟩)] w (RpPost (rdRep (bad, l)) w g F) := by
  obtain ⟨r, hr⟩ : ∃ r, r = rdRep (bad, l) := ⟨_, rfl⟩
  rw [← hr]
  have HRd := Lib.hid hr
  clear hr
  have HB2 := Lib.hid (Blk.new w 35 #[.int .i64 0, .int .i64 0, .int .u64 0, .int .i64 0, .int .i64 0, .int .i64 0, .int .u64 0, .int .i64 0, .int .i64 0, .int .i64 0, .int .i64 0, .slice none 0 0, .int .u64 0, .int .i64 0])
  have HH0 := Lib.hid (rdAt_touch h ((Touch.refl (fun _ => False) w).alloc (.cells #[.int .i64 0, .int .i64 0, .int .u64 0, .int .i64 0, .int .i64 0, .int .i64 0, .int .u64 0, .int .i64 0, .int .i64 0, .int .i64 0, .int .i64 0, .slice none 0 0, .int .u64 0, .int .i64 0] 35)) (fun e => e) (fun _ _ e => e))
  have HT0 := Lib.hid ((Touch.refl (fun k => k = g) w).alloc (.cells #[.int .i64 0, .int .i64 0, .int .u64 0, .int .i64 0, .int .i64 0, .int .i64 0, .int .u64 0, .int .i64 0, .int .i64 0, .int .i64 0, .int .i64 0, .slice none 0 0, .int .u64 0, .int .i64 0] 35))
  clear h
  go_enter Try.func38, Try.ntmps38
  go_wp2_with fail
  refine (num_st g F bad 99 l _ (by exact HH0.out)).mono ?_
  rintro e w1 ⟨v1, b1, l1, hv1, hm1, rfl, h1, t1⟩
  have HV1 := Lib.hid hv1
  have HH1 := Lib.hid h1
  have HT1 := Lib.hid t1
  clear hv1 h1 t1
  go_wp2_with fail
  refine (int_st g F b1 l1 _ (by exact HH1.out)).mono ?_
  rintro e w2 ⟨v2, b2, l2, hv2, hm2, rfl, h2, t2⟩
  have HV2 := Lib.hid hv2
  have hs2 : w.heap.size + 1 ≤ w2.heap.size := by have := HT1.out.size; have := t2.size; simp at *; omega
  have HB2 := Lib.hid (t2.blk (HT1.out.blk HB2.out (by omega)) (by omega))
  have HTx := Lib.hid ((HT0.out.trans HT1.out (fun _ _ e => e)).trans t2 (fun _ _ e => e))
  have HHx := Lib.hid h2
  clear hv2 h2 t2
  have hsg : w2.heap.size ≠ g := by omega
  have hI := (⟨rdAt_touch HHx.out ((Touch.refl (fun _ => False) w2).alloc (.cells #[.int .i64 v1, .int .i64 v2, .int .u64 0, .int .i64 0, .int .i64 0, .int .i64 0, .int .u64 0, .int .i64 0, .int .i64 0, .int .i64 0, .int .i64 0, .slice none 0 0, .int .u64 0, .int .i64 0] 35)) (fun e => e) (fun _ _ e => e), Blk.new w2 35 #[.int .i64 v1, .int .i64 v2, .int .u64 0, .int .i64 0, .int .i64 0, .int .i64 0, .int .u64 0, .int .i64 0, .int .i64 0, .int .i64 0, .int .i64 0, .slice none 0 0, .int .u64 0, .int .i64 0], Touch.refl _ _, hsg, fun e => by have := hF _ e; omega⟩ :
    In (w2.alloc (.cells #[.int .i64 v1, .int .i64 v2, .int .u64 0, .int .i64 0, .int .i64 0, .int .i64 0, .int .u64 0, .int .i64 0, .int .i64 0, .int .i64 0, .int .i64 0, .slice none 0 0, .int .u64 0, .int .i64 0] 35)) (w2.alloc (.cells #[.int .i64 v1, .int .i64 v2, .int .u64 0, .int .i64 0, .int .i64 0, .int .i64 0, .int .u64 0, .int .i64 0, .int .i64 0, .int .i64 0, .int .i64 0, .slice none 0 0, .int .u64 0, .int .i64 0] 35)) g w2.heap.size 35 F l2 b2 #[.int .i64 v1, .int .i64 v2, .int .u64 0, .int .i64 0, .int .i64 0, .int .i64 0, .int .u64 0, .int .i64 0, .int .i64 0, .int .i64 0, .int .i64 0, .slice none 0 0, .int .u64 0, .int .i64 0])
  have HT0 := Lib.hid (HTx.out.alloc (.cells #[.int .i64 v1, .int .i64 v2, .int .u64 0, .int .i64 0, .int .i64 0, .int .i64 0, .int .u64 0, .int .i64 0, .int .i64 0, .int .i64 0, .int .i64 0, .slice none 0 0, .int .u64 0, .int .i64 0] 35))
  have HB2 := Lib.hid (HB2.out.alloc (.cells #[.int .i64 v1, .int .i64 v2, .int .u64 0, .int .i64 0, .int .i64 0, .int .i64 0, .int .u64 0, .int .i64 0, .int .i64 0, .int .i64 0, .int .i64 0, .slice none 0 0, .int .u64 0, .int .i64 0] 35))
  obtain ⟨p, hp⟩ : ∃ p, p = w2.heap.size := ⟨_, rfl⟩
  have hpw : w.heap.size + 1 ≤ p := by omega
  have hpg : p ≠ g := by omega
  have hn1 : ¬ w.heap.size = p := by omega
  have hn2 : ¬ p = w.heap.size := by omega
  obtain ⟨wS, hwS⟩ : ∃ wS, wS = (w2.alloc (.cells #[.int .i64 v1, .int .i64 v2, .int .u64 0, .int .i64 0, .int .i64 0, .int .i64 0, .int .u64 0, .int .i64 0, .int .i64 0, .int .i64 0, .int .i64 0, .slice none 0 0, .int .u64 0, .int .i64 0] 35)) := ⟨_, rfl⟩
  have hwp : p < wS.heap.size := by rw [hwS, hp]; simp
  rw [← hwS] at hI HT0 HB2
  rw [← hp] at hI
  have HI := Lib.hid hI
  have HWS := Lib.hid hwS
  have HP0 := Lib.hid hp
  clear hI hwS hs2 hsg hp HHx HTx
  go_wp2_with fail
  rw [← HWS.out, ← HP0.out]
  clear HWS HP0
  refine (flag_st g F b2 l2 _ (by exact HI.out.rd)).mono ?_
  rintro e w3 ⟨v3, b3, l3, hv3, hm3, rfl, h3, t3⟩
  have HV3 := Lib.hid hv3
  have HI := Lib.hid (HI.out.to h3 t3)
  clear hv3 h3 t3
  have hgS : g < wS.heap.size := by have := HT0.out.size; omega
  have hFS : ∀ k, F k → k < wS.heap.size := fun k hk => by have := hF k hk; have := HT0.out.size; omega
  have HFS := Lib.hid hFS
  clear hFS
  have hv : v3 = 1 ∨ v3 = 0 := by omega
  rcases hv with rfl | rfl
  case' inl => (
    go_wp2_with fail
    refine (ttread_any g F b3 l3 _ (by exact HI.out.rd) (by have := HI.out.t.size; omega) (by intro k hk; have := HFS.out k hk; have := HI.out.t.size; omega)).mono ?_
    rintro e w4 ⟨rfl, h4, t4⟩
    have hto := tkRes_ok (b3, l3)
    obtain ⟨R4, hR4⟩ : ∃ R4, R4 = tkRes (rdTk (b3, l3)) := ⟨_, rfl⟩
    rw [← hR4] at h4 hto ⊢
    have HK := Lib.hid (show rdTk1 (1, b3, l3) = R4 from by rw [hR4]; rfl)
    generalize tkGood (rdTk (b3, l3)) = ok
    clear hR4
    obtain ⟨t, b4, l4⟩ := R4
    simp only [TkN.cells] at h4 hto HK ⊢
    have HTo := Lib.hid hto
    have hI := HI.out.to h4 t4
    have q2 := hI.blk.cell 2; have q3 := hI.blk.cell 3; have q4 := hI.blk.cell 4; have q5 := hI.blk.cell 5; have q6 := hI.blk.cell 6; have q7 := hI.blk.cell 7; have q8 := hI.blk.cell 8; have q9 := hI.blk.cell 9; have q10 := hI.blk.cell 10; simp at q2 q3 q4 q5 q6 q7 q8 q9 q10; have f2 := hI.blk.frozen 2; have f3 := hI.blk.frozen 3; have f4 := hI.blk.frozen 4; have f5 := hI.blk.frozen 5; have f6 := hI.blk.frozen 6; have f7 := hI.blk.frozen 7; have f8 := hI.blk.frozen 8; have f9 := hI.blk.frozen 9; have f10 := hI.blk.frozen 10
    replace hI := show In wS (w4.setCell ⟨p, 2, none⟩ (.int .u64 t.id)) g p 35 F l4 b4 #[.int .i64 v1, .int .i64 v2, .int .u64 t.id, .int .i64 0, .int .i64 0, .int .i64 0, .int .u64 0, .int .i64 0, .int .i64 0, .int .i64 0, .int .i64 0, .slice none 0 0, .int .u64 0, .int .i64 0] from hI.set 2 (.int .u64 t.id)
    replace hI := show In wS ((w4.setCell ⟨p, 2, none⟩ (.int .u64 t.id)).setCell ⟨p, 3, none⟩ (.int .i64 t.contract)) g p 35 F l4 b4 #[.int .i64 v1, .int .i64 v2, .int .u64 t.id, .int .i64 t.contract, .int .i64 0, .int .i64 0, .int .u64 0, .int .i64 0, .int .i64 0, .int .i64 0, .int .i64 0, .slice none 0 0, .int .u64 0, .int .i64 0] from hI.set 3 (.int .i64 t.contract)
    replace hI := show In wS (((w4.setCell ⟨p, 2, none⟩ (.int .u64 t.id)).setCell ⟨p, 3, none⟩ (.int .i64 t.contract)).setCell ⟨p, 4, none⟩ (.int .i64 t.state)) g p 35 F l4 b4 #[.int .i64 v1, .int .i64 v2, .int .u64 t.id, .int .i64 t.contract, .int .i64 t.state, .int .i64 0, .int .u64 0, .int .i64 0, .int .i64 0, .int .i64 0, .int .i64 0, .slice none 0 0, .int .u64 0, .int .i64 0] from hI.set 4 (.int .i64 t.state)
    replace hI := show In wS ((((w4.setCell ⟨p, 2, none⟩ (.int .u64 t.id)).setCell ⟨p, 3, none⟩ (.int .i64 t.contract)).setCell ⟨p, 4, none⟩ (.int .i64 t.state)).setCell ⟨p, 5, none⟩ (.int .i64 t.level)) g p 35 F l4 b4 #[.int .i64 v1, .int .i64 v2, .int .u64 t.id, .int .i64 t.contract, .int .i64 t.state, .int .i64 t.level, .int .u64 0, .int .i64 0, .int .i64 0, .int .i64 0, .int .i64 0, .slice none 0 0, .int .u64 0, .int .i64 0] from hI.set 5 (.int .i64 t.level)
    replace hI := show In wS (((((w4.setCell ⟨p, 2, none⟩ (.int .u64 t.id)).setCell ⟨p, 3, none⟩ (.int .i64 t.contract)).setCell ⟨p, 4, none⟩ (.int .i64 t.state)).setCell ⟨p, 5, none⟩ (.int .i64 t.level)).setCell ⟨p, 6, none⟩ (.int .u64 t.gen)) g p 35 F l4 b4 #[.int .i64 v1, .int .i64 v2, .int .u64 t.id, .int .i64 t.contract, .int .i64 t.state, .int .i64 t.level, .int .u64 t.gen, .int .i64 0, .int .i64 0, .int .i64 0, .int .i64 0, .slice none 0 0, .int .u64 0, .int .i64 0] from hI.set 6 (.int .u64 t.gen)
    replace hI := show In wS ((((((w4.setCell ⟨p, 2, none⟩ (.int .u64 t.id)).setCell ⟨p, 3, none⟩ (.int .i64 t.contract)).setCell ⟨p, 4, none⟩ (.int .i64 t.state)).setCell ⟨p, 5, none⟩ (.int .i64 t.level)).setCell ⟨p, 6, none⟩ (.int .u64 t.gen)).setCell ⟨p, 7, none⟩ (.int .i64 t.from_)) g p 35 F l4 b4 #[.int .i64 v1, .int .i64 v2, .int .u64 t.id, .int .i64 t.contract, .int .i64 t.state, .int .i64 t.level, .int .u64 t.gen, .int .i64 t.from_, .int .i64 0, .int .i64 0, .int .i64 0, .slice none 0 0, .int .u64 0, .int .i64 0] from hI.set 7 (.int .i64 t.from_)
    replace hI := show In wS (((((((w4.setCell ⟨p, 2, none⟩ (.int .u64 t.id)).setCell ⟨p, 3, none⟩ (.int .i64 t.contract)).setCell ⟨p, 4, none⟩ (.int .i64 t.state)).setCell ⟨p, 5, none⟩ (.int .i64 t.level)).setCell ⟨p, 6, none⟩ (.int .u64 t.gen)).setCell ⟨p, 7, none⟩ (.int .i64 t.from_)).setCell ⟨p, 8, none⟩ (.int .i64 t.left)) g p 35 F l4 b4 #[.int .i64 v1, .int .i64 v2, .int .u64 t.id, .int .i64 t.contract, .int .i64 t.state, .int .i64 t.level, .int .u64 t.gen, .int .i64 t.from_, .int .i64 t.left, .int .i64 0, .int .i64 0, .slice none 0 0, .int .u64 0, .int .i64 0] from hI.set 8 (.int .i64 t.left)
    replace hI := show In wS ((((((((w4.setCell ⟨p, 2, none⟩ (.int .u64 t.id)).setCell ⟨p, 3, none⟩ (.int .i64 t.contract)).setCell ⟨p, 4, none⟩ (.int .i64 t.state)).setCell ⟨p, 5, none⟩ (.int .i64 t.level)).setCell ⟨p, 6, none⟩ (.int .u64 t.gen)).setCell ⟨p, 7, none⟩ (.int .i64 t.from_)).setCell ⟨p, 8, none⟩ (.int .i64 t.left)).setCell ⟨p, 9, none⟩ (.int .i64 t.due)) g p 35 F l4 b4 #[.int .i64 v1, .int .i64 v2, .int .u64 t.id, .int .i64 t.contract, .int .i64 t.state, .int .i64 t.level, .int .u64 t.gen, .int .i64 t.from_, .int .i64 t.left, .int .i64 t.due, .int .i64 0, .slice none 0 0, .int .u64 0, .int .i64 0] from hI.set 9 (.int .i64 t.due)
    replace hI := show In wS (((((((((w4.setCell ⟨p, 2, none⟩ (.int .u64 t.id)).setCell ⟨p, 3, none⟩ (.int .i64 t.contract)).setCell ⟨p, 4, none⟩ (.int .i64 t.state)).setCell ⟨p, 5, none⟩ (.int .i64 t.level)).setCell ⟨p, 6, none⟩ (.int .u64 t.gen)).setCell ⟨p, 7, none⟩ (.int .i64 t.from_)).setCell ⟨p, 8, none⟩ (.int .i64 t.left)).setCell ⟨p, 9, none⟩ (.int .i64 t.due)).setCell ⟨p, 10, none⟩ (.int .i64 t.told)) g p 35 F l4 b4 #[.int .i64 v1, .int .i64 v2, .int .u64 t.id, .int .i64 t.contract, .int .i64 t.state, .int .i64 t.level, .int .u64 t.gen, .int .i64 t.from_, .int .i64 t.left, .int .i64 t.due, .int .i64 t.told, .slice none 0 0, .int .u64 0, .int .i64 0] from hI.set 10 (.int .i64 t.told)
    have HI := Lib.hid hI
    clear h4 t4 hto hI
    go_wp2_with fail
    clear q2 f2 q3 f3 q4 f4 q5 f5 q6 f6 q7 f7 q8 f8 q9 f9 q10 f10)
  case' inr => (
    obtain ⟨t, b4, l4, ht, hb, hl⟩ : ∃ t b4 l4, t = tkZero ∧ b4 = b3 ∧ l4 = l3 := ⟨_, _, _, rfl, rfl, rfl⟩
    subst hb hl
    have HK := Lib.hid (show rdTk1 (0, b4, l4) = (t, b4, l4) from by rw [ht]; rfl)
    have HTo := Lib.hid (show t.v.ok from by rw [ht]; simp only [tkZero, TkN.v, TkV.ok]; omega)
    have HI := Lib.hid (show In wS w3 g p 35 F l4 b4 #[.int .i64 v1, .int .i64 v2, .int .u64 t.id, .int .i64 t.contract, .int .i64 t.state, .int .i64 t.level, .int .u64 t.gen, .int .i64 t.from_, .int .i64 t.left, .int .i64 t.due, .int .i64 t.told, .slice none 0 0, .int .u64 0, .int .i64 0] from by rw [ht]; exact HI.out)
    
    clear ht
    go_wp2_with fail)
  all_goals (
    refine (num_st g F b4 64 l4 _ (by exact HI.out.rd)).mono ?_
    rintro e w5 ⟨v5, b5, l5, hv5, hm5, rfl, h5, t5⟩
    have HV5 := Lib.hid hv5
    have HI := Lib.hid (HI.out.to h5 t5)
    clear hv5 h5 t5
    go_wp2_with fail
    go_loopw [24] (fun i wr => ∃ j : Nat, j ≤ v5 ∧ i = .int .u64 j ∧ FiredIn wS wr g p F (b5, l5) j (fun v => #[.int .i64 v1, .int .i64 v2, .int .u64 t.id, .int .i64 t.contract, .int .i64 t.state, .int .i64 t.level, .int .u64 t.gen, .int .i64 t.from_, .int .i64 t.left, .int .i64 t.due, .int .i64 t.told, v, .int .u64 0, .int .i64 0])) (fun i _ => v5 - (intOf i).toNat)
    case atStart => exact ⟨0, by omega, rfl, ⟨[], b5, l5, _, rfl, HI.out, OwnU.nil _ _⟩⟩
    case round =>
      obtain ⟨j, hj, rfl, xs, b6, l6, v6, hx, hI, hU⟩ := hrel
      obtain ⟨A6, n6, c6, rfl⟩ := hU.form3
      have hxl : xs.length ≤ j := by have := rdFired_len j (b5, l5); rw [hx] at this; exact Nat.le_of_eq this
      have HX := Lib.hid hx
      have HI := Lib.hid hI
      have HU := Lib.hid hU
      have q11 := hI.blk.cell 11
      simp at q11
      have hpl := hI.blk.lt
      clear hx hI hU
      by_cases hjk : j < v5
      · go_wp2_with fail
        have HU1 := Lib.hid (show OwnU wS wr.drew xs _ from HU.out.touch (Touch.refl (fun _ => False) wr).drew (fun _ _ e => e))
        have HI1 := Lib.hid (show In wS wr.drew g p 35 F l6 b6 _ from HI.out.far (Touch.refl _ wr).drew)
        obtain ⟨qr, hqr⟩ : ∃ q, (∀ k, q = some k → wS.heap.size ≤ k) ∧ Own wr 29 1 (.slice A6 n6 c6) q xs.length (xs.map U64) := by obtain ⟨q, h1, h2⟩ := HU.out; exact ⟨q, h2, h1⟩
        have HQ := Lib.hid hqr
        clear hqr
        refine wp_region_plan [(0, 2), (1, 0), (1, 1), (2, 3), (2, 4), (2, 5), (0, 6), (3, 7)] (fun q => q = g ∨ wS.heap.size ≤ q) (by kernel_rfl) (by kernel_rfl) (fun c a d v w h => by cases d <;> exact h) ?_
        iterate 1
          first
            | (refine plan_s1 rfl (by rfl) (fun Kc hKc => ?_)
               go_simp
               first
                 | (refine hKc _ ?_)
               clear hKc Kc)
            | (refine plan_s0 rfl (by rfl) ?_; go_frame)
        iterate 2
          first
            | (apply plan_h
               · rfl
               · rfl
               · intro wh hT
                 have hf0 := (hT.cell (p := ⟨p, 11, none⟩) (by simpa using hpl) (by simp only; omega)).trans q11
                 go_simp
                 try rfl
               go_frame)
            | (refine plan_hn rfl (by rfl) ?_; go_frame)
        refine plan_a1 rfl (by rfl) (fun Kc hKc => ?_)
        go_simp
        refine (num_st g F b6 18446744073709551615 l6 _ (by exact HI1.out.rd)).mono ?_
        rintro e w7 ⟨v7, b7, l7, hv7, hm7, rfl, h7, t7⟩
        have HV7 := Lib.hid hv7
        have HI2 := Lib.hid (HI1.out.to h7 t7)
        have HU2 := Lib.hid (HU1.out.touch t7 (by intro k hk e; omega))
        refine hKc _ _ ⟨t7.mono (fun _ _ e => .inl e), ?_⟩
        clear hKc Kc
        clear hv7 h7 t7
        refine plan_a1 rfl (by rfl) (fun Kc hKc => ?_)
        go_simp
        refine hKc _ _ ⟨(Touch.refl _ w7).alloc _, ?_⟩
        clear hKc Kc
        refine plan_a1 rfl (by rfl) (fun Kc hKc => ?_)
        refine own_append_u64 (w0 := wS) _ _ rfl xs v7 w7.heap.size 1 (.slice A6 n6 c6) rfl rfl (by exact HU2.out.touch ((Touch.refl (fun _ => False) w7).alloc _) (fun _ _ e => e)) (by exact Blk.new w7 29 #[U64 v7]) (by omega) ?_ (by have := HI2.out.t.size; simp; omega)
        intro v8 w8 r8 hu8 t8 hr8
        refine hKc _ _ ⟨t8.mono (fun q _ e => .inr (hr8 q e)), ?_⟩
        clear hKc Kc
        obtain ⟨A8, n8, c8, rfl⟩ := hu8.form3
        have hI3 := (HI2.out.far ((Touch.refl (fun _ => False) w7).alloc (.cells #[.int .u64 v7] 29))).aside t8 hr8 hwp hgS HFS.out
        have HI3 := Lib.hid hI3
        have HU3 := Lib.hid hu8
        have p11 := hI3.blk.cell 11; have f11 := hI3.blk.frozen 11
        simp at p11
        clear hI3 hu8 t8 hr8
        iterate 1
          first
            | (refine plan_s1 rfl (by rfl) (fun Kc hKc => ?_)
               go_simp
               first
                 | (refine hKc _ ?_)
               clear hKc Kc)
            | (refine plan_s0 rfl (by rfl) ?_; go_frame)
        refine plan_b1 rfl (by rfl) (fun Kc hKc => ?_)
        go_simp
        refine hKc _ _ ?_
        clear hKc Kc
        refine plan_done ?_
        have HI4 := Lib.hid (show In wS (w8.setCell ⟨p, 11, none⟩ (.slice A8 n8 c8)) g p 35 F l7 b7 #[.int .i64 v1, .int .i64 v2, .int .u64 t.id, .int .i64 t.contract, .int .i64 t.state, .int .i64 t.level, .int .u64 t.gen, .int .i64 t.from_, .int .i64 t.left, .int .i64 t.due, .int .i64 t.told, .slice A8 n8 c8, .int .u64 0, .int .i64 0] from HI3.out.set 11 (.slice A8 n8 c8))
        have HU4 := Lib.hid (HU3.out.touch (Touch.set (S := fun k => k = p) (Touch.refl _ w8) (b := p) (o := 11) (fun _ => rfl) (.slice A8 n8 c8)) (by intro k hk e; omega))
        go_wp2_with fail
        go_roundw
        case rel => exact ⟨j + 1, by omega, by go_num, ⟨xs ++ [v7], b7, l7, _, rdFired_step HX.out HV7.out, HI4.out, HU4.out⟩⟩
        case measure => simp [intOf]; omega
      · obtain rfl : j = v5 := by omega
        go_wp2_with fail
        refine (num_st g F b6 18446744073709551615 l6 _ (by exact HI.out.rd)).mono ?_
        rintro e w7 ⟨v7, b7, l7, hv7, hm7, rfl, h7, t7⟩
        have HV7 := Lib.hid hv7
        have HI := Lib.hid (HI.out.to h7 t7)
        have HU := Lib.hid (HU.out.touch t7 (by intro k hk e; omega))
        clear hv7 h7 t7
        
        
        
        go_wp2_with fail
        
        refine (num_st g F b7 128 l7 _ (by exact HI.out.rd)).mono ?_
        rintro e w8 ⟨v8, b8, l8, hv8, hm8, rfl, h8, t8⟩
        have HV8 := Lib.hid hv8
        have HI := Lib.hid (HI.out.to h8 t8)
        have HU := Lib.hid (HU.out.touch t8 (by intro k hk e; omega))
        clear hv8 h8 t8
        have HIp := HI
        have q0 := HIp.out.blk.cell 0; have q1 := HIp.out.blk.cell 1; have q2 := HIp.out.blk.cell 2; have q3 := HIp.out.blk.cell 3; have q4 := HIp.out.blk.cell 4; have q5 := HIp.out.blk.cell 5; have q6 := HIp.out.blk.cell 6; have q7 := HIp.out.blk.cell 7; have q8 := HIp.out.blk.cell 8; have q9 := HIp.out.blk.cell 9; have q10 := HIp.out.blk.cell 10; have q11 := HIp.out.blk.cell 11; have q12 := HIp.out.blk.cell 12; have q13 := HIp.out.blk.cell 13; simp at q0 q1 q2 q3 q4 q5 q6 q7 q8 q9 q10 q11 q12 q13
        have f12 := HIp.out.blk.frozen 12; have f13 := HIp.out.blk.frozen 13
        have HI := Lib.hid (show In wS (w8.setCell ⟨p, 12, none⟩ (.int .u64 v7)) g p 35 F l8 b8 #[.int .i64 v1, .int .i64 v2, .int .u64 t.id, .int .i64 t.contract, .int .i64 t.state, .int .i64 t.level, .int .u64 t.gen, .int .i64 t.from_, .int .i64 t.left, .int .i64 t.due, .int .i64 t.told, .slice A6 n6 c6, .int .u64 v7, .int .i64 0] from HI.out.set 12 (.int .u64 v7)); have HU := Lib.hid (HU.out.set p 12 hwp (.int .u64 v7))
        have HI := Lib.hid (show In wS ((w8.setCell ⟨p, 12, none⟩ (.int .u64 v7)).setCell ⟨p, 13, none⟩ (.int .i64 v8)) g p 35 F l8 b8 #[.int .i64 v1, .int .i64 v2, .int .u64 t.id, .int .i64 t.contract, .int .i64 t.state, .int .i64 t.level, .int .u64 t.gen, .int .i64 t.from_, .int .i64 t.left, .int .i64 t.due, .int .i64 t.told, .slice A6 n6 c6, .int .u64 v7, .int .i64 v8] from HI.out.set 13 (.int .i64 v8))
        have HU := Lib.hid (HU.out.set p 13 hwp (.int .i64 v8))
        have HN6 := Lib.hid HU.out.len
        have hr : r = (⟨v1, v2, t, xs, v7, v8⟩, b8, l8) := by rw [HRd.out]; simp only [rdRep, HV1.out, HV2.out, HV3.out, HK.out, HV5.out, HX.out, HV7.out, HV8.out]
        subst hr
        have HT := Lib.hid (fun w1 => psound_any v1 v2 t.v A6 n6 c6 v7 v8 w1 HTo.out)
        have HP := Lib.hid (show ∀ b (s : Bool), rpSound v1 v2 t.v n6 v8 = s → rpGood (⟨v1, v2, t, xs, v7, v8⟩, b, l8) = (!b && s) from fun b s h => by rw [rpGood, ← h, ← HN6.out])
        have hzS : w.heap.size < wS.heap.size := by omega
        have hzS' : w.heap.size ≤ wS.heap.size := by omega
        
        obtain ⟨_, A9, c9, hl9, hm9', hb9, hr9⟩ := HI.out.rd
        have HY := Lib.hid hb9
        
        clear hl9 hm9' hr9 hb9
        have HI9 := HI
        have HU9 := HU
        skip
        cases b8
        · skip
          cases hs : rpSound v1 v2 t.v n6 v8
          · have HG := Lib.hid (HP.out false false hs)
            rw [hs] at HT
            simp only [TkN.v] at HT
            clear hs
            go_wp2_with (first
              | (go_at_call 22; go_must (refine (bad_any g A9 l8.length c9 false _ (by exact HY.out)).mono ?_); rintro e wz ⟨rfl, rfl⟩)
              | (go_at_call 28; go_must (refine (HT.out _).mono ?_); rintro e wa ⟨rfl, ta⟩; have HIa := Lib.hid (HI9.out.far ta); clear ta)
              | (go_at_call 39; go_must (refine (fail_st g F l8 false _ (by exact HIa.out.rd)).mono ?_); rintro e wb ⟨rfl, hb, tb⟩; have hIb := HIa.out.to hb tb; have HIb := Lib.hid hIb; have hbx := hIb.t.blk HB2.out (by rintro (e | e) <;> omega); have d0 := hbx.cell 0; have d1 := hbx.cell 1; have d2 := hbx.cell 2; have d3 := hbx.cell 3; have d4 := hbx.cell 4; have d5 := hbx.cell 5; have d6 := hbx.cell 6; have d7 := hbx.cell 7; have d8 := hbx.cell 8; have d9 := hbx.cell 9; have d10 := hbx.cell 10; have d11 := hbx.cell 11; have d12 := hbx.cell 12; have d13 := hbx.cell 13; simp at d0 d1 d2 d3 d4 d5 d6 d7 d8 d9 d10 d11 d12 d13; have f0 := hbx.frozen 0; have f1 := hbx.frozen 1; have f2 := hbx.frozen 2; have f3 := hbx.frozen 3; have f4 := hbx.frozen 4; have f5 := hbx.frozen 5; have f6 := hbx.frozen 6; have f7 := hbx.frozen 7; have f8 := hbx.frozen 8; have f9 := hbx.frozen 9; have f10 := hbx.frozen 10; have f11 := hbx.frozen 11; have f12 := hbx.frozen 12; have f13 := hbx.frozen 13; clear hbx; clear hb tb hIb))
            exact bodyPost_ret (v := .tuple #[.agg #[.int .i64 0, .int .i64 0, .int .u64 0, .int .i64 0, .int .i64 0, .int .i64 0, .int .u64 0, .int .i64 0, .int .i64 0, .int .i64 0, .int .i64 0, .slice none 0 0, .int .u64 0, .int .i64 0], .bool false]) (by simp [results, Try.results38, go_sem, d0, d1, d2, d3, d4, d5, d6, d7, d8, d9, d10, d11, d12, d13]) rfl (RpPost.no HG.out (HIb.out.done HT0.out hg (by omega) (by omega) hF [.int .i64 0, .int .i64 0, .int .u64 0, .int .i64 0, .int .i64 0, .int .i64 0, .int .u64 0, .int .i64 0, .int .i64 0, .int .i64 0, .int .i64 0, .slice none 0 0, .int .u64 0, .int .i64 0]))
          · have HG := Lib.hid (HP.out false true hs)
            rw [hs] at HT
            simp only [TkN.v] at HT
            clear hs
            go_wp2_with (first
              | (go_at_call 22; go_must (refine (bad_any g A9 l8.length c9 false _ (by exact HY.out)).mono ?_); rintro e wz ⟨rfl, rfl⟩)
              | (go_at_call 28; go_must (refine (HT.out _).mono ?_); rintro e wa ⟨rfl, ta⟩; have hIa := HI9.out.far ta; have HIa := Lib.hid hIa; have HUa := Lib.hid (HU9.out.touch ta (fun _ _ e => e)); have q0 := hIa.blk.cell 0; have q1 := hIa.blk.cell 1; have q2 := hIa.blk.cell 2; have q3 := hIa.blk.cell 3; have q4 := hIa.blk.cell 4; have q5 := hIa.blk.cell 5; have q6 := hIa.blk.cell 6; have q7 := hIa.blk.cell 7; have q8 := hIa.blk.cell 8; have q9 := hIa.blk.cell 9; have q10 := hIa.blk.cell 10; have q11 := hIa.blk.cell 11; have q12 := hIa.blk.cell 12; have q13 := hIa.blk.cell 13; simp at q0 q1 q2 q3 q4 q5 q6 q7 q8 q9 q10 q11 q12 q13; have hbx := hIa.t.blk HB2.out (by rintro (e | e) <;> omega); have d0 := hbx.cell 0; have d1 := hbx.cell 1; have d2 := hbx.cell 2; have d3 := hbx.cell 3; have d4 := hbx.cell 4; have d5 := hbx.cell 5; have d6 := hbx.cell 6; have d7 := hbx.cell 7; have d8 := hbx.cell 8; have d9 := hbx.cell 9; have d10 := hbx.cell 10; have d11 := hbx.cell 11; have d12 := hbx.cell 12; have d13 := hbx.cell 13; simp at d0 d1 d2 d3 d4 d5 d6 d7 d8 d9 d10 d11 d12 d13; have f0 := hbx.frozen 0; have f1 := hbx.frozen 1; have f2 := hbx.frozen 2; have f3 := hbx.frozen 3; have f4 := hbx.frozen 4; have f5 := hbx.frozen 5; have f6 := hbx.frozen 6; have f7 := hbx.frozen 7; have f8 := hbx.frozen 8; have f9 := hbx.frozen 9; have f10 := hbx.frozen 10; have f11 := hbx.frozen 11; have f12 := hbx.frozen 12; have f13 := hbx.frozen 13; clear hbx; clear ta hIa))
            exact bodyPost_ret (v := .tuple #[.agg #[.int .i64 v1, .int .i64 v2, .int .u64 t.id, .int .i64 t.contract, .int .i64 t.state, .int .i64 t.level, .int .u64 t.gen, .int .i64 t.from_, .int .i64 t.left, .int .i64 t.due, .int .i64 t.told, .slice A6 n6 c6, .int .u64 v7, .int .i64 v8], .bool true]) (by simp [results, Try.results38, go_sem, d0, d1, d2, d3, d4, d5, d6, d7, d8, d9, d10, d11, d12, d13]) rfl (RpPost.yes HG.out ((HUa.out.sets w.heap.size hzS [.int .i64 v1, .int .i64 v2, .int .u64 t.id, .int .i64 t.contract, .int .i64 t.state, .int .i64 t.level, .int .u64 t.gen, .int .i64 t.from_, .int .i64 t.left, .int .i64 t.due, .int .i64 t.told, .slice A6 n6 c6, .int .u64 v7, .int .i64 v8]).before hzS') (HIa.out.done HT0.out hg (by omega) (by omega) hF [.int .i64 v1, .int .i64 v2, .int .u64 t.id, .int .i64 t.contract, .int .i64 t.state, .int .i64 t.level, .int .u64 t.gen, .int .i64 t.from_, .int .i64 t.left, .int .i64 t.due, .int .i64 t.told, .slice A6 n6 c6, .int .u64 v7, .int .i64 v8]))
        · have HG := Lib.hid (show rpGood (⟨v1, v2, t, xs, v7, v8⟩, true, l8) = false from rfl)
          go_wp2_with (first
              | (go_at_call 22; go_must (refine (bad_any g A9 l8.length c9 true _ (by exact HY.out)).mono ?_); rintro e wz ⟨rfl, rfl⟩)
              | (go_at_call 39; go_must (refine (fail_st g F l8 true _ (by exact HI9.out.rd)).mono ?_); rintro e wb ⟨rfl, hb, tb⟩; have hIb := HI9.out.to hb tb; have HIb := Lib.hid hIb; have hbx := hIb.t.blk HB2.out (by rintro (e | e) <;> omega); have d0 := hbx.cell 0; have d1 := hbx.cell 1; have d2 := hbx.cell 2; have d3 := hbx.cell 3; have d4 := hbx.cell 4; have d5 := hbx.cell 5; have d6 := hbx.cell 6; have d7 := hbx.cell 7; have d8 := hbx.cell 8; have d9 := hbx.cell 9; have d10 := hbx.cell 10; have d11 := hbx.cell 11; have d12 := hbx.cell 12; have d13 := hbx.cell 13; simp at d0 d1 d2 d3 d4 d5 d6 d7 d8 d9 d10 d11 d12 d13; have f0 := hbx.frozen 0; have f1 := hbx.frozen 1; have f2 := hbx.frozen 2; have f3 := hbx.frozen 3; have f4 := hbx.frozen 4; have f5 := hbx.frozen 5; have f6 := hbx.frozen 6; have f7 := hbx.frozen 7; have f8 := hbx.frozen 8; have f9 := hbx.frozen 9; have f10 := hbx.frozen 10; have f11 := hbx.frozen 11; have f12 := hbx.frozen 12; have f13 := hbx.frozen 13; clear hbx; clear hb tb hIb))
          exact bodyPost_ret (v := .tuple #[.agg #[.int .i64 0, .int .i64 0, .int .u64 0, .int .i64 0, .int .i64 0, .int .i64 0, .int .u64 0, .int .i64 0, .int .i64 0, .int .i64 0, .int .i64 0, .slice none 0 0, .int .u64 0, .int .i64 0], .bool false]) (by simp [results, Try.results38, go_sem, d0, d1, d2, d3, d4, d5, d6, d7, d8, d9, d10, d11, d12, d13]) rfl (RpPost.no HG.out (HIb.out.done HT0.out hg (by omega) (by omega) hF [.int .i64 0, .int .i64 0, .int .u64 0, .int .i64 0, .int .i64 0, .int .i64 0, .int .u64 0, .int .i64 0, .int .i64 0, .int .i64 0, .int .i64 0, .slice none 0 0, .int .u64 0, .int .i64 0]))
  )
end Go.Proofs.Ytmgmjehebbggaaa
