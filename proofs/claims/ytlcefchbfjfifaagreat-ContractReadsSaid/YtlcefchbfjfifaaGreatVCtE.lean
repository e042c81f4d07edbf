/- contract.Read. (written by genctd.py) -/
import Derived.Test.YtlcefchbfjfifaaGreatVCtD
namespace Go.Proofs.YtlcefchbfjfifaaGreat
open Go.RowKit Cal
set_option maxHeartbeats 4000000
set_option maxRecDepth 100000
set_option linter.unusedVariables false
attribute [local irreducible] wpPlan

/-- The closure that reads a number as an int64. -/
def KNumSt (m : Nat) (l : List UInt8) (bad : Bool) (w : World) (g : Nat) (F : Nat → Prop) (e : Ending) (w' : World) : Prop :=
  ∃ v b l', rd3 m (bad, l) = (v, b, l') ∧ v ≤ m ∧ e = .returned (.int .i64 (v : Int)) ∧ RdAt w' g F l' b ∧ Touch (fun k => k = g) w w'
theorem knum_st (g : Nat) (F : Nat → Prop) (bad : Bool) (m : Nat) (l : List UInt8) (q : Nat) (w : World) (h : RdAt w g F l bad) (hq : Blk w q 38 #[.pointer (some ⟨g, 0, none⟩)]) (hm : m ≤ 4611686018427387904) :
    Calls Tryz.prog 42 #[.int .u64 m, .pointer (some ⟨q, 0, none⟩)] w (KNumSt m l bad w g F) := by
  have HN := Lib.hid (num_st g F bad m l w h)
  have q0 := hq.cell 0
  simp at q0
  clear h hq
  go_enter Tryz.func42, Tryz.ntmps42
  go_wp2_with (go_at_call 43; go_must (refine HN.out.mono ?_); rintro e w1 ⟨v, b, l', hv, hm', rfl, hr, t⟩; have HV := Lib.hid hv; have HR := Lib.hid hr; have HT := Lib.hid t; clear hv hr t; have hw : IntKind.i64.wrap ((v : Nat) : Int) = (v : Int) := IntWalk.i64_in _ (by omega))
  go_ret
  exact ⟨v, b, l', HV.out, hm', rfl, HR.out, HT.out⟩
theorem badk_st (g : Nat) (F : Nat → Prop) (l : List UInt8) (bad : Bool) (w : World) (h : RdAt w g F l bad) :
    Calls Tryz.prog 21 #[.pointer (some ⟨g, 0, none⟩)] w fun e w' => e = .returned (.bool bad) ∧ w = w' := by
  obtain ⟨_, A, cap, _, _, hb, _⟩ := h
  exact bad_any g A l.length cap bad w hb
/-- What reading a contract answers. -/
def KpPost (r : Co × Bool × List UInt8) (w : World) (g : Nat) (F : Nat → Prop) (e : Ending) (w' : World) : Prop :=
  ∃ A c, e = .returned (.tuple #[.agg #[.int .i64 (conRes r).1.cal, .slice A (conRes r).1.lv.length c, .int .i64 (conRes r).1.rt, .int .i64 (conRes r).1.bk], .bool (conGood r)]) ∧ SpR w' (fun k => w.heap.size ≤ k) A (conRes r).1.lv.length (conRes r).1.lv ∧ RdAt w' g F (conRes r).2.2 (conRes r).2.1 ∧ Touch (fun k => k = g) w w'
theorem KpPost.no {r : Co × Bool × List UInt8} {w w' : World} {g : Nat} {F : Nat → Prop} (h : conGood r = false) (hr : RdAt w' g F [] true ∧ Touch (fun k => k = g) w w') : KpPost r w g F (.returned (.tuple #[.agg #[.int .i64 0, .slice none 0 0, .int .i64 0, .int .i64 0], .bool false])) w' := by
  have e : conRes r = (conZ, true, []) := by rw [conRes, h]; rfl
  rw [KpPost, e, h]
  exact ⟨none, 0, rfl, SpR.nil _ _ _, hr.1, hr.2⟩
theorem KpPost.yes {r : Co × Bool × List UInt8} {w w' : World} {g : Nat} {F : Nat → Prop} {A : Option Addr} {n c : Nat} (h : conGood r = true) (hn : n = r.1.lv.length) (ho : SpR w' (fun k => w.heap.size ≤ k) A r.1.lv.length r.1.lv) (hr : RdAt w' g F r.2.2 r.2.1 ∧ Touch (fun k => k = g) w w') : KpPost r w g F (.returned (.tuple #[.agg #[.int .i64 r.1.cal, .slice A n c, .int .i64 r.1.rt, .int .i64 r.1.bk], .bool true])) w' := by
  have e : conRes r = r := by rw [conRes, h]; rfl
  subst hn
  rw [KpPost, e, h]
  exact ⟨A, c, rfl, ho, hr.1, hr.2⟩
def LvIn (wS w : World) (g p : Nat) (F : Nat → Prop) (s : Bool × List UInt8) (j : Nat) (cs : Value → Array Value) : Prop :=
  ∃ xs b l v, rdLv j s = (xs, b, l) ∧ In wS w g p 24 F l b (cs v) ∧ OwnL wS w xs v
theorem kread_any (g : Nat) (F : Nat → Prop) (bad : Bool) (l : List UInt8) (w : World) (h : RdAt w g F l bad) (hF : ∀ k, F k → k < w.heap.size) (hg : g < w.heap.size) :
    Calls Tryz.prog 15 #[.pointer (some ⟨g, 0, none⟩)] w (KpPost (rdCon (bad, l)) w g F) := by
  obtain ⟨r, hr⟩ : ∃ r, r = rdCon (bad, l) := ⟨_, rfl⟩
  rw [← hr]
  have HRd := Lib.hid hr
  clear hr
  have HT0a := Lib.hid (((Touch.refl (fun _ => False) w).alloc (.cells #[.pointer (some ⟨g, 0, none⟩)] 38)).alloc (.cells #[.int .i64 0, .slice none 0 0, .int .i64 0, .int .i64 0] 24) : Touch (fun _ => False) w ((w.alloc (.cells #[.pointer (some ⟨g, 0, none⟩)] 38)).alloc (.cells #[.int .i64 0, .slice none 0 0, .int .i64 0, .int .i64 0] 24)))
  have HB2 := Lib.hid (show Blk ((w.alloc (.cells #[.pointer (some ⟨g, 0, none⟩)] 38)).alloc (.cells #[.int .i64 0, .slice none 0 0, .int .i64 0, .int .i64 0] 24)) (w.heap.size + 1) 24 #[.int .i64 0, .slice none 0 0, .int .i64 0, .int .i64 0] by simpa using Blk.new (w.alloc (.cells #[.pointer (some ⟨g, 0, none⟩)] 38)) 24 #[.int .i64 0, .slice none 0 0, .int .i64 0, .int .i64 0])
  have HQ := Lib.hid (show Blk ((w.alloc (.cells #[.pointer (some ⟨g, 0, none⟩)] 38)).alloc (.cells #[.int .i64 0, .slice none 0 0, .int .i64 0, .int .i64 0] 24)) w.heap.size 38 #[.pointer (some ⟨g, 0, none⟩)] from (Blk.new w _ _).alloc _)
  have HH0 := Lib.hid (rdAt_touch h HT0a.out (fun e => e) (fun _ _ e => e))
  have HT0 := Lib.hid (HT0a.out.mono (S' := fun k => k = g) (fun _ _ e => e.elim))
  have hsz0 : w.heap.size + 2 ≤ ((w.alloc (.cells #[.pointer (some ⟨g, 0, none⟩)] 38)).alloc (.cells #[.int .i64 0, .slice none 0 0, .int .i64 0, .int .i64 0] 24)).heap.size := by simp
  clear h HT0a
  go_enter Tryz.func15, Tryz.ntmps15
  go_wp2_with fail
  refine (knum_st g F bad 7 l w.heap.size _ (by exact HH0.out) (by exact HQ.out) (by omega)).mono ?_
  rintro e w1 ⟨v1, b1, l1, hv1, hm1, rfl, h1, t1⟩
  have HV1 := Lib.hid hv1
  have hs2 : w.heap.size + 2 ≤ w1.heap.size := by have := t1.size; omega
  have HB2 := Lib.hid (t1.blk HB2.out (by omega))
  have HQ := Lib.hid (t1.blk HQ.out (by omega))
  have HTx := Lib.hid (HT0.out.trans t1 (fun _ _ e => e))
  have HHx := Lib.hid h1
  clear hv1 h1 t1 hsz0
  have hsg : w1.heap.size ≠ g := by omega
  have hI := (⟨rdAt_touch HHx.out ((Touch.refl (fun _ => False) w1).alloc (.cells #[.int .i64 (v1 : Int), .slice none 0 0, .int .i64 0, .int .i64 0] 24)) (fun e => e) (fun _ _ e => e), Blk.new w1 24 #[.int .i64 (v1 : Int), .slice none 0 0, .int .i64 0, .int .i64 0], Touch.refl _ _, hsg, fun e => by have := hF _ e; omega⟩ :
    In (w1.alloc (.cells #[.int .i64 (v1 : Int), .slice none 0 0, .int .i64 0, .int .i64 0] 24)) (w1.alloc (.cells #[.int .i64 (v1 : Int), .slice none 0 0, .int .i64 0, .int .i64 0] 24)) g w1.heap.size 24 F l1 b1 #[.int .i64 (v1 : Int), .slice none 0 0, .int .i64 0, .int .i64 0])
  have HT0 := Lib.hid (HTx.out.alloc (.cells #[.int .i64 (v1 : Int), .slice none 0 0, .int .i64 0, .int .i64 0] 24))
  have HB2 := Lib.hid (HB2.out.alloc (.cells #[.int .i64 (v1 : Int), .slice none 0 0, .int .i64 0, .int .i64 0] 24))
  have HQ := Lib.hid (HQ.out.alloc (.cells #[.int .i64 (v1 : Int), .slice none 0 0, .int .i64 0, .int .i64 0] 24))
  obtain ⟨p, hp⟩ : ∃ p, p = w1.heap.size := ⟨_, rfl⟩
  have hpw : w.heap.size + 2 ≤ p := by omega
  have hpg : p ≠ g := by omega
  have hn1 : ¬ (w.heap.size + 1) = p := by omega
  have hn2 : ¬ p = (w.heap.size + 1) := by omega
  obtain ⟨wS, hwS⟩ : ∃ wS, wS = (w1.alloc (.cells #[.int .i64 (v1 : Int), .slice none 0 0, .int .i64 0, .int .i64 0] 24)) := ⟨_, rfl⟩
  have hwp : p < wS.heap.size := by rw [hwS, hp]; simp
  have hgS : g < wS.heap.size := by omega
  have HFS := Lib.hid (show ∀ k, F k → k < wS.heap.size from fun k hk => by have := hF k hk; omega)
  rw [← hwS] at hI HT0 HB2 HQ
  rw [← hp] at hI
  have HI := Lib.hid hI
  have HQS := HQ
  have HWS := Lib.hid hwS
  have HP0 := Lib.hid hp
  clear hI hwS hs2 hsg hp HHx HTx
  go_wp2_with fail
  rw [← HWS.out, ← HP0.out]
  clear HWS HP0
  refine (knum_st g F b1 6 l1 w.heap.size _ (by exact HI.out.rd) (by exact HQ.out) (by omega)).mono ?_
  rintro e w2 ⟨v2, b2, l2, hv2, hm2, rfl, h2, t2⟩
  have HV2 := Lib.hid hv2
  have HI := Lib.hid (HI.out.to h2 t2)
  clear hv2 h2 t2
  go_wp2_with fail
  go_loopw [13] (fun i wr => ∃ j : Nat, j ≤ v2 ∧ i = .int .i64 j ∧ LvIn wS wr g p F (b2, l2) j (fun v => #[.int .i64 (v1 : Int), v, .int .i64 0, .int .i64 0])) (fun i _ => v2 - (intOf i).toNat)
  case atStart => exact ⟨0, by omega, rfl, ⟨[], b2, l2, _, rfl, HI.out, OwnL.nil _ _⟩⟩
  case round =>
    obtain ⟨j, hj, rfl, xs, b3, l3, v3, hx, hI, hU⟩ := hrel
    obtain ⟨A3, n3, c3, rfl⟩ := hU.form3
    have hxl : xs.length ≤ j := by have := rdLv_len j (b2, l2); rw [hx] at this; exact Nat.le_of_eq this
    have HX := Lib.hid hx
    have HI := Lib.hid hI
    have HU := Lib.hid hU
    have hpl := hI.blk.lt
    clear hx hI hU
    have HQ := Lib.hid (HI.out.t.blk HQS.out (by rintro (e | e) <;> omega))
    by_cases hjk : j < v2
    · go_wp2_with fail
      refine (knum_st g F b3 1125899906842624 l3 w.heap.size _ (by exact HI.out.rd) (by exact HQ.out) (by omega)).mono ?_
      rintro e w4 ⟨v4, b4, l4, hv4, hm4, rfl, h4, t4⟩
      have HV4 := Lib.hid hv4
      have HI := Lib.hid (HI.out.to h4 t4)
      have HU := Lib.hid (HU.out.touch t4 (by intro k hk e; omega))
      have HQ := Lib.hid (t4.blk HQ.out (by omega))
      have q1 := HI.out.blk.cell 1
      simp at q1
      have hpl4 := HI.out.blk.lt
      clear hv4 h4 t4
      go_wp2_with fail
      have HU1 := Lib.hid (show OwnL wS w4.drew xs _ from HU.out.touch (Touch.refl (fun _ => False) w4).drew (fun _ _ e => e))
      have HI1 := Lib.hid (show In wS w4.drew g p 24 F l4 b4 _ from HI.out.far (Touch.refl _ w4).drew)
      have HQ := Lib.hid ((Touch.refl (fun _ => False) w4).drew.blk HQ.out (fun e => e))
      refine wp_region_plan [(0, 3), (1, 0), (1, 1), (1, 2), (2, 4), (0, 5), (2, 6), (2, 7), (0, 8), (3, 9)] (fun q => q = g ∨ wS.heap.size ≤ q) (by kernel_rfl) (by kernel_rfl) (fun c a d v w h => by cases d <;> exact h) ?_
      iterate 1
        refine plan_s1 rfl (by rfl) (fun Kc hKc => ?_)
        go_simp
        first
          | (refine hKc _ ?_)
        clear hKc Kc
      iterate 3
        apply plan_h
        · rfl
        · rfl
        · intro wh hT
          have hf0 := (hT.cell (p := ⟨p, 1, none⟩) (by simpa using hpl4) (by simp only; omega)).trans q1
          go_simp
          try rfl
        go_frame
      refine plan_a1 rfl (by rfl) (fun Kc hKc => ?_)
      go_simp
      refine (knum_st g F b4 7 l4 w.heap.size _ (by exact HI1.out.rd) (by exact HQ.out) (by omega)).mono ?_
      rintro e w7 ⟨v7, b7, l7, hv7, hm7, rfl, h7, t7⟩
      have HV7 := Lib.hid hv7
      have HI2 := Lib.hid (HI1.out.to h7 t7)
      have HU2 := Lib.hid (HU1.out.touch t7 (by intro k hk e; omega))
      refine hKc _ _ ⟨t7.mono (fun _ _ e => .inl e), ?_⟩
      clear hKc Kc
      clear hv7 h7 t7
      have hc7 : IntKind.i64.wrap ((v7 : Nat) : Int) = (v7 : Int) := IntWalk.i64_in _ (by omega)
      iterate 1
        refine plan_s1 rfl (by rfl) (fun Kc hKc => ?_)
        go_simp
        first
          | (refine hKc _ ?_)
        clear hKc Kc
      refine plan_a1 rfl (by rfl) (fun Kc hKc => ?_)
      go_simp
      refine hKc _ _ ⟨(Touch.refl _ w7).alloc _, ?_⟩
      clear hKc Kc
      refine plan_a1 rfl (by rfl) (fun Kc hKc => ?_)
      refine own_append_lv (w0 := wS) _ _ rfl xs v4 v7 w7.heap.size 1 (.slice A3 n3 c3) rfl rfl (by exact HU2.out.touch ((Touch.refl (fun _ => False) w7).alloc _) (fun _ _ e => e)) (by exact Blk.new w7 68 #[.int .i64 (v4 : Int), .int .i64 (v7 : Int)]) (by omega) ?_ (by have := HI2.out.t.size; simp; omega)
      intro v8 w8 r8 hu8 t8 hr8
      refine hKc _ _ ⟨t8.mono (fun q _ e => .inr (hr8 q e)), ?_⟩
      clear hKc Kc
      obtain ⟨A8, n8, c8, rfl⟩ := hu8.form3
      have hI3 := (HI2.out.far ((Touch.refl (fun _ => False) w7).alloc (.cells #[.int .i64 (v4 : Int), .int .i64 (v7 : Int)] 68))).aside t8 hr8 hwp hgS HFS.out
      have HI3 := Lib.hid hI3
      have HU3 := Lib.hid hu8
      have p1 := hI3.blk.cell 1; have f1 := hI3.blk.frozen 1
      simp at p1
      clear hI3 hu8 t8 hr8
      iterate 1
        refine plan_s1 rfl (by rfl) (fun Kc hKc => ?_)
        go_simp
        first
          | (refine hKc _ ?_)
        clear hKc Kc
      refine plan_b1 rfl (by rfl) (fun Kc hKc => ?_)
      go_simp
      refine hKc _ _ ?_
      clear hKc Kc
      refine plan_done ?_
      have HI4 := Lib.hid (show In wS (w8.setCell ⟨p, 1, none⟩ (.slice A8 n8 c8)) g p 24 F l7 b7 #[.int .i64 (v1 : Int), .slice A8 n8 c8, .int .i64 0, .int .i64 0] from HI3.out.set 1 (.slice A8 n8 c8))
      have HU4 := Lib.hid (HU3.out.touch (Touch.set (S := fun k => k = p) (Touch.refl _ w8) (b := p) (o := 1) (fun _ => rfl) (.slice A8 n8 c8)) (by intro k hk e; omega))
      go_wp2_with fail
      go_roundw
      case rel => exact ⟨j + 1, by omega, by go_num, ⟨xs ++ [⟨v4, v7⟩], b7, l7, _, rdLv_step HX.out HV4.out HV7.out, HI4.out, HU4.out⟩⟩
      case measure => simp [intOf]; omega
    · obtain rfl : j = v2 := by omega
      go_wp2_with fail
      refine (knum_st g F b3 8 l3 w.heap.size _ (by exact HI.out.rd) (by exact HQ.out) (by omega)).mono ?_
      rintro e w7 ⟨v7, b7, l7, hv7, hm7, rfl, h7, t7⟩
      have HV7 := Lib.hid hv7
      have HI := Lib.hid (HI.out.to h7 t7)
      have HU := Lib.hid (HU.out.touch t7 (by intro k hk e; omega))
      clear hv7 h7 t7
      have HQ := Lib.hid (HI.out.t.blk HQS.out (by rintro (e | e) <;> omega))
      go_wp2_with fail
      refine (knum_st g F b7 1048576 l7 w.heap.size _ (by exact HI.out.rd) (by exact HQ.out) (by omega)).mono ?_
      rintro e w8 ⟨v8, b8, l8, hv8, hm8, rfl, h8, t8⟩
      have HV8 := Lib.hid hv8
      have HI := Lib.hid (HI.out.to h8 t8)
      have HU := Lib.hid (HU.out.touch t8 (by intro k hk e; omega))
      clear hv8 h8 t8
      have HIp := HI
      have q0 := HIp.out.blk.cell 0; have q1 := HIp.out.blk.cell 1; have q2 := HIp.out.blk.cell 2; have q3 := HIp.out.blk.cell 3; simp at q0 q1 q2 q3
      have f2 := HIp.out.blk.frozen 2; have f3 := HIp.out.blk.frozen 3
      have HI := Lib.hid (show In wS ((w8.setCell ⟨p, 2, none⟩ (.int .i64 (v7 : Int))).setCell ⟨p, 3, none⟩ (.int .i64 (v8 : Int))) g p 24 F l8 b8 #[.int .i64 (v1 : Int), .slice A3 n3 c3, .int .i64 (v7 : Int), .int .i64 (v8 : Int)] from (HI.out.set 2 (.int .i64 (v7 : Int))).set 3 (.int .i64 (v8 : Int)))
      have HU := Lib.hid ((HU.out.set p 2 hwp (.int .i64 (v7 : Int))).set p 3 hwp (.int .i64 (v8 : Int)))
      have hq0 := HIp.out.t.blk HQS.out (by rintro (e | e) <;> omega)
      have y0 := hq0.cell 0
      simp at y0
      have hpq : ¬ p = w.heap.size := by omega
      have hpq2 : ¬ w.heap.size = p := by omega
      clear hq0
      obtain ⟨hn3, hs3⟩ := HU.out.spR
      subst hn3
      have HS3 := Lib.hid hs3
      have hr : r = (⟨v1, xs, v7, v8⟩, b8, l8) := by rw [HRd.out]; simp only [rdCon, HV1.out, HV2.out, HX.out, HV7.out, HV8.out]
      subst hr
      have HGc := Lib.hid (fun w1 hr => kcheck_any (fun k => wS.heap.size ≤ k) A3 c3 ⟨v1, xs, v7, v8⟩ w1 hr)
      simp only at HGc
      have HP := Lib.hid (show ∀ b, conGood (⟨v1, xs, v7, v8⟩, b, l8) = (!b && goodB ⟨v1, xs, v7, v8⟩) from fun b => rfl)
      have HGE := Lib.hid (show goodE ⟨v1, xs, v7, v8⟩ = if goodB ⟨v1, xs, v7, v8⟩ = true then 0 else 2 from rfl)
      generalize goodB ⟨v1, xs, v7, v8⟩ = gb at *
      generalize goodE ⟨v1, xs, v7, v8⟩ = ge at *
      have hzS : (w.heap.size + 1) < wS.heap.size := by omega
      have hzS' : w.heap.size ≤ wS.heap.size := by omega
      have HI9 := HI
      clear hs3 HI HU
      cases b8
      · cases gb
        · have HG := Lib.hid (HP.out false)
          simp only [Bool.not_false, Bool.and_false] at HG
          obtain rfl : ge = 2 := HGE.out
          go_wp2_with (first
              | (go_at_call 21; go_must (refine (badk_st g F l8 _ _ (by exact HI9.out.rd)).mono ?_); rintro e wz ⟨rfl, rfl⟩)
              | (go_at_call 9; go_must (refine (HGc.out _ (by exact HS3.out)).mono ?_); rintro e wa ⟨rfl, ta⟩; have hIa := HI9.out.far ta; have HIa := Lib.hid hIa; have HSa := Lib.hid (HS3.out.touch ta (fun _ _ e => e)); clear q0 q1 q2 q3; have q0 := hIa.blk.cell 0; have q1 := hIa.blk.cell 1; have q2 := hIa.blk.cell 2; have q3 := hIa.blk.cell 3; simp at q0 q1 q2 q3; have hbx := hIa.t.blk HB2.out (by rintro (e | e) <;> omega); have d0 := hbx.cell 0; have d1 := hbx.cell 1; have d2 := hbx.cell 2; have d3 := hbx.cell 3; simp at d0 d1 d2 d3; have z0 := hbx.frozen 0; have z1 := hbx.frozen 1; have z2 := hbx.frozen 2; have z3 := hbx.frozen 3; clear hbx; have hq1 := hIa.t.blk HQS.out (by rintro (e | e) <;> omega); clear y0; have y0 := hq1.cell 0; simp at y0; clear hq1; clear ta hIa)
              | (go_at_call 44; go_must (refine (fail_st g F l8 false _ (by exact HIa.out.rd)).mono ?_); rintro e wb ⟨rfl, hb, tb⟩; have hIb := HIa.out.to hb tb; have HIb := Lib.hid hIb; have hbx := hIb.t.blk HB2.out (by rintro (e | e) <;> omega); clear d0 d1 d2 d3 z0 z1 z2 z3; have d0 := hbx.cell 0; have d1 := hbx.cell 1; have d2 := hbx.cell 2; have d3 := hbx.cell 3; simp at d0 d1 d2 d3; have z0 := hbx.frozen 0; have z1 := hbx.frozen 1; have z2 := hbx.frozen 2; have z3 := hbx.frozen 3; clear hbx; clear hb tb hIb))
          exact bodyPost_ret (v := .tuple #[.agg #[.int .i64 0, .slice none 0 0, .int .i64 0, .int .i64 0], .bool false]) (by simp [results, Tryz.results15, go_sem, d0, d1, d2, d3]) rfl (KpPost.no HG.out (HIb.out.done HT0.out hg (by omega) (by omega) hF [.int .i64 0, .slice none 0 0, .int .i64 0, .int .i64 0]))
        · have HG := Lib.hid (HP.out false)
          simp only [Bool.not_false, Bool.and_true] at HG
          obtain rfl : ge = 0 := HGE.out
          go_wp2_with (first
              | (go_at_call 21; go_must (refine (badk_st g F l8 _ _ (by exact HI9.out.rd)).mono ?_); rintro e wz ⟨rfl, rfl⟩)
              | (go_at_call 9; go_must (refine (HGc.out _ (by exact HS3.out)).mono ?_); rintro e wa ⟨rfl, ta⟩; have hIa := HI9.out.far ta; have HIa := Lib.hid hIa; have HSa := Lib.hid (HS3.out.touch ta (fun _ _ e => e)); clear q0 q1 q2 q3; have q0 := hIa.blk.cell 0; have q1 := hIa.blk.cell 1; have q2 := hIa.blk.cell 2; have q3 := hIa.blk.cell 3; simp at q0 q1 q2 q3; have hbx := hIa.t.blk HB2.out (by rintro (e | e) <;> omega); have d0 := hbx.cell 0; have d1 := hbx.cell 1; have d2 := hbx.cell 2; have d3 := hbx.cell 3; simp at d0 d1 d2 d3; have z0 := hbx.frozen 0; have z1 := hbx.frozen 1; have z2 := hbx.frozen 2; have z3 := hbx.frozen 3; clear hbx; have hq1 := hIa.t.blk HQS.out (by rintro (e | e) <;> omega); clear y0; have y0 := hq1.cell 0; simp at y0; clear hq1; clear ta hIa))
          exact bodyPost_ret (v := .tuple #[.agg #[.int .i64 (v1 : Int), .slice A3 xs.length c3, .int .i64 (v7 : Int), .int .i64 (v8 : Int)], .bool true]) (by simp [results, Tryz.results15, go_sem, d0, d1, d2, d3]) rfl (KpPost.yes HG.out rfl ((HSa.out.touch (Touch.setCells (S := fun k => k = (w.heap.size + 1)) (g := (w.heap.size + 1)) [.int .i64 (v1 : Int), .slice A3 xs.length c3, .int .i64 (v7 : Int), .int .i64 (v8 : Int)] 0 _ (Touch.refl _ _) (fun _ => rfl)) (by intro k hk e; omega)).mono (fun k hk => by omega)) (HIa.out.done HT0.out hg (by omega) (by omega) hF [.int .i64 (v1 : Int), .slice A3 xs.length c3, .int .i64 (v7 : Int), .int .i64 (v8 : Int)]))
      · have HG := Lib.hid (HP.out true)
        simp only [Bool.not_true, Bool.false_and] at HG
        go_wp2_with (first
              | (go_at_call 21; go_must (refine (badk_st g F l8 _ _ (by exact HI9.out.rd)).mono ?_); rintro e wz ⟨rfl, rfl⟩)
              | (go_at_call 44; go_must (refine (fail_st g F l8 true _ (by exact HI9.out.rd)).mono ?_); rintro e wb ⟨rfl, hb, tb⟩; have hIb := HI9.out.to hb tb; have HIb := Lib.hid hIb; have hbx := hIb.t.blk HB2.out (by rintro (e | e) <;> omega); have d0 := hbx.cell 0; have d1 := hbx.cell 1; have d2 := hbx.cell 2; have d3 := hbx.cell 3; simp at d0 d1 d2 d3; have z0 := hbx.frozen 0; have z1 := hbx.frozen 1; have z2 := hbx.frozen 2; have z3 := hbx.frozen 3; clear hbx; clear hb tb hIb))
        exact bodyPost_ret (v := .tuple #[.agg #[.int .i64 0, .slice none 0 0, .int .i64 0, .int .i64 0], .bool false]) (by simp [results, Tryz.results15, go_sem, d0, d1, d2, d3]) rfl (KpPost.no HG.out (HIb.out.done HT0.out hg (by omega) (by omega) hF [.int .i64 0, .slice none 0 0, .int .i64 0, .int .i64 0]))
end Go.Proofs.YtlcefchbfjfifaaGreat
