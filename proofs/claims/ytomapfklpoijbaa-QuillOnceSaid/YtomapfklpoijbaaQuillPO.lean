/- The walk of QuillOnce: bytes that are read as a number are just its encoding. -/
import Derived.Test.YtomapfklpoijbaaQuillPB
namespace Go.Proofs.Ytomapfklpoijbaa
open Go.RowKit Go.ChangeShapes Go.WideShapes Go.Deep
set_option maxHeartbeats 4000000
set_option maxRecDepth 100000
set_option linter.unusedVariables false
attribute [local irreducible] wpPlan

theorem once_lives (A0 : Option Addr) (n0 c0 : Nat) (w : World) (h : 3000 < n0) :
    Calls Try.prog 8 #[.slice A0 n0 c0] w fun e w' => e = .returned (.bool true) ∧ Below w.heap.size w w' := by
  have HV := Lib.hid lives01_any
  go_enter Try.func8, Try.ntmps8
  go_wp2_with (go_at_call 35; go_must (refine (HV.out _).mono ?_); rintro e w2 ⟨rfl, t2⟩; have HT2 := Lib.hid t2; clear t2)
  go_ret
  exact ⟨rfl, HT2.out.below⟩

/-- A reader that is not bad has read a front of the bytes. -/
theorem rdNum_cut (most : Nat) (m : Bool) (l : List UInt8) : (rdNum most m false l).left.length ≤ l.length := rdNum_left_le most m false l

theorem walk_QuillOnce {w : World} (A0 : Option Addr) (n0 c0 : Nat) (l0 : List UInt8) (e0 : l0.length = n0) (g0 : A0 = none → c0 = 0) (u0 : n0 ≤ c0) (m0 : c0 ≤ maxLen) (s0 : Rd w (fun k => k < w.heap.size) A0 n0 (l0.map B8)) :
    Calls Try.prog 8 #[.slice A0 n0 c0] w fun e w' => e = .returned (.bool true) ∧ Below w.heap.size w w' := by
  by_cases hbig : 3000 < n0
  · exact once_lives A0 n0 c0 w hbig
  subst e0
  have HV := Lib.hid lives01_any
  have HS0 := Lib.hid s0
  have hb0 : l0.length ≤ 3000 := by omega
  have hcm : c0 ≤ 9223372036854775807 := by unfold maxLen at m0; omega
  -- the two readers
  have HT0 := Lib.hid (((Touch.refl (fun _ => False) w).alloc (.cells #[.slice A0 l0.length c0, .bool false] 110)).alloc (.cells #[.slice A0 l0.length c0, .bool false] 110))
  have r0 := s0.touch HT0.out (fun _ _ e => e)
  have HR1 := Lib.hid (show RdAt ((w.alloc (.cells #[.slice A0 l0.length c0, .bool false] 110)).alloc (.cells #[.slice A0 l0.length c0, .bool false] 110)) w.heap.size (fun k => k < w.heap.size) l0 false from
    ⟨by omega, A0, c0, u0, m0, (Blk.new w 110 _).alloc _, r0⟩)
  have HR2 := Lib.hid (show RdAt ((w.alloc (.cells #[.slice A0 l0.length c0, .bool false] 110)).alloc (.cells #[.slice A0 l0.length c0, .bool false] 110)) (w.heap.size + 1) (fun k => k < w.heap.size) l0 false from
    ⟨by omega, A0, c0, u0, m0, by have := Blk.new (w.alloc (.cells #[.slice A0 l0.length c0, .bool false] 110)) 110 #[.slice A0 l0.length c0, .bool false]; simpa using this, r0⟩)
  have HW1 := Lib.hid (read_written 18446744073709551615 l0)
  have HW2 := Lib.hid (readI_written l0)
  have hle := rdNum_le 18446744073709551615 false false l0
  have hle2 := rdNum_le 9223372036854775807 true false l0
  have hl1 := rdNum_left_le 18446744073709551615 false false l0
  have hl2 := rdNum_left_le 9223372036854775807 true false l0
  have hIb : -9223372036854775808 ≤ rdInt false l0 ∧ rdInt false l0 ≤ 9223372036854775807 := by unfold rdInt; split <;> omega
  obtain ⟨hI1, hI2⟩ := hIb
  clear hbig s0 r0 g0
  go_enter Try.func8, Try.ntmps8
  have HN := fun w' (h : RdAt w' w.heap.size (fun k => k < w.heap.size) l0 false) => num_any w.heap.size (fun k => k < w.heap.size) false 18446744073709551615 l0 w' h
  have HI := fun w' (h : RdAt w' (w.heap.size + 1) (fun k => k < w.heap.size) l0 false) => int_any (w.heap.size + 1) (fun k => k < w.heap.size) false l0 w' h
  generalize rdNum 18446744073709551615 false false l0 = R at *
  generalize rdInt false l0 = I at *
  generalize rdNum 9223372036854775807 true false l0 = RI at *
  obtain ⟨n, mk, lr, br⟩ := R
  obtain ⟨ni, mki, ls, bs⟩ := RI
  simp only at hle hl1 hl2 hle2
  have HNh := Lib.hid HN
  have HIh := Lib.hid HI
  clear HN HI
  go_wp2_with (first
    | (go_at_call 36; refine (open_any _ _ _ _).mono ?_; rintro e w' ⟨rfl, rfl⟩)
    | (go_at_call 37
       go_must (refine (HNh.out _ (by exact HR1.out)).mono ?_)
       rintro e w1 ⟨rfl, k1, t1⟩
       have hs1 := t1.size
       simp at hs1
       have HK1 := Lib.hid k1
       have HR2b := Lib.hid (rdAt_touch HR2.out t1 (by omega) (fun k hk e => by omega))
       have HT1 := Lib.hid (HT0.out.trans t1 (fun k hk e => by omega))
       clear k1 t1)
    | (go_at_call 38
       go_must (refine (HIh.out _ (by exact HR2b.out)).mono ?_)
       rintro e w2 ⟨rfl, k2, t2⟩
       have hs2 := t2.size
       have HK2 := Lib.hid k2
       have HK1b := Lib.hid (rdAt_touch HK1.out t2 (by omega) (fun k hk e => by omega))
       have HT2 := Lib.hid (HT1.out.trans t2 (fun k hk e => by omega))
       have HU0 := Lib.hid (show WAt (((w2.alloc (.cells #[.slice none 0 0] 83)).alloc (.cells #[.slice none 0 0] 83)).alloc (.cells #[U64 n] 29)) w2.heap.size none [] from
         ⟨by simp, _, ((Blk.new w2 83 #[.slice none 0 0]).alloc _).alloc _, Own.nil _ _ _⟩)
       have HBx := Lib.hid (show Blk (((w2.alloc (.cells #[.slice none 0 0] 83)).alloc (.cells #[.slice none 0 0] 83)).alloc (.cells #[U64 n] 29)) (w2.heap.size + 1) 83 #[.slice none 0 0] from by
         have := (Blk.new (w2.alloc (.cells #[.slice none 0 0] 83)) 83 #[.slice none 0 0]).alloc (.cells #[U64 n] 29); simpa using this)
       have HT2b := Lib.hid (((HT2.out.alloc (.cells #[.slice none 0 0] 83)).alloc (.cells #[.slice none 0 0] 83)).alloc (.cells #[U64 n] 29))
       clear k2 t2)
    | (go_at_call 39
       go_must (refine (wnum_any w2.heap.size none [] (fun k => k = w2.heap.size + 2) _ 1 [n] _ (by exact HU0.out) (by exact Rd.litAt _ _ (by simp) 29 [U64 n] 1 rfl) (fun k hk => ⟨by omega, by simp⟩) (by simp; omega) (by simp)).mono ?_)
       rintro e w3 ⟨rfl, r3, hw3, t3, hf3⟩
       have hs3 := t3.size
       simp at hs3
       have HU3 := Lib.hid hw3
       have HB3 := Lib.hid (t3.blk HBx.out (fun e => by rcases e with e | e; exact absurd e (by omega); cases e))
       have HT3 := Lib.hid (HT2b.out.trans t3 (fun k hk e => by rcases e with e | e; exact absurd e (by omega); cases e))
       have hr3 := hw3.rlt
       have HK1c := Lib.hid (rdAt_touch (rdAt_touch HK1b.out (((Touch.refl (fun _ => False) w2).alloc (.cells #[.slice none 0 0] 83)).alloc (.cells #[.slice none 0 0] 83)) (fun e => e) (fun _ _ e => e)) (((Touch.refl (fun k => k = w2.heap.size ∨ none = some k) _).alloc (.cells #[U64 n] 29)).trans t3 (fun _ _ e => e)) (fun e => by rcases e with e | e; exact absurd e (by omega); cases e) (fun k hk e => by rcases e with e | e; exact absurd e (by omega); cases e))
       have HK2c := Lib.hid (rdAt_touch (rdAt_touch HK2.out (((Touch.refl (fun _ => False) w2).alloc (.cells #[.slice none 0 0] 83)).alloc (.cells #[.slice none 0 0] 83)) (fun e => e) (fun _ _ e => e)) (((Touch.refl (fun k => k = w2.heap.size ∨ none = some k) _).alloc (.cells #[U64 n] 29)).trans t3 (fun _ _ e => e)) (fun e => by rcases e with e | e; exact absurd e (by omega); cases e) (fun k hk e => by rcases e with e | e; exact absurd e (by omega); cases e))
       have HR3 := Lib.hid (And.intro hr3 hf3)
       have HTl3 := Lib.hid ((Touch.refl (fun _ => False) w3).alloc (.cells #[I64 I] 2))
       clear hw3 t3 hf3 hr3)
    | (go_at_call 40
       go_must (refine (wint_any (w2.heap.size + 1) none [] (fun k => k = w3.heap.size) _ 1 [I] _ (by exact ⟨by simp, _, HTl3.out.blk HB3.out (fun e => e), Own.nil _ _ _⟩) (by exact Rd.litAt _ _ (by simp) 2 [I64 I] 1 rfl) (fun k hk => ⟨by omega, by simp⟩) (by simp; exact ⟨hI1, hI2⟩) (by simp)).mono ?_)
       rintro e w4 ⟨rfl, r4, hw4, t4, hf4⟩
       have hs4 := t4.size
       simp at hs4
       have HU4 := Lib.hid hw4
       have HX4 := Lib.hid (HTl3.out.mono (S' := fun k => k = w2.heap.size + 1 ∨ none = some k) (fun _ _ e => e.elim) |>.trans t4 (fun _ _ e => e))
       clear hw4 t4 hf4))
  have HU3b := Lib.hid (HU3.out.touch HX4.out (fun e => by rcases e with e | e; exact absurd e (by omega); cases e) (fun k hk e => by
    rcases e with e | e
    · exact HU3.out.ne_blk HB3.out (by decide) (by rw [hk, e])
    · cases e))
  have HK1d := Lib.hid (rdAt_touch HK1c.out HX4.out (fun e => by rcases e with e | e; exact absurd e (by omega); cases e) (fun k hk e => by rcases e with e | e; exact absurd e (by omega); cases e))
  have HK2d := Lib.hid (rdAt_touch HK2c.out HX4.out (fun e => by rcases e with e | e; exact absurd e (by omega); cases e) (fun k hk e => by rcases e with e | e; exact absurd e (by omega); cases e))
  have HT4 := Lib.hid (HT3.out.trans HX4.out (fun k hk e => by rcases e with e | e; exact absurd e (by omega); cases e))
  have HS4 := Lib.hid (HS0.out.touch HT4.out (fun _ _ e => e))
  have hk1 : (encs [n]).length ≤ 140737488355328 := by have := encs_len [n]; simp at this; omega
  have hk2 : (encIs [I]).length ≤ 140737488355328 := by have := encIs_len [I]; simp at this; omega
  go_cut [42] (fun v wx => v = .bool false ∧ Touch (fun _ => False) w4 wx)
  case first =>
    cases br
    · have hb3 := HK1d.out
      obtain ⟨_, A5, c5, _, _, hb5, _⟩ := hb3
      have hcut := HW1.out rfl
      have hU := HU3b.out
      rw [List.nil_append, show encs [n] = encN 0 n by simp [encs], hcut] at hU
      have HUx := Lib.hid hU
      have hkl : (l0.take (l0.length - lr.length)).length ≤ 140737488355328 := by rw [List.length_take]; omega
      have HTk := Lib.hid (show Rd w4 (fun k => k < w.heap.size) A0 (l0.length - lr.length) ((l0.take (l0.length - lr.length)).map B8) from by have := HS4.out.take (k := l0.length - lr.length) (by omega); rwa [← List.map_take] at this)
      clear hcut hU HNh HIh
      generalize l0.take (l0.length - lr.length) = lt at *
      obtain ⟨k, hk⟩ : ∃ k, l0.length - lr.length = k := ⟨_, rfl⟩
      have ew : IntKind.i64.wrap ((l0.length : Int) - lr.length) = (k : Int) := by rw [IntWalk.i64_in _ (by omega)]; omega
      have hkc : k ≤ c0 := by omega
      rw [hk] at HTk
      clear hk
      refine wp_region_plan [(0, 0), (0, 1), (0, 2), (0, 3), (1, 6), (1, 7), (1, 8), (1, 9), (2, 4), (0, 5), (0, 10), (0, 11), (0, 12), (0, 13), (0, 14), (0, 15)] (fun _ => False) (by kernel_rfl) (by kernel_rfl) (fun c a d v w h => by cases d <;> exact h) ?_
      iterate 4
        first
          | (refine plan_s1 rfl (by rfl) (fun Kc hKc => ?_)
             go_simp
             first
               | (refine hKc _ ?_)
               | (refine ⟨_, calls_flip (bad_any _ _ _ _ _ _ (by exact hb5)), hKc _ ?_⟩)
             clear hKc Kc)
          | (refine plan_s0 rfl (by rfl) ?_; go_frame)
      iterate 4
        first
          | (apply plan_h
             · rfl
             · rfl
             · intro wh hT
               go_simp
               try rfl
             go_frame)
          | (refine plan_hn rfl (by rfl) ?_; go_frame)
      refine plan_a1 rfl (by rfl) (fun Kc hKc => ?_)
      go_simp
      refine (wbytes_any w2.heap.size r3 _ _ (by exact HUx.out) hkl).mono ?_
      rintro e w5 ⟨A6, c6, rfl, _, _, hr6, t6⟩
      refine hKc _ _ ⟨t6, ?_⟩
      clear hKc Kc
      rw [List.length_map] at hr6
      have hs6 := Rd.str hr6 c6
      have hs7 := Rd.str (Rd.touch (by exact HTk.out) t6 (fun _ _ e => e)) c0
      have hb7 := t6.blk (by exact hb5) (fun e => e)
      have HT6 := Lib.hid t6
      clear t6 hr6
      iterate 7
        first
          | (refine plan_s1 rfl (by rfl) (fun Kc hKc => ?_)
             go_simp
             first
               | (refine hKc _ ?_)
               | (refine ⟨_, calls_flip (left_any _ _ _ _ _ _ (by exact hb7)), hKc _ ?_⟩)
             clear hKc Kc)
          | (refine plan_s0 rfl (by rfl) ?_; go_frame)
      refine plan_done ?_
      go_wp2
      go_meet
      exact ⟨rfl, (Touch.refl (fun _ => False) w4).drew.trans HT6.out (fun _ _ e => e)⟩
    · obtain ⟨_, A5, c5, _, _, hb5, _⟩ := HK1d.out
      clear HNh HIh
      refine wp_region_plan [(0, 0), (0, 1), (0, 2), (0, 3), (1, 6), (1, 7), (1, 8), (1, 9), (2, 4), (0, 5), (0, 10), (0, 11), (0, 12), (0, 13), (0, 14), (0, 15)] (fun _ => False) (by kernel_rfl) (by kernel_rfl) (fun c a d v w h => by cases d <;> exact h) ?_
      iterate 4
        first
          | (refine plan_s1 rfl (by rfl) (fun Kc hKc => ?_)
             go_simp
             first
               | (refine hKc _ ?_)
               | (refine ⟨_, calls_flip (bad_any _ _ _ _ _ _ (by exact hb5)), hKc _ ?_⟩)
             clear hKc Kc)
          | (refine plan_s0 rfl (by rfl) ?_; go_frame)
      refine plan_hn rfl (by rfl) ?_
      go_frame
      refine plan_hn rfl (by rfl) ?_
      go_frame
      refine plan_hn rfl (by rfl) ?_
      go_frame
      refine plan_hn rfl (by rfl) ?_
      go_frame
      refine plan_a rfl fun Kc hKc => ?_
      go_simp
      refine hKc _ _ ⟨Touch.refl _ _, ?_⟩
      clear hKc Kc
      iterate 7
        refine plan_s rfl fun Kc hKc => ?_
        go_simp
        refine hKc _ ?_
        clear hKc Kc
      refine plan_done ?_
      go_wp2
      go_meet
      exact ⟨rfl, (Touch.refl (fun _ => False) w4).drew⟩
  case rest =>
    obtain ⟨rfl, hcT⟩ := hcut
    have HTc := Lib.hid (HT4.out.trans hcT (fun _ _ e => e))
    have HKc := Lib.hid (rdAt_touch HK2d.out hcT (fun e => e) (fun _ _ e => e))
    have HUc := Lib.hid (HU4.out.touch hcT (fun e => e) (fun _ _ e => e))
    have HSc := Lib.hid (HS4.out.touch hcT (fun _ _ e => e))
    have hsc := hcT.size
    clear hcT HNh HIh HU3b HK1d HK2d HS4
    go_wp2_with fail
    obtain ⟨_, A5, c5, _, _, hb5, _⟩ := HKc.out
    cases bs
    · have hcut := HW2.out rfl
      have hU := HUc.out
      rw [List.nil_append, show encIs [I] = encI I by simp [encIs], hcut] at hU
      have HUx := Lib.hid hU
      have hkl : (l0.take (l0.length - ls.length)).length ≤ 140737488355328 := by rw [List.length_take]; omega
      have HTk := Lib.hid (show Rd wc (fun k => k < w.heap.size) A0 (l0.length - ls.length) ((l0.take (l0.length - ls.length)).map B8) from by have := HSc.out.take (k := l0.length - ls.length) (by omega); rwa [← List.map_take] at this)
      clear hcut hU
      generalize l0.take (l0.length - ls.length) = lt at *
      obtain ⟨k, hk⟩ : ∃ k, l0.length - ls.length = k := ⟨_, rfl⟩
      have ew : IntKind.i64.wrap ((l0.length : Int) - ls.length) = (k : Int) := by rw [IntWalk.i64_in _ (by omega)]; omega
      have hkc : k ≤ c0 := by omega
      rw [hk] at HTk
      clear hk
      refine wp_region_plan [(0, 0), (0, 1), (0, 2), (1, 5), (1, 6), (1, 7), (1, 8), (2, 3), (0, 4), (0, 9), (0, 10), (0, 11), (0, 12), (0, 13), (0, 14), (0, 15), (2, 16), (0, 17), (0, 18)] (fun _ => False) (by kernel_rfl) (by kernel_rfl) (fun c a d v w h => by cases d <;> exact h) ?_
      iterate 3
        first
          | (refine plan_s1 rfl (by rfl) (fun Kc hKc => ?_)
             go_simp
             first
               | (refine hKc _ ?_)
               | (refine ⟨_, calls_flip (bad_any _ _ _ _ _ _ (by exact hb5)), hKc _ ?_⟩)
             clear hKc Kc)
          | (refine plan_s0 rfl (by rfl) ?_; go_frame)
      iterate 4
        first
          | (apply plan_h
             · rfl
             · rfl
             · intro wh hT
               go_simp
               try rfl
             go_frame)
          | (refine plan_hn rfl (by rfl) ?_; go_frame)
      refine plan_a1 rfl (by rfl) (fun Kc hKc => ?_)
      go_simp
      refine (wbytes_any (w2.heap.size + 1) r4 _ _ (by exact HUx.out) hkl).mono ?_
      rintro e w5 ⟨A6, c6, rfl, _, _, hr6, t6⟩
      refine hKc _ _ ⟨t6, ?_⟩
      clear hKc Kc
      rw [List.length_map] at hr6
      have hs6 := Rd.str hr6 c6
      have hs7 := Rd.str (Rd.touch (by exact HTk.out) t6 (fun _ _ e => e)) c0
      have hb7 := t6.blk (by exact hb5) (fun e => e)
      have HT6 := Lib.hid t6
      clear t6 hr6
      iterate 8
        first
          | (refine plan_s1 rfl (by rfl) (fun Kc hKc => ?_)
             go_simp
             first
               | (refine hKc _ ?_)
               | (refine ⟨_, calls_flip (left_any _ _ _ _ _ _ (by exact hb7)), hKc _ ?_⟩)
             clear hKc Kc)
          | (refine plan_s0 rfl (by rfl) ?_; go_frame)
      refine plan_a1 rfl (by rfl) (fun Kc hKc => ?_)
      go_simp
      refine (HV.out _).mono ?_
      rintro e w7 ⟨rfl, t7⟩
      refine hKc _ _ ⟨t7, ?_⟩
      clear hKc Kc
      have HT7 := Lib.hid t7
      clear t7
      iterate 2
        first
          | (refine plan_s1 rfl (by rfl) (fun Kc hKc => ?_)
             go_simp
             first
               | (refine hKc _ ?_)
             clear hKc Kc)
          | (refine plan_s0 rfl (by rfl) ?_; go_frame)
      refine plan_done ?_
      go_wp2
      go_ret
      exact ⟨rfl, ((HTc.out.drew.trans HT6.out (fun _ _ e => e)).trans HT7.out (fun _ _ e => e)).below⟩
    · skip
      refine wp_region_plan [(0, 0), (0, 1), (0, 2), (1, 5), (1, 6), (1, 7), (1, 8), (2, 3), (0, 4), (0, 9), (0, 10), (0, 11), (0, 12), (0, 13), (0, 14), (0, 15), (2, 16), (0, 17), (0, 18)] (fun _ => False) (by kernel_rfl) (by kernel_rfl) (fun c a d v w h => by cases d <;> exact h) ?_
      iterate 3
        first
          | (refine plan_s1 rfl (by rfl) (fun Kc hKc => ?_)
             go_simp
             first
               | (refine hKc _ ?_)
               | (refine ⟨_, calls_flip (bad_any _ _ _ _ _ _ (by exact hb5)), hKc _ ?_⟩)
             clear hKc Kc)
          | (refine plan_s0 rfl (by rfl) ?_; go_frame)
      refine plan_hn rfl (by rfl) ?_
      go_frame
      refine plan_hn rfl (by rfl) ?_
      go_frame
      refine plan_hn rfl (by rfl) ?_
      go_frame
      refine plan_hn rfl (by rfl) ?_
      go_frame
      refine plan_a rfl fun Kc hKc => ?_
      go_simp
      refine hKc _ _ ⟨Touch.refl _ _, ?_⟩
      clear hKc Kc
      iterate 8
        refine plan_s rfl fun Kc hKc => ?_
        go_simp
        refine hKc _ ?_
        clear hKc Kc
      refine plan_a1 rfl (by rfl) (fun Kc hKc => ?_)
      go_simp
      refine (HV.out _).mono ?_
      rintro e w7 ⟨rfl, t7⟩
      refine hKc _ _ ⟨t7, ?_⟩
      clear hKc Kc
      have HT7 := Lib.hid t7
      clear t7
      iterate 2
        first
          | (refine plan_s1 rfl (by rfl) (fun Kc hKc => ?_)
             go_simp
             first
               | (refine hKc _ ?_)
             clear hKc Kc)
          | (refine plan_s0 rfl (by rfl) ?_; go_frame)
      refine plan_done ?_
      go_wp2
      go_ret
      exact ⟨rfl, (HTc.out.drew.trans HT7.out (fun _ _ e => e)).below⟩
end Go.Proofs.Ytomapfklpoijbaa
