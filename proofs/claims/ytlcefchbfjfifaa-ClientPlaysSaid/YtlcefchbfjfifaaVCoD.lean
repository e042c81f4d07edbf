/- law38.like. The walk of ClientPlays. -/
import Derived.Test.YtlcefchbfjfifaaVCoA
import Derived.Test.YtlcefchbfjfifaaVCnN
import Derived.Test.YtlcefchbfjfifaaVCdH
import Derived.Test.YtlcefchbfjfifaaCoB
section
namespace Go.Proofs.Ytlcefchbfjfifaa
open Go.RowKit Cal
set_option maxHeartbeats 4000000
set_option maxRecDepth 100000
set_option linter.unusedVariables false
attribute [local irreducible] wpPlan

theorem SmallR.of {c : Cl} (ok : c.Ok) {xs : List ResV} (h : xs.map ResV.p = c.done) : SmallR xs := by
  intro x hx
  have hm : (x.c, x.a) ∈ c.done := by rw [← h]; exact List.mem_map.2 ⟨x, hx, rfl⟩
  have hd := ok.dn _ hm
  simp only at hd
  obtain ⟨h1, h2, h3⟩ := cmFit_in hd.1
  exact ⟨by omega, by omega, by omega, hd.1.2.1, by omega⟩
theorem like38_any {w : World} {g : Nat} {c : Cl} {M : ClM} {F : Nat → Prop} (h : ClAt w g c M F) (hF : ∀ k, F k → k < w.heap.size) {Mr : RfM} {Fr : Nat → Prop} (hR : RfR w Fr c Mr) (hFl : ∀ k, Fr k → k < w.heap.size) (hdl : c.done.length ≤ 100000) :
    Calls Try.prog 15 #[.pointer (some ⟨g, 0, none⟩), .agg (rfC c Mr)] w fun e w' => e = .returned (.bool true) ∧ Touch (fun _ => False) w w' := by
  have hT0 : Touch (fun _ => False) w (w.alloc (.cells (rfC c Mr) 38)) := (Touch.refl _ w).alloc _
  have HT0 := Lib.hid hT0
  have HB0 := Lib.hid (Blk.new w 38 (rfC c Mr))
  have HA := Lib.hid h
  have HF := Lib.hid hF
  have HRr := Lib.hid hR
  have HFl := Lib.hid hFl
  have hx5 := rfC_lo c Mr (i := 5) (by omega)
  have hx3 := rfC_lo c Mr (i := 3) (by omega)
  simp at hx5 hx3
  have HX5 := Lib.hid hx5
  have HX3 := Lib.hid hx3
  obtain ⟨Ad, cap, hdv, hAn, hcn, hcm, hrd⟩ := hR.dv
  have hx19 := rfC_dv c Mr hR.dn
  rw [hdv] at hx19
  have HX19 := Lib.hid hx19
  have HXdc := Lib.hid (rfC_DC c Mr hR.dn)
  have hyl : Mr.xs.length = c.done.length := by rw [← hR.eqs]; simp
  have HYl := Lib.hid hyl
  have HRd := Lib.hid (show RdZ w Fr 27 Ad Mr.xs.length (Mr.xs.flatMap ResV.cells) from hyl ▸ hrd)
  have HSe := Lib.hid (fun w1 (t : Touch (fun _ => False) w w1) => clsend_any (h.far t) (fun k hk => Nat.lt_of_lt_of_le (hF k hk) t.size))
  have HDo := Lib.hid (fun w1 (t : Touch (fun _ => False) w w1) => cldoing_any (h.far t) (fun k hk => Nat.lt_of_lt_of_le (hF k hk) t.size))
  have HDn := Lib.hid (fun w1 (t : Touch (fun _ => False) w w1) => cldone_any (h.far t) (fun k hk => Nat.lt_of_lt_of_le (hF k hk) t.size) hdl)
  unfold SendP at HSe
  unfold DoingP at HDo
  unfold DoneP at HDn
  have HOk := Lib.hid h.ok
  have HSm := Lib.hid (fun (xs : List ResV) (hx : xs.map ResV.p = c.done) => SmallR.of h.ok hx)
  have HZm := Lib.hid (show cmZA.size = 13 from rfl)
  have hb : (c.busy = none ∧ c.busy.isSome = false) ∨ (∃ y, c.busy = some y ∧ c.busy.isSome = true) := by
    cases hb : c.busy with
    | none => exact .inl ⟨rfl, rfl⟩
    | some y => exact .inr ⟨y, rfl, rfl⟩
  have HBu := Lib.hid hR.bu
  obtain ⟨X0, hX0⟩ : ∃ X0, X0 = rfC c Mr := ⟨_, rfl⟩
  rw [← hX0] at HT0 HB0 HX5 HX3 HX19 HXdc ⊢
  clear hT0 h hF hR hFl hx5 hx3 hx19 hdv hAn hcn hcm hrd hX0 hyl
  obtain ⟨W0, hW0⟩ : ∃ W0, W0 = w.alloc (.cells X0 38) := ⟨_, rfl⟩
  have HW0 := Lib.hid hW0
  rw [← hW0] at HT0 HB0
  have hz0 : w.heap.size < W0.heap.size := by rw [hW0]; simp
  clear hW0
  rcases hb with ⟨hn, hs⟩ | ⟨y, hy, hs⟩
  · rw [hn] at HSe HDo
    simp only [Option.isSome_none, Bool.false_eq_true, if_false] at HSe HDo
    have HXz := Lib.hid HX5.out
    rw [hs] at HXz
    clear HX5 HX3 HXdc HBu hs hn
    go_enter Try.func15, Try.ntmps15
    go_wp2_with (first
      | (go_at_call 13; rw [← HW0.out]; go_must (refine (HSe.out _ (by exact HT0.out)).mono ?_)
         rintro e w1 ⟨A1, n1, c1, l1, rfl, hl1, hn1, -, -, -, t1⟩
         have hl1 : l1 = [] := hl1
         rw [hl1] at hn1
         have HN1 := Lib.hid (show n1 = 0 from hn1)
         rw [show ((0 : Nat) : Int) = 0 from rfl]
         clear hl1 hn1
         have HT1 := Lib.hid (HT0.out.trans t1 (fun _ _ e => e))
         have HB1 := Lib.hid (t1.blk HB0.out (fun e => e))
         clear t1)
      | (go_at_call 17; go_must (refine (HDo.out _ (by exact HT1.out)).mono ?_)
         rintro e w2 ⟨x2, A2, B2, D2, k2, m2, n2, hx2, rfl, hr2, t2⟩
         have hx2 : x2 = cmZ := hx2
         subst hx2
         have HR2 := Lib.hid hr2
         have HT2 := Lib.hid (HT1.out.trans t2 (fun _ _ e => e))
         have HB2 := Lib.hid (t2.blk HB1.out (fun e => e))
         have HN2 := Lib.hid (Blk.new w2 35 #[.int .i64 0, .int .u64 0, .int .u64 0, .int .u64 0, .int .i64 0, .int .i64 0, .int .i64 0, .slice none 0 0, .slice none 0 0, .int .i64 0, .slice none 0 0, .int .i64 0, .int .i64 0])
         have HZn := Lib.hid (show (#[.int .i64 0, .int .u64 0, .int .u64 0, .int .u64 0, .int .i64 0, .int .i64 0, .int .i64 0, .slice none 0 0, .slice none 0 0, .int .i64 0, .slice none 0 0, .int .i64 0, .int .i64 0] : Array Value).size = 13 from rfl)
         have HCn := Lib.hid (cmA_size cmZ A2 B2 D2 k2 m2 n2)
         have HC1 := Lib.hid (cmA_one cmZ A2 B2 D2 k2 m2 n2)
         have HSc := Lib.hid (fun w1 (G : Nat → Prop) (hr1 : CmR w1 G cmZ A2 B2 D2) => (show Calls Try.prog 12 #[.agg (cmA cmZ A2 B2 D2 k2 m2 n2), .agg cmZA] w1 fun e w' => e = .returned (.bool true) ∧ Touch (fun _ => False) w1 w' from by
           have := fcmsame_any _ (fun _ => False) A2 B2 D2 none none none k2 m2 n2 0 0 0 cmZ cmZ w1 hr1 ⟨CaR.zero _ _, SpR.nil _ _ _⟩ (by decide) (by decide) (by decide) (by decide) (by decide)
           rw [sameCm_self] at this
           exact this))
         obtain ⟨X13, hX13⟩ : ∃ X, X = cmA cmZ A2 B2 D2 k2 m2 n2 := ⟨_, rfl⟩
         rw [← hX13] at HCn HC1 HSc ⊢
         clear t2 hr2 hX13)
      | ((with_reducible apply HN2.out.st rowCm HZn.out HCn.out HC1.out); exact rfl; exact rfl; exact rfl; exact rfl
         intro w3 hb3 t3
         have HN3 := Lib.hid hb3
         have HT23 := Lib.hid (show Touch (fun _ => False) w2 w3 from ((Touch.refl (fun _ => False) w2).alloc (.cells #[.int .i64 0, .int .u64 0, .int .u64 0, .int .u64 0, .int .i64 0, .int .i64 0, .int .i64 0, .slice none 0 0, .slice none 0 0, .int .i64 0, .slice none 0 0, .int .i64 0, .int .i64 0] 35)).trans t3 (fun k hk e => by omega))
         clear hb3 t3))
    have HT3 := Lib.hid (HT2.out.trans HT23.out (fun _ _ e => e))
    obtain ⟨W4, hW4⟩ : ∃ W4, W4 = w3.drew := ⟨_, rfl⟩
    have HT4 := Lib.hid (show Touch (fun _ => False) w W4 from hW4 ▸ HT3.out.drew)
    have HT24 := Lib.hid (show Touch (fun _ => False) w2 W4 from hW4 ▸ HT23.out.drew)
    have HB4 := Lib.hid (HT24.out.blk HB2.out (fun e => e))
    have HN4 := Lib.hid (show Blk W4 w2.heap.size 35 X13 from hW4 ▸ (Touch.refl (fun _ => False) w3).drew.blk HN3.out (fun e => e))
    have x5 := HB4.out.cell 5
    rw [HXz.out] at x5
    refine wp_region_plan [(0, 0), (0, 1), (0, 2), (0, 3), (0, 4), (0, 5), (0, 6), (0, 7), (0, 8), (0, 9), (0, 10), (0, 11), (1, 14), (1, 15), (2, 12), (2, 13), (2, 16), (0, 17), (0, 18)] (fun _ => False) (by kernel_rfl) (by kernel_rfl) (fun c a d v w h => by cases d <;> exact h) ?_
    rw [← hW4]
    clear hW4
    iterate 12
      refine plan_s1 rfl (by rfl) (fun Kc hKc => ?_)
      go_simp
      first
        | (refine hKc _ ?_)
      clear hKc Kc
    iterate 1
      apply plan_h
      · rfl
      · rfl
      · intro wh hT
        go_simp
        try rfl
      go_frame
    iterate 1
      apply plan_h
      · rfl
      · rfl
      · intro wh hT
        have hf0 := show wh.cell? ⟨w.heap.size, 19, none⟩ = some (.slice Ad c.done.length cap) from ((hT.blk HB4.out (fun e => e)).cell 19).trans HX19.out
        go_simp
        try rfl
      go_frame
    clear x5
    refine plan_a1 rfl (by rfl) (fun Kc hKc => ?_)
    go_simp
    refine (HDn.out _ (by exact HT4.out)).mono ?_
    rintro e w5 ⟨v5, q5, xs, rfl, ho5, t5⟩
    refine hKc _ _ ⟨t5, ?_⟩
    clear hKc Kc
    have HO5 := Lib.hid ho5
    have HT5 := Lib.hid (HT4.out.trans t5 (fun _ _ e => e))
    have HT45 := Lib.hid t5
    obtain ⟨A5, c5, hv5, -, -, -, hrz5⟩ := ho5.own.full
    have hx5l : xs.length = c.done.length := by rw [← ho5.eqs]; simp
    have HX5l := Lib.hid hx5l
    rw [← hx5l] at hrz5
    subst hv5
    have HRz5 := Lib.hid hrz5
    clear ho5 t5 hrz5 hx5l
    go_simp
    refine plan_a1 rfl (by rfl) (fun Kc hKc => ?_)
    go_simp
    have hrs := results38_any _ A5 c5 xs _ HRz5.out (by rw [HX5l.out]; exact hdl)
    rw [HX5l.out] at hrs
    refine hrs.mono ?_
    rintro e w6 ⟨A6, c6, rfl, hr6, t6⟩
    refine hKc _ _ ⟨t6, ?_⟩
    clear hKc Kc
    clear hrs
    have HR6 := Lib.hid hr6
    have HT6 := Lib.hid (HT5.out.trans t6 (fun _ _ e => e))
    have HT46 := Lib.hid (HT45.out.trans t6 (fun _ _ e => e))
    have HT56 := Lib.hid t6
    clear t6 hr6
    go_simp
    refine plan_a1 rfl (by rfl) (fun Kc hKc => ?_)
    go_simp
    have hsm := (fsame38_yes _ Fr (fun k => W4.heap.size ≤ k ∧ k < w5.heap.size ∧ q5 ≠ some k) Fr A6 Ad c6 cap xs Mr.xs w6 (by rw [HX5l.out]; exact HR6.out) (HRd.out.touch HT6.out (fun _ _ e => e)) (fun z hz => (HO5.out.rows z hz).touch HT56.out (fun _ _ e => e)) (fun z hz => (HRr.out.rows z hz).touch HT6.out (fun _ _ e => e)) (HO5.out.eqs.trans HRr.out.eqs.symm) (HSm.out _ HO5.out.eqs) (by rw [HX5l.out]; omega))
    rw [HX5l.out, HYl.out] at hsm
    refine hsm.mono ?_
    rintro e w7 ⟨rfl, t7⟩
    refine hKc _ _ ⟨t7, ?_⟩
    clear hKc Kc
    clear hsm
    have HT7 := Lib.hid (HT6.out.trans t7 (fun _ _ e => e))
    have HT47 := Lib.hid (HT46.out.trans t7 (fun _ _ e => e))
    clear t7
    go_simp
    iterate 2
      refine plan_s1 rfl (by rfl) (fun Kc hKc => ?_)
      go_simp
      first
        | (refine hKc _ ?_)
      clear hKc Kc
    refine plan_done ?_
    have HB7 := Lib.hid (HT47.out.blk HB4.out (fun e => e))
    have HN7 := Lib.hid (HT47.out.blk HN4.out (fun e => e))
    have x5 := HB7.out.cell 5
    rw [HXz.out] at x5
    have hnz : ((n1 : Int) == 0) = true := by rw [HN1.out]; rfl
    go_wp2_with (first
      | ((with_reducible apply HN7.out.ld rowCm HCn.out); exact rfl; exact rfl; exact rfl)
      | (refine buildZ builtCm rfl rfl ?_)
      | (go_at_call 12; go_must (refine (HSc.out _ _ (by exact HR2.out.touch (HT24.out.trans HT47.out (fun _ _ e => e)) (fun _ _ e => e))).mono ?_); rintro e w8 ⟨rfl, t8⟩
         have HT8 := Lib.hid (HT7.out.trans t8 (fun _ _ e => e))
         clear t8))
    go_ret
    exact ⟨rfl, HT8.out⟩
  · rw [hy] at HSe HDo
    simp only [Option.isSome_some, if_true] at HSe HDo
    have HXz := Lib.hid HX5.out
    rw [hs] at HXz
    have HFt := Lib.hid (HOk.out.bu y hy)
    obtain ⟨Ab, Bb, Db, kb, mb, nb, hDC, hcm⟩ := HBu.out y hy
    have HCm := Lib.hid hcm
    rw [hDC] at HXdc
    have hft := HFt.out
    have hfi := cmFit_in hft
    have HSnd := Lib.hid (show bytesC y = encC y ∧ bytesCE y = 0 by rw [bytesC, bytesCE, hft.1]; exact ⟨rfl, rfl⟩)
    have hby := (fun w1 (t : Touch (fun _ => False) w w1) => (show Calls Try.prog 39 #[.agg (cmA y Ab Bb Db kb mb nb)] w1 (CbPost y w1) from fcmbytes_any Fr Ab Bb Db kb mb nb y w1 (hcm.touch t (fun _ _ e => e)) (fun k hk => Nat.lt_of_lt_of_le (HFl.out k hk) t.size) (by omega) (by omega) (by omega) hft.2.1 hft.2.2.1 hft.2.2.2))
    unfold CbPost at hby
    rw [HSnd.out.1, HSnd.out.2] at hby
    have HBy := Lib.hid hby
    have HBn := Lib.hid (cmA_size y Ab Bb Db kb mb nb)
    have HSb := Lib.hid (fun w1 A2 B2 D2 k2 m2 n2 (G : Nat → Prop) (hr1 : CmR w1 G y A2 B2 D2) (hr2 : CmR w1 Fr y Ab Bb Db) => (show Calls Try.prog 12 #[.agg (cmA y A2 B2 D2 k2 m2 n2), .agg (cmA y Ab Bb Db kb mb nb)] w1 fun e w' => e = .returned (.bool true) ∧ Touch (fun _ => False) w1 w' from by
      have := fcmsame_any G Fr A2 B2 D2 Ab Bb Db k2 m2 n2 kb mb nb y y w1 hr1 hr2 (by omega) (by omega) (by omega) hft.2.1 hft.2.1
      rw [sameCm_self] at this
      exact this))
    obtain ⟨DCx, hDCx⟩ : ∃ X, X = cmA y Ab Bb Db kb mb nb := ⟨_, rfl⟩
    rw [← hDCx] at HXdc HBy HBn HSb
    clear HX5 HBu hs hy hDC hcm hft hfi hby hDCx
    generalize hat : c.at_ = at_ at *
    obtain ⟨L, hL⟩ : ∃ L, L = encC y := ⟨_, rfl⟩
    rw [← hL] at HSe HBy
    clear hL hat
    go_enter Try.func15, Try.ntmps15
    go_wp2_with (first
      | (go_at_call 13; rw [← HW0.out]; go_must (refine (HSe.out _ (by exact HT0.out)).mono ?_)
         rintro e w1 ⟨A1, n1, c1, l1, rfl, hl1, hn1, hr1, -, -, t1⟩
         have hl1 : l1 = L := hl1
         rw [hl1] at hn1 hr1
         subst hn1
         have HR1 := Lib.hid hr1
         have HT1 := Lib.hid (HT0.out.trans t1 (fun _ _ e => e))
         have HB1 := Lib.hid (t1.blk HB0.out (fun e => e))
         clear t1 hr1)
      | (go_at_call 17; go_must (refine (HDo.out _ (by exact HT1.out)).mono ?_)
         rintro e w2 ⟨x2, A2, B2, D2, k2, m2, n2, hx2, rfl, hr2, t2⟩
         have hx2 : x2 = y := hx2
         subst hx2
         have HR2 := Lib.hid hr2
         have HR12 := Lib.hid (HR1.out.touch t2 (fun _ _ e => e))
         have HT2 := Lib.hid (HT1.out.trans t2 (fun _ _ e => e))
         have HB2 := Lib.hid (t2.blk HB1.out (fun e => e))
         have HN2 := Lib.hid (Blk.new w2 35 #[.int .i64 0, .int .u64 0, .int .u64 0, .int .u64 0, .int .i64 0, .int .i64 0, .int .i64 0, .slice none 0 0, .slice none 0 0, .int .i64 0, .slice none 0 0, .int .i64 0, .int .i64 0])
         have HZn := Lib.hid (show (#[.int .i64 0, .int .u64 0, .int .u64 0, .int .u64 0, .int .i64 0, .int .i64 0, .int .i64 0, .slice none 0 0, .slice none 0 0, .int .i64 0, .slice none 0 0, .int .i64 0, .int .i64 0] : Array Value).size = 13 from rfl)
         have HCn := Lib.hid (cmA_size x2 A2 B2 D2 k2 m2 n2)
         have HC1 := Lib.hid (cmA_one x2 A2 B2 D2 k2 m2 n2)
         have HSc := Lib.hid (fun w1 => HSb.out w1 A2 B2 D2 k2 m2 n2)
         obtain ⟨X13, hX13⟩ : ∃ X, X = cmA x2 A2 B2 D2 k2 m2 n2 := ⟨_, rfl⟩
         rw [← hX13] at HCn HC1 HSc ⊢
         clear t2 hr2 hX13)
      | ((with_reducible apply HN2.out.st rowCm HZn.out HCn.out HC1.out); exact rfl; exact rfl; exact rfl; exact rfl
         intro w3 hb3 t3
         have HN3 := Lib.hid hb3
         have HT23 := Lib.hid (show Touch (fun _ => False) w2 w3 from ((Touch.refl (fun _ => False) w2).alloc (.cells #[.int .i64 0, .int .u64 0, .int .u64 0, .int .u64 0, .int .i64 0, .int .i64 0, .int .i64 0, .slice none 0 0, .slice none 0 0, .int .i64 0, .slice none 0 0, .int .i64 0, .int .i64 0] 35)).trans t3 (fun k hk e => by omega))
         clear hb3 t3))
    have HT3 := Lib.hid (HT2.out.trans HT23.out (fun _ _ e => e))
    obtain ⟨W4, hW4⟩ : ∃ W4, W4 = w3.drew := ⟨_, rfl⟩
    have HT4 := Lib.hid (show Touch (fun _ => False) w W4 from hW4 ▸ HT3.out.drew)
    have HT24 := Lib.hid (show Touch (fun _ => False) w2 W4 from hW4 ▸ HT23.out.drew)
    have HB4 := Lib.hid (HT24.out.blk HB2.out (fun e => e))
    have HN4 := Lib.hid (show Blk W4 w2.heap.size 35 X13 from hW4 ▸ (Touch.refl (fun _ => False) w3).drew.blk HN3.out (fun e => e))
    have x5 := HB4.out.cell 5
    rw [HXz.out] at x5
    refine wp_region_plan [(0, 0), (0, 1), (0, 2), (0, 3), (0, 4), (0, 5), (0, 6), (0, 7), (0, 8), (0, 9), (0, 10), (0, 11), (1, 14), (1, 15), (2, 12), (2, 13), (2, 16), (0, 17), (0, 18)] (fun _ => False) (by kernel_rfl) (by kernel_rfl) (fun c a d v w h => by cases d <;> exact h) ?_
    rw [← hW4]
    clear hW4
    iterate 12
      refine plan_s1 rfl (by rfl) (fun Kc hKc => ?_)
      go_simp
      first
        | (refine hKc _ ?_)
      clear hKc Kc
    iterate 1
      apply plan_h
      · rfl
      · rfl
      · intro wh hT
        go_simp
        try rfl
      go_frame
    iterate 1
      apply plan_h
      · rfl
      · rfl
      · intro wh hT
        have hf0 := show wh.cell? ⟨w.heap.size, 19, none⟩ = some (.slice Ad c.done.length cap) from ((hT.blk HB4.out (fun e => e)).cell 19).trans HX19.out
        go_simp
        try rfl
      go_frame
    clear x5
    refine plan_a1 rfl (by rfl) (fun Kc hKc => ?_)
    go_simp
    refine (HDn.out _ (by exact HT4.out)).mono ?_
    rintro e w5 ⟨v5, q5, xs, rfl, ho5, t5⟩
    refine hKc _ _ ⟨t5, ?_⟩
    clear hKc Kc
    have HO5 := Lib.hid ho5
    have HT5 := Lib.hid (HT4.out.trans t5 (fun _ _ e => e))
    have HT45 := Lib.hid t5
    obtain ⟨A5, c5, hv5, -, -, -, hrz5⟩ := ho5.own.full
    have hx5l : xs.length = c.done.length := by rw [← ho5.eqs]; simp
    have HX5l := Lib.hid hx5l
    rw [← hx5l] at hrz5
    subst hv5
    have HRz5 := Lib.hid hrz5
    clear ho5 t5 hrz5 hx5l
    go_simp
    refine plan_a1 rfl (by rfl) (fun Kc hKc => ?_)
    go_simp
    have hrs := results38_any _ A5 c5 xs _ HRz5.out (by rw [HX5l.out]; exact hdl)
    rw [HX5l.out] at hrs
    refine hrs.mono ?_
    rintro e w6 ⟨A6, c6, rfl, hr6, t6⟩
    refine hKc _ _ ⟨t6, ?_⟩
    clear hKc Kc
    clear hrs
    have HR6 := Lib.hid hr6
    have HT6 := Lib.hid (HT5.out.trans t6 (fun _ _ e => e))
    have HT46 := Lib.hid (HT45.out.trans t6 (fun _ _ e => e))
    have HT56 := Lib.hid t6
    clear t6 hr6
    go_simp
    refine plan_a1 rfl (by rfl) (fun Kc hKc => ?_)
    go_simp
    have hsm := (fsame38_yes _ Fr (fun k => W4.heap.size ≤ k ∧ k < w5.heap.size ∧ q5 ≠ some k) Fr A6 Ad c6 cap xs Mr.xs w6 (by rw [HX5l.out]; exact HR6.out) (HRd.out.touch HT6.out (fun _ _ e => e)) (fun z hz => (HO5.out.rows z hz).touch HT56.out (fun _ _ e => e)) (fun z hz => (HRr.out.rows z hz).touch HT6.out (fun _ _ e => e)) (HO5.out.eqs.trans HRr.out.eqs.symm) (HSm.out _ HO5.out.eqs) (by rw [HX5l.out]; omega))
    rw [HX5l.out, HYl.out] at hsm
    refine hsm.mono ?_
    rintro e w7 ⟨rfl, t7⟩
    refine hKc _ _ ⟨t7, ?_⟩
    clear hKc Kc
    clear hsm
    have HT7 := Lib.hid (HT6.out.trans t7 (fun _ _ e => e))
    have HT47 := Lib.hid (HT46.out.trans t7 (fun _ _ e => e))
    clear t7
    go_simp
    iterate 2
      refine plan_s1 rfl (by rfl) (fun Kc hKc => ?_)
      go_simp
      first
        | (refine hKc _ ?_)
      clear hKc Kc
    refine plan_done ?_
    have HB7 := Lib.hid (HT47.out.blk HB4.out (fun e => e))
    have HN7 := Lib.hid (HT47.out.blk HN4.out (fun e => e))
    have x5 := HB7.out.cell 5
    rw [HXz.out] at x5
    have x3 := HB7.out.cell 3
    rw [HX3.out] at x3
    go_wp2_with (first
      | ((with_reducible apply HB7.out.lp (k := 6) rowCm HBn.out HXdc.out); exact rfl; exact rfl; exact rfl)
      | (go_at_call 39; go_must (refine (HBy.out _ (by exact HT7.out)).mono ?_)
         rintro e w8 ⟨A8, c8, rfl, hr8, -, -, t8⟩
         have hs8 := Rd.str (n := L.length) hr8 c8
         have hs1 := Rd.str (n := L.length) (HR12.out.touch ((HT24.out.trans HT47.out (fun _ _ e => e)).trans t8 (fun _ _ e => e)) (fun _ _ e => e)) c1
         have HT8 := Lib.hid (HT7.out.trans t8 (fun _ _ e => e))
         have HT28 := Lib.hid ((HT24.out.trans HT47.out (fun _ _ e => e)).trans t8 (fun _ _ e => e))
         have HB8 := Lib.hid (t8.blk HB7.out (fun e => e))
         have HN8 := Lib.hid (t8.blk HN7.out (fun e => e))
         have x3 := HB8.out.cell 3
         rw [HX3.out] at x3
         clear t8 hr8)
      | ((with_reducible apply HN8.out.ld rowCm HCn.out); exact rfl; exact rfl; exact rfl)
      | ((with_reducible apply HB8.out.lp (k := 6) rowCm HBn.out HXdc.out); exact rfl; exact rfl; exact rfl)
      | (go_at_call 12; go_must (refine (HSc.out _ _ (by exact HR2.out.touch HT28.out (fun _ _ e => e)) (by exact HCm.out.touch HT8.out (fun _ _ e => e))).mono ?_); rintro e w9 ⟨rfl, t9⟩
         have HT9 := Lib.hid (HT8.out.trans t9 (fun _ _ e => e))
         clear t9))
    go_ret
    exact ⟨rfl, HT9.out⟩
end Go.Proofs.Ytlcefchbfjfifaa
end

section
namespace Go.Proofs.Ytlcefchbfjfifaa
open Go.RowKit Cal
set_option maxHeartbeats 4000000
set_option maxRecDepth 100000
set_option linter.unusedVariables false
attribute [local irreducible] wpPlan

theorem stepC_ok {o : COpV} {c cr : Cl} {w : World} (h : c.Ok) (oo : o.ok w) (hl : lightK o = true) : (stepC o c cr).Ok := by
  unfold stepC
  split
  · exact h.hear _ _ _ _ (by have := (lightK_in hl).2; omega)
  · split
    · exact h.tick
    · exact h.want _ oo.x64
theorem stepC_len {o : COpV} {c cr : Cl} : (stepC o c cr).done.length ≤ c.done.length + 1 := by
  unfold stepC
  split
  · unfold Cl.hear
    split
    · omega
    · split
      · split
        · simp
        · simp [Cl.nxt]
      · omega
  · split
    · unfold Cl.tick
      split
      · split <;> simp
      · omega
    · unfold Cl.want
      split <;> simp
theorem tellB_self (o : COpV) (c : Cl) : tellB o c c = true := by unfold tellB; split; simp; split <;> simp
theorem do38_any {w0 w : World} {g : Nat} {c cr : Cl} {M : ClM} {F : Nat → Prop} {Mr : RfM} {Fr Z : Nat → Prop} (h : BoL w0 w g c M F cr Mr Fr Z) (okr : cr.Ok) (o : COpV) (oo : o.ok w0) (hlk : lightK o = true) (hdl : c.done.length ≤ 1000) (hdr : cr.done.length ≤ 1000) :
    Calls Try.prog 10 #[.pointer (some ⟨g, 0, none⟩), .agg (rfC cr Mr), .agg o.arr] w (DoP38 w0 g (stepC o c cr) (stepC o cr cr) (tellB o c cr) Z w) := by
  by_cases h1 : o.kind = 1
  · rw [stepC, stepC, tellB, if_pos h1, if_pos h1, if_pos h1]
    exact do38_hear h okr o oo hlk hdl hdr h1
  · by_cases h2 : o.kind = 2
    · rw [stepC, stepC, tellB, if_neg h1, if_neg h1, if_neg h1, if_pos h2, if_pos h2, if_pos h2]
      exact do38_tick h okr o h2
    · rw [stepC, stepC, tellB, if_neg h1, if_neg h1, if_neg h1, if_neg h2, if_neg h2, if_neg h2]
      exact do38_want h okr o oo hlk h1 h2
def RfM.zero : RfM := ⟨cmZA, .slice none 0 0, []⟩
theorem RfR.zero (w : World) (F : Nat → Prop) (n s : Nat) : RfR w F (Cl.new n s) RfM.zero :=
  ⟨rfl, cmA_one .., (fun _ e => by cases e), ⟨none, 0, rfl, fun _ => rfl, by simp [Cl.new], by simp, by simp [RfM.zero, Cl.new, RdZ]⟩, rfl, (fun _ h => by cases h)⟩
theorem rfC_zero (nu sv : Nat) : (#[.int .u64 nu, .int .i64 sv, .int .u64 0, .int .i64 0, .int .i64 0, .bool false, .int .i64 0, .int .u64 0, .int .u64 0, .int .u64 0, .int .i64 0, .int .i64 0, .int .i64 0, .slice none 0 0, .slice none 0 0, .int .i64 0, .slice none 0 0, .int .i64 0, .int .i64 0, .slice none 0 0] : Array Value) = rfC (Cl.new nu sv) RfM.zero := by
  simp [rfC, RfM.zero, cmZA, cmA, cmZ, Cl.new, caZ, coZ]
theorem light38_in {l : List COpV} (h : light38B l = true) : (∀ o ∈ l, lightK o = true) ∧ l.length ≤ 80 := by
  simp only [light38B, Bool.and_eq_true, List.all_eq_true, decide_eq_true_eq] at h
  exact h
theorem walk_ClientPlays {w : World} (a0 : Int) (k0 : 0 ≤ a0 ∧ a0 ≤ 18446744073709551615) (a1 : Int) (k1 : -9223372036854775808 ≤ a1 ∧ a1 ≤ 9223372036854775807)
    (A2 : Option Addr) (n2 c2 : Nat) (l2 : List COpV) (e2 : l2.length = n2) (o2 : ∀ x ∈ l2, x.ok w) (z2 : ∀ a ∈ l2, a.cells.length = 32) (g2 : A2 = none → c2 = 0) (u2 : n2 ≤ c2) (m2 : c2 ≤ maxLen) (s2 : RdZ w (fun k => k < w.heap.size) 32 A2 n2 (l2.flatMap COpV.cells)) :
    Calls Try.prog 4 #[.int .u64 a0, .int .i64 a1, .slice A2 n2 c2] w fun e w' => e = .returned (.bool true) ∧ Below w.heap.size w w' := by
  subst e2
  obtain ⟨nu, rfl⟩ := Int.eq_ofNat_of_zero_le k0.1
  unfold maxLen at m2
  have HS2 := Lib.hid s2
  have HO2 := Lib.hid o2
  have HLi := Lib.hid (light38_any _ A2 c2 l2 w s2 (by omega))
  clear o2 z2 g2 s2 u2 k0
  cases hl : light38B l2
  · rw [hl] at HLi
    clear hl
    go_enter Try.func4, Try.ntmps4
    go_wp2_with (first
      | (go_at_call 6; go_must (refine HLi.out.mono ?_); rintro e w1 ⟨rfl, t1⟩; have HT := Lib.hid t1; clear t1)
      | (go_at_call 7; go_must (refine (lives38_any _).mono ?_); rintro e w2 ⟨rfl, t2⟩; have HT := Lib.hid (HT.out.trans t2 (fun _ _ e => e)); clear t2))
    go_ret
    exact ⟨rfl, HT.out.below⟩
  rw [hl] at HLi
  have HLk := Lib.hid (light38_in hl).1
  have hln := (light38_in hl).2
  clear hl
  by_cases hv : (1 ≤ nu ∧ nu ≤ 8) ∧ (1 ≤ a1 ∧ a1 ≤ 7)
  · obtain ⟨sv, rfl⟩ := Int.eq_ofNat_of_zero_le (show 0 ≤ a1 by omega)
    have HNew := Lib.hid (fun w1 => clnew_yes nu sv hv.1 (by omega) w1)
    have hok0 : (Cl.new nu sv).Ok := Cl.new_ok hv.1 (by omega)
    have HOk0 := Lib.hid hok0
    have v1 : ¬ (nu : Int) < 1 := by omega
    have v2 : ¬ (8 : Int) < (nu : Int) := by omega
    have v3 : ¬ (sv : Int) < 1 := by omega
    have v4 : ¬ (7 : Int) < (sv : Int) := by omega
    have HX0 := Lib.hid (rfC_zero nu sv)
    clear hv hok0 k1
    go_enter Try.func4, Try.ntmps4
    go_wp2_with (first
      | (go_at_call 6; go_must (refine HLi.out.mono ?_); rintro e w1 ⟨rfl, t1⟩; have HT1 := Lib.hid t1; clear t1)
      | (go_at_call 8; go_must (refine (HNew.out _).mono ?_); rintro e w2 ⟨rfl, ha, t2⟩
         have HC2 := Lib.hid ha
         have HT2 := Lib.hid t2
         have HL0 := Lib.hid (show (#[.int .u64 nu, .int .i64 sv, .int .u64 0, .int .i64 0, .int .i64 0, .bool false, .int .i64 0, .int .u64 0, .int .u64 0, .int .u64 0, .int .i64 0, .int .i64 0, .int .i64 0, .slice none 0 0, .slice none 0 0, .int .i64 0, .slice none 0 0, .int .i64 0, .int .i64 0, .slice none 0 0] : Array Value).size = 20 from rfl)
         have HL1 := Lib.hid (show (#[.int .u64 nu, .int .i64 sv, .int .u64 0, .int .i64 0, .int .i64 0, .bool false, .int .i64 0, .int .u64 0, .int .u64 0, .int .u64 0, .int .i64 0, .int .i64 0, .int .i64 0, .slice none 0 0, .slice none 0 0, .int .i64 0, .slice none 0 0, .int .i64 0, .int .i64 0, .slice none 0 0] : Array Value).all (·.oneCell') = true by simp [Value.oneCell'])
         clear ha t2)
      | (refine storeC rowRf _ _ rfl rfl w2 _ #[.int .u64 nu, .int .i64 sv, .int .u64 0, .int .i64 0, .int .i64 0, .bool false, .int .i64 0, .int .u64 0, .int .u64 0, .int .u64 0, .int .i64 0, .int .i64 0, .int .i64 0, .slice none 0 0, .slice none 0 0, .int .i64 0, .slice none 0 0, .int .i64 0, .int .i64 0, .slice none 0 0] rfl rfl rfl (by kernel_rfl) HL0.out HL1.out ?_))
    obtain ⟨g, hg⟩ : ∃ g, g = w1.heap.size := ⟨_, rfl⟩
    rw [← hg] at HC2
    have hz1 := HT1.out.size
    have hz2 := HT2.out.size
    have hgl := HC2.out.blk.lt
    have HCv := Lib.hid (show CvL w w2 g (Cl.new nu sv) ClM.zero (fun _ => False) from ⟨HC2.out, (fun _ h => h.elim), by omega, (fun _ e => by cases e), HT1.out.trans HT2.out (fun _ _ e => e)⟩)
    have HBo := Lib.hid (show BoL w w2 g (Cl.new nu sv) ClM.zero (fun _ => False) (Cl.new nu sv) RfM.zero (fun _ => False) (fun _ => False) from ⟨HCv.out, RfR.zero _ _ _ _, (fun _ h => h.elim), (fun _ h => h.elim)⟩)
    clear HC2 HT2
    go_wp2_with fail
    rw [HX0.out]
    obtain ⟨tb, htb⟩ : ∃ tb, tb = w2.heap.size := ⟨_, rfl⟩
    have HB3 := Lib.hid (HBo.out.addZ (Z' := fun k => k = tb) ((Touch.refl (fun _ => False) w2).alloc (.cells (rfC (Cl.new nu sv) RfM.zero) 38)) (fun k hk => .inr (by rw [hk, htb]; simp)))
    have HT3 := Lib.hid (show Blk (w2.alloc (.cells (rfC (Cl.new nu sv) RfM.zero) 38)) tb 38 (rfC (Cl.new nu sv) RfM.zero) from htb ▸ Blk.new w2 _ _)
    rw [← hg]
    rw [← htb]
    clear htb hg
    go_loopw [46] (fun i wr => ∃ j : Nat, j ≤ l2.length ∧ i = .int .i64 j ∧ ∃ c M F Mr Fr, BoL w wr g c M F c Mr Fr (fun k => k = tb) ∧ c.Ok ∧ c.done.length ≤ j ∧ Blk wr tb 38 (rfC c Mr)) (fun i _ => l2.length - (intOf i).toNat)
    case atStart => exact ⟨0, by omega, rfl, Cl.new nu sv, ClM.zero, _, RfM.zero, _, HB3.out, HOk0.out, by simp [Cl.new], HT3.out⟩
    case round =>
      clear HB3 HT3 HOk0 HBo HCv HX0
      obtain ⟨j, hj, rfl, c, M, F, Mr, Fr, hB, hOk, hdl, hTb⟩ := hrel
      have HB := Lib.hid hB
      have HOk := Lib.hid hOk
      have HTb := Lib.hid hTb
      clear hB hOk hTb
      by_cases hjk : j < l2.length
      · have ha : l2[j]? = some (l2[j]'hjk) := List.getElem?_eq_getElem _
        have hoo := HO2.out _ (List.getElem_mem hjk)
        have hlk := HLk.out _ (List.getElem_mem hjk)
        obtain ⟨a, off, rfl, -, -, hc⟩ := (HS2.out.touch HB.out.cv.t (fun _ _ e => e)).at_ (fun a _ => a.len) rfl ha
        generalize l2[j]'hjk = o at *
        have HRg := Lib.hid (show wr.rangeAt a (off + j * 32) o.arr.toList from fun k u hk => by rw [Nat.add_assoc]; exact hc k u hk)
        have HOn := Lib.hid o.size
        have HO1 := Lib.hid o.one
        have HTA := Lib.hid ((Touch.refl (fun _ => False) wr).alloc (.cells o.arr 49))
        have HBA := Lib.hid (HB.out.far HTA.out)
        have HTbA := Lib.hid (HTA.out.blk HTb.out (fun e => e))
        have HBo := Lib.hid (Blk.new wr 49 o.arr)
        have HDo := Lib.hid (do38_any HBA.out HOk.out o hoo hlk (by omega) (by omega))
        rw [tellB_self] at HDo
        have hok2 := stepC_ok (cr := c) HOk.out hoo hlk
        have hdl2 := stepC_len (o := o) (c := c) (cr := c)
        obtain ⟨c3, hc3⟩ : ∃ c3, c3 = stepC o c c := ⟨_, rfl⟩
        unfold DoP38 at HDo
        rw [← hc3] at HDo hok2 hdl2
        have HOk2 := Lib.hid hok2
        have HZn := Lib.hid (show (#[.int .u64 0, .int .i64 0, .int .u64 0, .int .i64 0, .int .i64 0, .bool false, .int .i64 0, .int .u64 0, .int .u64 0, .int .u64 0, .int .i64 0, .int .i64 0, .int .i64 0, .slice none 0 0, .slice none 0 0, .int .i64 0, .slice none 0 0, .int .i64 0, .int .i64 0, .slice none 0 0] : Array Value).size = 20 from rfl)
        have HXn := Lib.hid (rfC_size (c := c) HB.out.rf.dn)
        have htl := HTb.out.lt
        have hd3 : c3.done.length ≤ j + 1 := by omega
        have hd4 : c3.done.length ≤ 100000 := by omega
        generalize rfC c Mr = X0 at *
        generalize o.arr = OC at *
        clear hc ha hoo hlk hc3 hok2 hdl2
        go_wp2_with (first
          | (refine loadC rowOpC _ rfl rfl a (off + j * 32) rfl OC HOn.out HRg.out ?_)
          | (refine storeC rowOpC _ _ rfl rfl wr _ OC rfl rfl rfl (by kernel_rfl) HOn.out HO1.out ?_)
          | ((with_reducible apply HTbA.out.ld rowRf HXn.out); exact rfl; exact rfl; exact rfl)
          | ((with_reducible apply HBo.out.ld rowOpC HOn.out); exact rfl; exact rfl; exact rfl)
          | (go_at_call 10; go_must (refine HDo.out.mono ?_); rintro e w3 ⟨M3, F3, Mr3, Fr3, rfl, hb3, t3⟩
             have HB3 := Lib.hid hb3
             have HTb3 := Lib.hid (t3.blk HTbA.out (fun e => e.2 rfl))
             have HN3 := Lib.hid (Blk.new w3 38 #[.int .u64 0, .int .i64 0, .int .u64 0, .int .i64 0, .int .i64 0, .bool false, .int .i64 0, .int .u64 0, .int .u64 0, .int .u64 0, .int .i64 0, .int .i64 0, .int .i64 0, .slice none 0 0, .slice none 0 0, .int .i64 0, .slice none 0 0, .int .i64 0, .int .i64 0, .slice none 0 0])
             have HX3n := Lib.hid (rfC_size (c := c3) hb3.rf.dn)
             have HX31 := Lib.hid (rfC_one (c := c3) hb3.rf.d1 hb3.rf.dv1)
             have HLk3 := Lib.hid (fun (u : World) (hb : BoL w u g c3 M3 F3 c3 Mr3 Fr3 (fun k => k = tb)) => like38_any hb.cv.at_ hb.cv.lt hb.rf (fun k hk => (hb.fr k hk).1) hd4)
             obtain ⟨X3, hX3⟩ : ∃ X3, X3 = rfC c3 Mr3 := ⟨_, rfl⟩
             rw [← hX3] at HX3n HX31 HLk3 ⊢
             have HX3 := Lib.hid hX3
             have htl3 := HTb3.out.lt
             clear hb3 t3 hX3)
          | ((with_reducible apply HN3.out.st rowRf HZn.out HX3n.out HX31.out); exact rfl; exact rfl; exact rfl; exact rfl
             intro w4 hb4 t4
             have HN4 := Lib.hid hb4
             have HT4 := Lib.hid (show Touch (fun _ => False) w3 w4 from ((Touch.refl (fun _ => False) w3).alloc (.cells #[.int .u64 0, .int .i64 0, .int .u64 0, .int .i64 0, .int .i64 0, .bool false, .int .i64 0, .int .u64 0, .int .u64 0, .int .u64 0, .int .i64 0, .int .i64 0, .int .i64 0, .slice none 0 0, .slice none 0 0, .int .i64 0, .slice none 0 0, .int .i64 0, .int .i64 0, .slice none 0 0] 38)).trans t4 (fun k hk e => by omega))
             have HTb4 := Lib.hid (HT4.out.blk HTb3.out (fun e => e))
             have HB4 := Lib.hid (HB3.out.far HT4.out)
             clear hb4 t4)
          | ((with_reducible apply HN4.out.ld rowRf HX3n.out); exact rfl; exact rfl; exact rfl)
          | ((with_reducible apply HTb4.out.st rowRf HXn.out HX3n.out HX31.out); exact rfl; exact rfl; exact rfl; exact rfl
             intro w5 hb5 t5
             have HTb5 := Lib.hid hb5
             have HB5 := Lib.hid (HB4.out.zset t5 (fun k e => e))
             clear hb5 t5)
          | ((with_reducible apply HTb5.out.ld rowRf HX3n.out); exact rfl; exact rfl; exact rfl)
          | (go_at_call 15; go_must (refine (HLk3.out _ (by exact HB5.out)).mono ?_); rintro e w6 ⟨rfl, t6⟩
             have HB6 := Lib.hid (HB5.out.far t6)
             have HTb6 := Lib.hid (t6.blk HTb5.out (fun e => e))
             clear t6))
        go_roundw
        case rel => exact ⟨j + 1, by omega, by go_num, c3, M3, F3, Mr3, Fr3, HB6.out, HOk2.out, hd3, HX3.out ▸ HTb6.out⟩
        case measure => simp [intOf]; omega
      · obtain rfl : j = l2.length := by omega
        go_wp2_with (go_at_call 7; go_must (refine (lives38_any _).mono ?_); rintro e w3 ⟨rfl, t3⟩; have HTz := Lib.hid (HB.out.cv.t.trans t3 (fun _ _ e => e)); clear t3)
        go_ret
        exact ⟨rfl, HTz.out.below⟩
  · have HNew := Lib.hid (fun w1 => clnew_no nu a1 (by omega) w1)
    have hc : (nu : Int) < 1 ∨ (¬ (nu : Int) < 1 ∧ 8 < (nu : Int)) ∨ ((¬ (nu : Int) < 1 ∧ ¬ 8 < (nu : Int)) ∧ a1 < 1) ∨ ((¬ (nu : Int) < 1 ∧ ¬ 8 < (nu : Int)) ∧ ¬ a1 < 1 ∧ 7 < a1) := by omega
    clear hv k1
    rcases hc with v1 | ⟨v1, v2⟩ | ⟨⟨v1, v2⟩, v3⟩ | ⟨⟨v1, v2⟩, v3, v4⟩
    all_goals
      go_enter Try.func4, Try.ntmps4
      go_wp2_with (first
        | (go_at_call 6; go_must (refine HLi.out.mono ?_); rintro e w1 ⟨rfl, t1⟩; have HT1 := Lib.hid t1; clear t1)
        | (go_at_call 8; go_must (refine (HNew.out _).mono ?_); rintro e w2 ⟨rfl, rfl⟩)
        | (go_at_call 7; go_must (refine (lives38_any _).mono ?_); rintro e w3 ⟨rfl, t3⟩; have HTz := Lib.hid (HT1.out.trans t3 (fun _ _ e => e)); clear t3))
      go_ret
      exact ⟨rfl, HTz.out.below⟩
end Go.Proofs.Ytlcefchbfjfifaa
end
