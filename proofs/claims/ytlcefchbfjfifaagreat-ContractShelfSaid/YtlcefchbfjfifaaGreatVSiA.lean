/- law14.like. (written by genlk.py) -/
import Derived.Test.YtlcefchbfjfifaaGreatVShS
import Derived.Test.YtlcefchbfjfifaaGreatVCkPl
namespace Go.Proofs.YtlcefchbfjfifaaGreat
open Go.RowKit Cal Go.Maps
set_option maxHeartbeats 4000000
set_option maxRecDepth 100000
set_option linter.unusedVariables false
attribute [local irreducible] wpPlan

/-- What like leaves: the shelf, one of its clocks perhaps made. -/
def LkP14 (g b1 b2 : Nat) (S : Shl) (x : Int → Nat) (R X Y : Nat → Prop) (w : World) (e : Ending) (w' : World) : Prop :=
  e = .returned (.bool true) ∧ ∃ R' Y', ShAt w' g b1 b2 S x R' X Y' ∧ (∀ q, R' q → R q ∨ (w.heap.size ≤ q ∧ q < w'.heap.size)) ∧ (∀ q, Y' q → Y q ∨ (w.heap.size ≤ q ∧ q < w'.heap.size)) ∧ Touch X w w'
theorem fsameK_yes (F F' : Nat → Prop) (A A' : Option Addr) (n n' : Nat) (c : Co) (hl : c.lv.length ≤ 1000) (w : World) (hr : SpR w F A c.lv.length c.lv) (hr' : SpR w F' A' c.lv.length c.lv) :
    Calls Tryz.prog 12 #[.agg (conA c A n), .agg (conA c A' n')] w fun e w' => e = .returned (.bool true) ∧ Touch (fun _ => False) w w' := by
  have := fksame_any F F' A A' n n' c c w hr hr' (by omega)
  rw [sameK_self] at this
  exact this
theorem fsameC_yes (F F' : Nat → Prop) (A B A' B' : Option Addr) (k m k' m' : Nat) (c : Ca) (h1 : c.wk.length ≤ 1000) (h2 : c.cl.length ≤ 1000) (w : World) (hr : CaR w F c A B) (hr' : CaR w F' c A' B') :
    Calls Tryz.prog 67 #[.agg (caA c A B k m), .agg (caA c A' B' k' m')] w fun e w' => e = .returned (.bool true) ∧ Touch (fun _ => False) w w' := by
  have := fcsame_any F F' A B A' B' k m k' m' c c w hr hr' (by omega) (by omega)
  rw [sameC_self] at this
  exact this
theorem cplainA_any (k a p b : Nat) (c : Ca) (G : Nat → Prop) (w : World) (h : CkAt w k a p b c G) :
    Calls Tryz.prog 69 #[.pointer (some ⟨k, 0, none⟩)] w fun e w' => ∃ A B n m, e = .returned (.agg (caA c A B n m)) ∧ CaR w' (fun q => w.heap.size ≤ q) c A B ∧ Touch (fun _ => False) w w' := by
  refine (cplain_any k a p b c G w h).mono ?_
  rintro e w' ⟨A, n, B, m, rfl, hr, t⟩
  exact ⟨A, B, n, m, rfl, hr, t⟩
theorem caN_zero : caA caN none none 0 0 = #[.int .i64 0, .slice none 0 0, .slice none 0 0] := rfl
theorem like14_yy {w : World} {g b1 b2 : Nat} {S : Shl} {x : Int → Nat} {R X Y : Nat → Prop} (h : ShAt w g b1 b2 S x R X Y) (F : Nat → Prop) (C : Array Value) (hr : RfS w F S C) (hF : ∀ q, F q → ¬ X q) (n : Int) (hn : inN n) (hs : (S.con n).isSome = true) (hp : ∃ p, S.cal n = some p) :
    Calls Tryz.prog 34 #[.pointer (some ⟨g, 0, none⟩), .agg C, .int .i64 n] w (LkP14 g b1 b2 S x R X Y w) := by
  obtain ⟨p, hp⟩ := hp
  have HT0 := Lib.hid ((Touch.refl (fun _ => False) w).alloc (.cells C 62))
  have HB0 := Lib.hid (Blk.new w 62 C)
  have HH := Lib.hid h
  have HRf := Lib.hid hr
  have HFx := Lib.hid hF
  have hgl := h.gl
  have hok := h.ok
  have HOk := Lib.hid hok
  have HTe := Lib.hid (fun w1 (t : Touch (fun _ => False) w w1) => hterms_any (h.far t) n hn)
  have HFt := Lib.hid (fun w1 (t : Touch (fun _ => False) w w1) => fterms_any F S hok C w1 (hr.far t) n hn)
  have HPl := Lib.hid (fun w1 (t : Touch (fun _ => False) w w1) => hplain_any (h.far t) n hn)
  unfold TerP at HTe
  unfold FtP at HFt
  unfold PlnS at HPl
  have HCN := Lib.hid hr.n
  have hl6 := termsV_len hok n
  have hlp := plainV_len hok n
  have HSk := Lib.hid (fun A A' n1 n2 w1 (F F' : Nat → Prop) hr1 hr2 => fsameK_yes F F' A A' n1 n2 (termsV S n) (by omega) w1 hr1 hr2)
  have HZk := Lib.hid (show (#[.int .i64 0, .slice none 0 0, .int .i64 0, .int .i64 0] : Array Value).size = 4 from rfl)
  have HZc := Lib.hid (show (#[.int .i64 0, .slice none 0 0, .slice none 0 0] : Array Value).size = 3 from rfl)
  have HKn := Lib.hid (fun A1 k1 => (show (conA (termsV S n) A1 k1).size = 4 from rfl))
  have HK1 := Lib.hid (fun A1 k1 => conA_one (termsV S n) A1 k1)
  have HCn := Lib.hid (fun (d : Ca) A1 B1 k1 m1 => (show (caA d A1 B1 k1 m1).size = 3 from rfl))
  have HC1 := Lib.hid (fun (d : Ca) A1 B1 k1 m1 => caA_one d A1 B1 k1 m1)
  have HPn := Lib.hid (fun A1 B1 k1 m1 => HCn.out (plainV S n) A1 B1 k1 m1)
  have HP1 := Lib.hid (fun A1 B1 k1 m1 => HC1.out (plainV S n) A1 B1 k1 m1)
  obtain ⟨i, rfl⟩ := Int.eq_ofNat_of_zero_le (HOk.out.cal n _ hp).1.1
  have hi8 : i < 8 := by have := (HOk.out.cal _ _ hp).1.2; omega
  have hi8' : (i : Int) < 8 := by omega
  have HLb := Lib.hid (show C[i]? = some (.bool true) by rw [HRf.out.lb i hi8, hp]; rfl)
  rw [show (S.cal (i : Int)).isSome = true by rw [hp]; rfl] at HPl
  obtain ⟨AL, BL, kL, mL, hLE, hLR⟩ := HRf.out.cal hi8
  have HLr := Lib.hid (fun w1 (t : Touch (fun _ => False) w w1) => CaR.touch hLR t (fun _ _ e => e))
  have HSc := Lib.hid (fun A B k m (F1 : Nat → Prop) w1 hr1 hr2 => fsameC_yes F1 F A B AL BL k m kL mL (plainV S i) (by omega) (by omega) w1 hr1 hr2)
  obtain ⟨L, hL⟩ : ∃ L, L = caA (plainV S i) AL BL kL mL := ⟨_, rfl⟩
  have HLn := Lib.hid (show L.size = 3 by rw [hL]; rfl)
  have HLe := Lib.hid (hLE.trans hL.symm)
  rw [← hL] at HSc
  clear hLE hLR hL hp
  rw [hs] at HTe HFt
  generalize conA (termsV S i) = CK at *
  generalize caA (plainV S i) = CP at *
  clear h hr hF hok hl6 hlp
  go_enter Tryz.func34, Tryz.ntmps34
  go_wp2_with (first
    | (go_at_call 27; go_must (refine (HTe.out _ (by exact HT0.out)).mono ?_); rintro e w1 ⟨A1, k1, rfl, hr1, t1⟩
       have HT1 := Lib.hid (HT0.out.trans t1 (fun _ _ e => e))
       have HB1 := Lib.hid (t1.blk HB0.out (fun e => e))
       have HR1 := Lib.hid hr1
       have HNa := Lib.hid (Blk.new w1 24 #[.int .i64 0, .slice none 0 0, .int .i64 0, .int .i64 0])
       have HKa := Lib.hid (HKn.out A1 k1)
       have HKb := Lib.hid (HK1.out A1 k1)
       clear t1 hr1)
    | ((with_reducible apply HNa.out.st rowCo HZk.out HKa.out HKb.out); exact rfl; exact rfl; exact rfl; exact rfl
       intro w2 hb2 t2
       have tA := ((Touch.refl (fun _ => False) w1).alloc (.cells #[.int .i64 0, .slice none 0 0, .int .i64 0, .int .i64 0] 24)).trans t2 (S := fun _ => False) (fun q hq e => by omega)
       have HT2 := Lib.hid (HT1.out.trans tA (fun _ _ e => e))
       have HT12 := Lib.hid tA
       have HB2 := Lib.hid (tA.blk HB1.out (fun e => e))
       have HC2 := Lib.hid hb2
       clear hb2 t2 tA)
    | ((with_reducible apply HB2.out.ld rowSf HCN.out); exact rfl; exact rfl; exact rfl)
    | (go_at_call 66; go_must (refine (HFt.out _ (by exact HT2.out)).mono ?_); rintro e w3 ⟨A3, k3, rfl, hr3, t3⟩
       have HT3 := Lib.hid (HT2.out.trans t3 (fun _ _ e => e))
       have HT13 := Lib.hid (HT12.out.trans t3 (fun _ _ e => e))
       have HC3 := Lib.hid (t3.blk HC2.out (fun e => e))
       have HR3 := Lib.hid hr3
       have HB3 := Lib.hid (t3.blk HB2.out (fun e => e))
       have HNc := Lib.hid (Blk.new w3 24 #[.int .i64 0, .slice none 0 0, .int .i64 0, .int .i64 0])
       have HKc := Lib.hid (HKn.out A3 k3)
       have HKd := Lib.hid (HK1.out A3 k3)
       clear t3 hr3)
    | ((with_reducible apply HNc.out.st rowCo HZk.out HKc.out HKd.out); exact rfl; exact rfl; exact rfl; exact rfl
       intro w4 hb4 t4
       have tA := ((Touch.refl (fun _ => False) w3).alloc (.cells #[.int .i64 0, .slice none 0 0, .int .i64 0, .int .i64 0] 24)).trans t4 (S := fun _ => False) (fun q hq e => by omega)
       have HT4 := Lib.hid (HT3.out.trans tA (fun _ _ e => e))
       have HT14 := Lib.hid (HT13.out.trans tA (fun _ _ e => e))
       have HC4 := Lib.hid (tA.blk HC3.out (fun e => e))
       have HD4 := Lib.hid hb4
       have HR4 := Lib.hid (HR3.out.touch tA (fun _ _ e => e))
       have HB4 := Lib.hid (tA.blk HB3.out (fun e => e))
       clear hb4 t4 tA)
    | ((with_reducible apply HC4.out.ld rowCo HKa.out); exact rfl; exact rfl; exact rfl)
    | ((with_reducible apply HD4.out.ld rowCo HKc.out); exact rfl; exact rfl; exact rfl)
    | (go_at_call 12; go_must (refine (HSk.out _ _ _ _ _ _ _ (by exact HR1.out.touch HT14.out (fun _ _ e => e)) (by exact HR4.out)).mono ?_); rintro e w5 ⟨rfl, t5⟩
       have HT5 := Lib.hid (HT4.out.trans t5 (fun _ _ e => e))
       have HB5 := Lib.hid (t5.blk HB4.out (fun e => e))
       clear t5)
    | (go_at_call 31; go_must (refine (HPl.out _ (by exact HT5.out)).mono ?_); rintro e w6 ⟨A6, B6, k6, m6, rfl, hr6, t6⟩
       have HT6 := Lib.hid (HT5.out.trans t6 (fun _ _ e => e))
       have HB6 := Lib.hid (t6.blk HB5.out (fun e => e))
       have HR6 := Lib.hid hr6
       have HNe := Lib.hid (Blk.new w6 51 #[.int .i64 0, .slice none 0 0, .slice none 0 0])
       have HKe := Lib.hid (HPn.out A6 B6 k6 m6)
       have HKf := Lib.hid (HP1.out A6 B6 k6 m6)
       clear t6 hr6)
    | ((with_reducible apply HNe.out.st rowCa HZc.out HKe.out HKf.out); exact rfl; exact rfl; exact rfl; exact rfl
       intro w7 hb7 t7
       have tA := ((Touch.refl (fun _ => False) w6).alloc (.cells #[.int .i64 0, .slice none 0 0, .slice none 0 0] 51)).trans t7 (S := fun _ => False) (fun q hq e => by omega)
       have HT7 := Lib.hid (HT6.out.trans tA (fun _ _ e => e))
       have HB7 := Lib.hid (tA.blk HB6.out (fun e => e))
       have HC7 := Lib.hid hb7
       have HR7 := Lib.hid (CaR.touch HR6.out tA (fun _ _ e => e))
       have x7 := HB7.out.cell i
       rw [HLb.out] at x7
       clear hb7 t7 tA))
  obtain ⟨W8, hW8⟩ : ∃ W8, W8 = w7.drew := ⟨_, rfl⟩
  have HT78 := Lib.hid (show Touch (fun _ => False) w7 W8 from hW8 ▸ (Touch.refl _ w7).drew)
  have HB8 := Lib.hid (HT78.out.blk HB7.out (fun e => e))
  have HC8 := Lib.hid (HT78.out.blk HC7.out (fun e => e))
  have HT8 := Lib.hid (HT7.out.trans HT78.out (fun _ _ e => e))
  have HR8 := Lib.hid (CaR.touch HR7.out HT78.out (fun _ _ e => e))
  clear x7
  refine wp_region_plan [(0, 0), (0, 1), (0, 2), (0, 3), (0, 4), (0, 5), (1, 6), (0, 7), (0, 8), (0, 9), (1, 10), (2, 11), (0, 12), (0, 13), (0, 14), (0, 15), (0, 16), (0, 17), (0, 18), (1, 19), (0, 20), (2, 21), (0, 22), (0, 23), (0, 24)] (fun _ => False) (by kernel_rfl) (by kernel_rfl) (fun c a d v w h => by cases d <;> exact h) ?_
  rw [← hW8]
  clear hW8
  iterate 6
    refine plan_s rfl fun Kc hKc => ?_
    go_simp
    first
      | (refine hKc _ ?_)
    clear hKc Kc
  refine plan_hC rowCa rfl _ rfl rfl w6.heap.size 0 rfl _ HKe.out (fun wh hT => (hT.blk HC8.out (fun e => e)).whole) ?_
  go_simp
  iterate 3
    refine plan_s rfl fun Kc hKc => ?_
    go_simp
    first
      | (refine hKc _ ?_)
    clear hKc Kc
  refine plan_hC rowCa rfl _ rfl rfl w.heap.size (8 + i * 3) rfl L HLn.out (fun wh hT => HLe.out ▸ (hT.blk HB8.out (fun e => e)).range (8 + i * 3) 3) ?_
  go_simp
  refine plan_a1 rfl (by rfl) (fun Kc hKc => ?_)
  go_simp
  refine (HSc.out _ _ _ _ _ _ (by exact HR8.out) (by exact HLr.out _ HT8.out)).mono ?_
  rintro e w9 ⟨rfl, t9⟩
  refine hKc _ _ ⟨t9, ?_⟩
  clear hKc Kc
  have HT9 := Lib.hid (HT8.out.trans t9 (fun _ _ e => e))
  have HB9 := Lib.hid (t9.blk HB8.out (fun e => e))
  clear t9
  iterate 7
    refine plan_s rfl fun Kc hKc => ?_
    go_simp
    first
      | (refine hKc _ ?_)
    clear hKc Kc
  iterate 1
    refine plan_hn rfl (by rfl) ?_
    go_frame
  iterate 1
    refine plan_s rfl fun Kc hKc => ?_
    go_simp
    first
      | (refine hKc _ ?_)
    clear hKc Kc
  refine plan_a rfl fun Kc hKc => ?_
  go_simp
  refine hKc _ _ ⟨Touch.refl _ _, ?_⟩
  clear hKc Kc
  iterate 3
    refine plan_s rfl fun Kc hKc => ?_
    go_simp
    first
      | (refine hKc _ ?_)
    clear hKc Kc
  refine plan_done ?_
  obtain ⟨c, hc⟩ : ∃ c, S.con (i : Int) = some c := Option.isSome_iff_exists.1 hs
  obtain ⟨d, hd⟩ : ∃ d, S.cal c.cal = some d := Option.isSome_iff_exists.1 (HOk.out.con (i : Int) c hc).2.2
  have hcv : clkV S (i : Int) = d := by
    unfold clkV; rw [if_pos hs]; unfold termsV plainV; rw [hc]; simp only [Option.getD_some]; rw [hd]; rfl
  have hdl := checkE_len (HOk.out.cal _ d hd).2
  have HXc := Lib.hid (HH.out.xX _ d hd)
  have HCk := Lib.hid (hclock_yes (HH.out.far HT9.out) (i : Int) hn hc hd)
  have HFk := Lib.hid (fun w1 (t : Touch X w w1) => fclock_any F S HOk.out C w1 (HRf.out.touch t HFx.out) (i : Int) hn)
  unfold FcP at HFk
  rw [hs, hcv] at HFk
  unfold HckP at HCk
  have HKN := Lib.hid (fun A1 B1 k1 m1 => HCn.out d A1 B1 k1 m1)
  have HKO := Lib.hid (fun A1 B1 k1 m1 => HC1.out d A1 B1 k1 m1)
  have HSd := Lib.hid (fun A B k m A' B' k' m' (F F' : Nat → Prop) w1 hr1 hr2 => fsameC_yes F F' A B A' B' k m k' m' d (by omega) (by omega) w1 hr1 hr2)
  have HPd := Lib.hid (fun k a p b G w1 h => cplainA_any k a p b d G w1 h)
  obtain ⟨xc, hxc⟩ : ∃ xc, xc = x c.cal := ⟨_, rfl⟩
  rw [← hxc] at HXc HCk
  generalize hCQ : caA d = CQ at *
  have hgx : w.heap.size ≠ xc := by have := HH.out.lt _ (.inr (.inl HXc.out)); omega
  clear hs hc hd hcv hdl hxc hCQ
  go_wp2_with (first
    | (go_at_call 32; go_must (refine HCk.out.mono ?_); rintro e wa ⟨kk, aa, pp, bb, R', Y', rfl, hsh, hck, hyb, hR', hY', ta⟩
       have HTa := Lib.hid ((HT9.out.mono (S' := X) (fun _ _ e => e.elim)).trans ta (fun q hq e => e ▸ HXc.out))
       have HBa := Lib.hid (ta.blk HB9.out hgx)
       have HSh := Lib.hid hsh
       have HCka := Lib.hid hck
       have HRY := Lib.hid (And.intro hR' hY')
       clear ta hsh hck hyb hR' hY')
    | ((with_reducible apply HBa.out.ld rowSf HCN.out); exact rfl; exact rfl; exact rfl)
    | (go_at_call 68; go_must (refine (HFk.out _ (by exact HTa.out)).mono ?_); rintro e wb ⟨Ab, Bb, kb, mb, rfl, hrb, tb⟩
       have HTab := Lib.hid tb
       have HRb := Lib.hid hrb
       have HNg := Lib.hid (Blk.new wb 51 #[.int .i64 0, .slice none 0 0, .slice none 0 0])
       have HKg := Lib.hid (HKN.out Ab Bb kb mb)
       have HKh := Lib.hid (HKO.out Ab Bb kb mb)
       clear tb hrb)
    | ((with_reducible apply HNg.out.st rowCa HZc.out HKg.out HKh.out); exact rfl; exact rfl; exact rfl; exact rfl
       intro wc hbc tc
       have tA := ((Touch.refl (fun _ => False) wb).alloc (.cells #[.int .i64 0, .slice none 0 0, .slice none 0 0] 51)).trans tc (S := fun _ => False) (fun q hq e => by omega)
       have HTac := Lib.hid (HTab.out.trans tA (fun _ _ e => e))
       have HBc := Lib.hid hbc
       have HRc := Lib.hid (CaR.touch HRb.out tA (fun _ _ e => e))
       clear hbc tc tA))
  obtain ⟨WD, hWD⟩ : ∃ WD, WD = wc.drew := ⟨_, rfl⟩
  have HTcD := Lib.hid (show Touch (fun _ => False) wc WD from hWD ▸ (Touch.refl _ wc).drew)
  have HTaD := Lib.hid (HTac.out.trans HTcD.out (fun _ _ e => e))
  have HBD := Lib.hid (HTcD.out.blk HBc.out (fun e => e))
  have HRD := Lib.hid (CaR.touch HRc.out HTcD.out (fun _ _ e => e))
  refine wp_region_plan [(0, 0), (0, 1), (0, 2), (0, 3), (0, 4), (0, 5), (0, 6), (0, 7), (0, 8), (0, 9), (0, 10), (1, 12), (2, 11), (2, 13), (0, 14), (0, 15), (0, 16), (0, 17)] (fun _ => False) (by kernel_rfl) (by kernel_rfl) (fun c a d v w h => by cases d <;> exact h) ?_
  rw [← hWD]
  clear hWD
  iterate 11
    refine plan_s rfl fun Kc hKc => ?_
    go_simp
    first
      | (refine hKc _ ?_)
    clear hKc Kc
  refine plan_hC rowCa rfl _ rfl rfl wb.heap.size 0 rfl _ HKg.out (fun wh hT => (hT.blk HBD.out (fun e => e)).whole) ?_
  go_simp
  refine plan_a1 rfl (by rfl) (fun Kc hKc => ?_)
  go_simp
  refine (HPd.out kk aa pp bb _ _ (by exact HCka.out.none HTaD.out)).mono ?_
  rintro e we ⟨Ae, Be, ke, me, rfl, hre, te⟩
  refine hKc _ _ ⟨te, ?_⟩
  clear hKc Kc
  have HRe := Lib.hid hre
  have HTe2 := Lib.hid te
  clear hre te
  refine plan_a1 rfl (by rfl) (fun Kc hKc => ?_)
  go_simp
  refine (HSd.out _ _ _ _ _ _ _ _ _ _ _ (by exact HRe.out) (by exact CaR.touch HRD.out HTe2.out (fun _ _ e => e))).mono ?_
  rintro e wf ⟨rfl, tf⟩
  refine hKc _ _ ⟨tf, ?_⟩
  clear hKc Kc
  have HTaf := Lib.hid ((HTaD.out.trans HTe2.out (fun _ _ e => e)).trans tf (fun _ _ e => e))
  clear tf
  iterate 4
    refine plan_s rfl fun Kc hKc => ?_
    go_simp
    first
      | (refine hKc _ ?_)
    clear hKc Kc
  refine plan_done ?_
  go_wp2_with fail
  go_ret
  have hz9 := HT9.out.size
  have hzf := HTaf.out.size
  exact ⟨rfl, R', Y', HSh.out.far HTaf.out, (fun q hq => by rcases HRY.out.1 q hq with h1 | h1; exact .inl h1; exact .inr (by omega)), (fun q hq => by rcases HRY.out.2 q hq with h1 | h1; exact .inl h1; exact .inr (by omega)), HTa.out.trans HTaf.out (fun _ _ e => e.elim)⟩
theorem like14_yn {w : World} {g b1 b2 : Nat} {S : Shl} {x : Int → Nat} {R X Y : Nat → Prop} (h : ShAt w g b1 b2 S x R X Y) (F : Nat → Prop) (C : Array Value) (hr : RfS w F S C) (hF : ∀ q, F q → ¬ X q) (n : Int) (hn : inN n) (hs : (S.con n).isSome = false) (hp : ∃ p, S.cal n = some p) :
    Calls Tryz.prog 34 #[.pointer (some ⟨g, 0, none⟩), .agg C, .int .i64 n] w (LkP14 g b1 b2 S x R X Y w) := by
  obtain ⟨p, hp⟩ := hp
  have HT0 := Lib.hid ((Touch.refl (fun _ => False) w).alloc (.cells C 62))
  have HB0 := Lib.hid (Blk.new w 62 C)
  have HH := Lib.hid h
  have HRf := Lib.hid hr
  have HFx := Lib.hid hF
  have hgl := h.gl
  have hok := h.ok
  have HOk := Lib.hid hok
  have HTe := Lib.hid (fun w1 (t : Touch (fun _ => False) w w1) => hterms_any (h.far t) n hn)
  have HFt := Lib.hid (fun w1 (t : Touch (fun _ => False) w w1) => fterms_any F S hok C w1 (hr.far t) n hn)
  have HPl := Lib.hid (fun w1 (t : Touch (fun _ => False) w w1) => hplain_any (h.far t) n hn)
  unfold TerP at HTe
  unfold FtP at HFt
  unfold PlnS at HPl
  have HCN := Lib.hid hr.n
  have hl6 := termsV_len hok n
  have hlp := plainV_len hok n
  have HSk := Lib.hid (fun A A' n1 n2 w1 (F F' : Nat → Prop) hr1 hr2 => fsameK_yes F F' A A' n1 n2 (termsV S n) (by omega) w1 hr1 hr2)
  have HZk := Lib.hid (show (#[.int .i64 0, .slice none 0 0, .int .i64 0, .int .i64 0] : Array Value).size = 4 from rfl)
  have HZc := Lib.hid (show (#[.int .i64 0, .slice none 0 0, .slice none 0 0] : Array Value).size = 3 from rfl)
  have HKn := Lib.hid (fun A1 k1 => (show (conA (termsV S n) A1 k1).size = 4 from rfl))
  have HK1 := Lib.hid (fun A1 k1 => conA_one (termsV S n) A1 k1)
  have HCn := Lib.hid (fun (d : Ca) A1 B1 k1 m1 => (show (caA d A1 B1 k1 m1).size = 3 from rfl))
  have HC1 := Lib.hid (fun (d : Ca) A1 B1 k1 m1 => caA_one d A1 B1 k1 m1)
  have HPn := Lib.hid (fun A1 B1 k1 m1 => HCn.out (plainV S n) A1 B1 k1 m1)
  have HP1 := Lib.hid (fun A1 B1 k1 m1 => HC1.out (plainV S n) A1 B1 k1 m1)
  obtain ⟨i, rfl⟩ := Int.eq_ofNat_of_zero_le (HOk.out.cal n _ hp).1.1
  have hi8 : i < 8 := by have := (HOk.out.cal _ _ hp).1.2; omega
  have hi8' : (i : Int) < 8 := by omega
  have HLb := Lib.hid (show C[i]? = some (.bool true) by rw [HRf.out.lb i hi8, hp]; rfl)
  rw [show (S.cal (i : Int)).isSome = true by rw [hp]; rfl] at HPl
  obtain ⟨AL, BL, kL, mL, hLE, hLR⟩ := HRf.out.cal hi8
  have HLr := Lib.hid (fun w1 (t : Touch (fun _ => False) w w1) => CaR.touch hLR t (fun _ _ e => e))
  have HSc := Lib.hid (fun A B k m (F1 : Nat → Prop) w1 hr1 hr2 => fsameC_yes F1 F A B AL BL k m kL mL (plainV S i) (by omega) (by omega) w1 hr1 hr2)
  obtain ⟨L, hL⟩ : ∃ L, L = caA (plainV S i) AL BL kL mL := ⟨_, rfl⟩
  have HLn := Lib.hid (show L.size = 3 by rw [hL]; rfl)
  have HLe := Lib.hid (hLE.trans hL.symm)
  rw [← hL] at HSc
  clear hLE hLR hL hp
  rw [hs] at HTe HFt
  generalize conA (termsV S i) = CK at *
  generalize caA (plainV S i) = CP at *
  clear h hr hF hok hl6 hlp
  have hcn : S.con (i : Int) = none := by
    cases hc : S.con (i : Int) with
    | none => rfl
    | some c => rw [hc] at hs; cases hs
  go_enter Tryz.func34, Tryz.ntmps34
  go_wp2_with (first
    | (go_at_call 27; go_must (refine (HTe.out _ (by exact HT0.out)).mono ?_); rintro e w1 ⟨A1, k1, rfl, hr1, t1⟩
       have HT1 := Lib.hid (HT0.out.trans t1 (fun _ _ e => e))
       have HB1 := Lib.hid (t1.blk HB0.out (fun e => e))
       have HR1 := Lib.hid hr1
       have HNa := Lib.hid (Blk.new w1 24 #[.int .i64 0, .slice none 0 0, .int .i64 0, .int .i64 0])
       have HKa := Lib.hid (HKn.out A1 k1)
       have HKb := Lib.hid (HK1.out A1 k1)
       clear t1 hr1)
    | ((with_reducible apply HNa.out.st rowCo HZk.out HKa.out HKb.out); exact rfl; exact rfl; exact rfl; exact rfl
       intro w2 hb2 t2
       have tA := ((Touch.refl (fun _ => False) w1).alloc (.cells #[.int .i64 0, .slice none 0 0, .int .i64 0, .int .i64 0] 24)).trans t2 (S := fun _ => False) (fun q hq e => by omega)
       have HT2 := Lib.hid (HT1.out.trans tA (fun _ _ e => e))
       have HT12 := Lib.hid tA
       have HB2 := Lib.hid (tA.blk HB1.out (fun e => e))
       have HC2 := Lib.hid hb2
       clear hb2 t2 tA)
    | ((with_reducible apply HB2.out.ld rowSf HCN.out); exact rfl; exact rfl; exact rfl)
    | (go_at_call 66; go_must (refine (HFt.out _ (by exact HT2.out)).mono ?_); rintro e w3 ⟨A3, k3, rfl, hr3, t3⟩
       have HT3 := Lib.hid (HT2.out.trans t3 (fun _ _ e => e))
       have HT13 := Lib.hid (HT12.out.trans t3 (fun _ _ e => e))
       have HC3 := Lib.hid (t3.blk HC2.out (fun e => e))
       have HR3 := Lib.hid hr3
       have HB3 := Lib.hid (t3.blk HB2.out (fun e => e))
       have HNc := Lib.hid (Blk.new w3 24 #[.int .i64 0, .slice none 0 0, .int .i64 0, .int .i64 0])
       have HKc := Lib.hid (HKn.out A3 k3)
       have HKd := Lib.hid (HK1.out A3 k3)
       clear t3 hr3)
    | ((with_reducible apply HNc.out.st rowCo HZk.out HKc.out HKd.out); exact rfl; exact rfl; exact rfl; exact rfl
       intro w4 hb4 t4
       have tA := ((Touch.refl (fun _ => False) w3).alloc (.cells #[.int .i64 0, .slice none 0 0, .int .i64 0, .int .i64 0] 24)).trans t4 (S := fun _ => False) (fun q hq e => by omega)
       have HT4 := Lib.hid (HT3.out.trans tA (fun _ _ e => e))
       have HT14 := Lib.hid (HT13.out.trans tA (fun _ _ e => e))
       have HC4 := Lib.hid (tA.blk HC3.out (fun e => e))
       have HD4 := Lib.hid hb4
       have HR4 := Lib.hid (HR3.out.touch tA (fun _ _ e => e))
       have HB4 := Lib.hid (tA.blk HB3.out (fun e => e))
       clear hb4 t4 tA)
    | ((with_reducible apply HC4.out.ld rowCo HKa.out); exact rfl; exact rfl; exact rfl)
    | ((with_reducible apply HD4.out.ld rowCo HKc.out); exact rfl; exact rfl; exact rfl)
    | (go_at_call 12; go_must (refine (HSk.out _ _ _ _ _ _ _ (by exact HR1.out.touch HT14.out (fun _ _ e => e)) (by exact HR4.out)).mono ?_); rintro e w5 ⟨rfl, t5⟩
       have HT5 := Lib.hid (HT4.out.trans t5 (fun _ _ e => e))
       have HB5 := Lib.hid (t5.blk HB4.out (fun e => e))
       clear t5)
    | (go_at_call 31; go_must (refine (HPl.out _ (by exact HT5.out)).mono ?_); rintro e w6 ⟨A6, B6, k6, m6, rfl, hr6, t6⟩
       have HT6 := Lib.hid (HT5.out.trans t6 (fun _ _ e => e))
       have HB6 := Lib.hid (t6.blk HB5.out (fun e => e))
       have HR6 := Lib.hid hr6
       have HNe := Lib.hid (Blk.new w6 51 #[.int .i64 0, .slice none 0 0, .slice none 0 0])
       have HKe := Lib.hid (HPn.out A6 B6 k6 m6)
       have HKf := Lib.hid (HP1.out A6 B6 k6 m6)
       clear t6 hr6)
    | ((with_reducible apply HNe.out.st rowCa HZc.out HKe.out HKf.out); exact rfl; exact rfl; exact rfl; exact rfl
       intro w7 hb7 t7
       have tA := ((Touch.refl (fun _ => False) w6).alloc (.cells #[.int .i64 0, .slice none 0 0, .slice none 0 0] 51)).trans t7 (S := fun _ => False) (fun q hq e => by omega)
       have HT7 := Lib.hid (HT6.out.trans tA (fun _ _ e => e))
       have HB7 := Lib.hid (tA.blk HB6.out (fun e => e))
       have HC7 := Lib.hid hb7
       have HR7 := Lib.hid (CaR.touch HR6.out tA (fun _ _ e => e))
       have x7 := HB7.out.cell i
       rw [HLb.out] at x7
       clear hb7 t7 tA))
  obtain ⟨W8, hW8⟩ : ∃ W8, W8 = w7.drew := ⟨_, rfl⟩
  have HT78 := Lib.hid (show Touch (fun _ => False) w7 W8 from hW8 ▸ (Touch.refl _ w7).drew)
  have HB8 := Lib.hid (HT78.out.blk HB7.out (fun e => e))
  have HC8 := Lib.hid (HT78.out.blk HC7.out (fun e => e))
  have HT8 := Lib.hid (HT7.out.trans HT78.out (fun _ _ e => e))
  have HR8 := Lib.hid (CaR.touch HR7.out HT78.out (fun _ _ e => e))
  clear x7
  refine wp_region_plan [(0, 0), (0, 1), (0, 2), (0, 3), (0, 4), (0, 5), (1, 6), (0, 7), (0, 8), (0, 9), (1, 10), (2, 11), (0, 12), (0, 13), (0, 14), (0, 15), (0, 16), (0, 17), (0, 18), (1, 19), (0, 20), (2, 21), (0, 22), (0, 23), (0, 24)] (fun _ => False) (by kernel_rfl) (by kernel_rfl) (fun c a d v w h => by cases d <;> exact h) ?_
  rw [← hW8]
  clear hW8
  iterate 6
    refine plan_s rfl fun Kc hKc => ?_
    go_simp
    first
      | (refine hKc _ ?_)
    clear hKc Kc
  refine plan_hC rowCa rfl _ rfl rfl w6.heap.size 0 rfl _ HKe.out (fun wh hT => (hT.blk HC8.out (fun e => e)).whole) ?_
  go_simp
  iterate 3
    refine plan_s rfl fun Kc hKc => ?_
    go_simp
    first
      | (refine hKc _ ?_)
    clear hKc Kc
  refine plan_hC rowCa rfl _ rfl rfl w.heap.size (8 + i * 3) rfl L HLn.out (fun wh hT => HLe.out ▸ (hT.blk HB8.out (fun e => e)).range (8 + i * 3) 3) ?_
  go_simp
  refine plan_a1 rfl (by rfl) (fun Kc hKc => ?_)
  go_simp
  refine (HSc.out _ _ _ _ _ _ (by exact HR8.out) (by exact HLr.out _ HT8.out)).mono ?_
  rintro e w9 ⟨rfl, t9⟩
  refine hKc _ _ ⟨t9, ?_⟩
  clear hKc Kc
  have HT9 := Lib.hid (HT8.out.trans t9 (fun _ _ e => e))
  have HB9 := Lib.hid (t9.blk HB8.out (fun e => e))
  clear t9
  iterate 7
    refine plan_s rfl fun Kc hKc => ?_
    go_simp
    first
      | (refine hKc _ ?_)
    clear hKc Kc
  iterate 1
    refine plan_hn rfl (by rfl) ?_
    go_frame
  iterate 1
    refine plan_s rfl fun Kc hKc => ?_
    go_simp
    first
      | (refine hKc _ ?_)
    clear hKc Kc
  refine plan_a rfl fun Kc hKc => ?_
  go_simp
  refine hKc _ _ ⟨Touch.refl _ _, ?_⟩
  clear hKc Kc
  iterate 3
    refine plan_s rfl fun Kc hKc => ?_
    go_simp
    first
      | (refine hKc _ ?_)
    clear hKc Kc
  refine plan_done ?_
  have HCk := Lib.hid (hclock_no (HH.out.far HT9.out) (i : Int) hn hcn)
  have HFk := Lib.hid (fun w1 (t : Touch (fun _ => False) w w1) => fclock_any F S HOk.out C w1 (HRf.out.far t) (i : Int) hn)
  unfold FcP at HFk
  rw [hs] at HFk
  have hKN := (fun A1 B1 k1 m1 => HCn.out (clkV S (i : Int)) A1 B1 k1 m1)
  have hK1 := (fun A1 B1 k1 m1 => HC1.out (clkV S (i : Int)) A1 B1 k1 m1)
  have HKN := Lib.hid hKN
  have HKO := Lib.hid hK1
  generalize caA (clkV S (i : Int)) = CQ at *
  clear hs hcn hKN hK1
  go_wp2_with (first
    | (go_at_call 32; go_must (refine HCk.out.mono ?_); rintro e wa ⟨rfl, ta⟩
       have HTa := Lib.hid (HT9.out.trans ta (fun _ _ e => e))
       have HBa := Lib.hid (ta.blk HB9.out (fun e => e))
       clear ta)
    | ((with_reducible apply HBa.out.ld rowSf HCN.out); exact rfl; exact rfl; exact rfl)
    | (go_at_call 68; go_must (refine (HFk.out _ (by exact HTa.out)).mono ?_); rintro e wb ⟨Ab, Bb, kb, mb, rfl, hrb, tb⟩
       have HTb := Lib.hid (HTa.out.trans tb (fun _ _ e => e))
       have HNg := Lib.hid (Blk.new wb 51 #[.int .i64 0, .slice none 0 0, .slice none 0 0])
       have HKg := Lib.hid (HKN.out Ab Bb kb mb)
       have HKh := Lib.hid (HKO.out Ab Bb kb mb)
       clear tb hrb)
    | ((with_reducible apply HNg.out.st rowCa HZc.out HKg.out HKh.out); exact rfl; exact rfl; exact rfl; exact rfl
       intro wc hbc tc
       have tA := ((Touch.refl (fun _ => False) wb).alloc (.cells #[.int .i64 0, .slice none 0 0, .slice none 0 0] 51)).trans tc (S := fun _ => False) (fun q hq e => by omega)
       have HTc := Lib.hid (HTb.out.trans tA (fun _ _ e => e))
       clear hbc tc tA))
  obtain ⟨WD, hWD⟩ : ∃ WD, WD = wc.drew := ⟨_, rfl⟩
  have HTD := Lib.hid (show Touch (fun _ => False) w WD from hWD ▸ HTc.out.drew)
  refine wp_region_plan [(0, 0), (0, 1), (0, 2), (0, 3), (0, 4), (0, 5), (0, 6), (0, 7), (0, 8), (0, 9), (0, 10), (1, 12), (2, 11), (2, 13), (0, 14), (0, 15), (0, 16), (0, 17)] (fun _ => False) (by kernel_rfl) (by kernel_rfl) (fun c a d v w h => by cases d <;> exact h) ?_
  rw [← hWD]
  clear hWD
  iterate 11
    refine plan_s rfl fun Kc hKc => ?_
    go_simp
    first
      | (refine hKc _ ?_)
    clear hKc Kc
  iterate 1
    refine plan_hn rfl (by rfl) ?_
    go_frame
  refine plan_a rfl fun Kc hKc => ?_
  go_simp
  refine hKc _ _ ⟨Touch.refl _ _, ?_⟩
  clear hKc Kc
  refine plan_a rfl fun Kc hKc => ?_
  go_simp
  refine hKc _ _ ⟨Touch.refl _ _, ?_⟩
  clear hKc Kc
  iterate 4
    refine plan_s rfl fun Kc hKc => ?_
    go_simp
    first
      | (refine hKc _ ?_)
    clear hKc Kc
  refine plan_done ?_
  go_wp2_with fail
  go_ret
  exact ⟨rfl, R, Y, HH.out.far HTD.out, fun q hq => .inl hq, fun q hq => .inl hq, HTD.out.mono (fun _ _ e => e.elim)⟩
theorem like14_nya {w : World} {g b1 b2 : Nat} {S : Shl} {x : Int → Nat} {R X Y : Nat → Prop} (h : ShAt w g b1 b2 S x R X Y) (F : Nat → Prop) (C : Array Value) (hr : RfS w F S C) (hF : ∀ q, F q → ¬ X q) (n : Int) (hn : inN n) (hs : (S.con n).isSome = true) (hp : S.cal n = none) (h0 : n < 0) :
    Calls Tryz.prog 34 #[.pointer (some ⟨g, 0, none⟩), .agg C, .int .i64 n] w (LkP14 g b1 b2 S x R X Y w) := by
  have HT0 := Lib.hid ((Touch.refl (fun _ => False) w).alloc (.cells C 62))
  have HB0 := Lib.hid (Blk.new w 62 C)
  have HH := Lib.hid h
  have HRf := Lib.hid hr
  have HFx := Lib.hid hF
  have hgl := h.gl
  have hok := h.ok
  have HOk := Lib.hid hok
  have HTe := Lib.hid (fun w1 (t : Touch (fun _ => False) w w1) => hterms_any (h.far t) n hn)
  have HFt := Lib.hid (fun w1 (t : Touch (fun _ => False) w w1) => fterms_any F S hok C w1 (hr.far t) n hn)
  have HPl := Lib.hid (fun w1 (t : Touch (fun _ => False) w w1) => hplain_any (h.far t) n hn)
  unfold TerP at HTe
  unfold FtP at HFt
  unfold PlnS at HPl
  have HCN := Lib.hid hr.n
  have hl6 := termsV_len hok n
  have hlp := plainV_len hok n
  have HSk := Lib.hid (fun A A' n1 n2 w1 (F F' : Nat → Prop) hr1 hr2 => fsameK_yes F F' A A' n1 n2 (termsV S n) (by omega) w1 hr1 hr2)
  have HZk := Lib.hid (show (#[.int .i64 0, .slice none 0 0, .int .i64 0, .int .i64 0] : Array Value).size = 4 from rfl)
  have HZc := Lib.hid (show (#[.int .i64 0, .slice none 0 0, .slice none 0 0] : Array Value).size = 3 from rfl)
  have HKn := Lib.hid (fun A1 k1 => (show (conA (termsV S n) A1 k1).size = 4 from rfl))
  have HK1 := Lib.hid (fun A1 k1 => conA_one (termsV S n) A1 k1)
  have HCn := Lib.hid (fun (d : Ca) A1 B1 k1 m1 => (show (caA d A1 B1 k1 m1).size = 3 from rfl))
  have HC1 := Lib.hid (fun (d : Ca) A1 B1 k1 m1 => caA_one d A1 B1 k1 m1)
  have HPn := Lib.hid (fun A1 B1 k1 m1 => HCn.out (plainV S n) A1 B1 k1 m1)
  have HP1 := Lib.hid (fun A1 B1 k1 m1 => HC1.out (plainV S n) A1 B1 k1 m1)
  rw [hs] at HTe HFt
  rw [show (S.cal n).isSome = false by rw [hp]; rfl] at HPl
  have hpv : plainV S n = caN := plainV_none (by rw [hp]; rfl)
  have HSn := Lib.hid (fun A B k m w1 (F1 : Nat → Prop) (hr1 : CaR w1 F1 (plainV S n) A B) => (show Calls Tryz.prog 67 #[.agg (caA (plainV S n) A B k m), .agg #[.int .i64 0, .slice none 0 0, .slice none 0 0]] w1 fun e w' => e = .returned (.bool true) ∧ Touch (fun _ => False) w1 w' from by
    rw [hpv] at hr1 ⊢
    exact fsameC_yes F1 (fun _ => False) A B none none k m 0 0 caN (by decide) (by decide) w1 hr1 ⟨SpR.nil _ _ _, SpR.nil _ _ _⟩))
  have hbz := builtCa
  generalize conA (termsV S n) = CK at *
  generalize caA (plainV S n) = CP at *
  clear h hr hF hok hl6 hlp hpv
  clear hp
  go_enter Tryz.func34, Tryz.ntmps34
  go_wp2_with (first
    | (go_at_call 27; go_must (refine (HTe.out _ (by exact HT0.out)).mono ?_); rintro e w1 ⟨A1, k1, rfl, hr1, t1⟩
       have HT1 := Lib.hid (HT0.out.trans t1 (fun _ _ e => e))
       have HB1 := Lib.hid (t1.blk HB0.out (fun e => e))
       have HR1 := Lib.hid hr1
       have HNa := Lib.hid (Blk.new w1 24 #[.int .i64 0, .slice none 0 0, .int .i64 0, .int .i64 0])
       have HKa := Lib.hid (HKn.out A1 k1)
       have HKb := Lib.hid (HK1.out A1 k1)
       clear t1 hr1)
    | ((with_reducible apply HNa.out.st rowCo HZk.out HKa.out HKb.out); exact rfl; exact rfl; exact rfl; exact rfl
       intro w2 hb2 t2
       have tA := ((Touch.refl (fun _ => False) w1).alloc (.cells #[.int .i64 0, .slice none 0 0, .int .i64 0, .int .i64 0] 24)).trans t2 (S := fun _ => False) (fun q hq e => by omega)
       have HT2 := Lib.hid (HT1.out.trans tA (fun _ _ e => e))
       have HT12 := Lib.hid tA
       have HB2 := Lib.hid (tA.blk HB1.out (fun e => e))
       have HC2 := Lib.hid hb2
       clear hb2 t2 tA)
    | ((with_reducible apply HB2.out.ld rowSf HCN.out); exact rfl; exact rfl; exact rfl)
    | (go_at_call 66; go_must (refine (HFt.out _ (by exact HT2.out)).mono ?_); rintro e w3 ⟨A3, k3, rfl, hr3, t3⟩
       have HT3 := Lib.hid (HT2.out.trans t3 (fun _ _ e => e))
       have HT13 := Lib.hid (HT12.out.trans t3 (fun _ _ e => e))
       have HC3 := Lib.hid (t3.blk HC2.out (fun e => e))
       have HR3 := Lib.hid hr3
       have HB3 := Lib.hid (t3.blk HB2.out (fun e => e))
       have HNc := Lib.hid (Blk.new w3 24 #[.int .i64 0, .slice none 0 0, .int .i64 0, .int .i64 0])
       have HKc := Lib.hid (HKn.out A3 k3)
       have HKd := Lib.hid (HK1.out A3 k3)
       clear t3 hr3)
    | ((with_reducible apply HNc.out.st rowCo HZk.out HKc.out HKd.out); exact rfl; exact rfl; exact rfl; exact rfl
       intro w4 hb4 t4
       have tA := ((Touch.refl (fun _ => False) w3).alloc (.cells #[.int .i64 0, .slice none 0 0, .int .i64 0, .int .i64 0] 24)).trans t4 (S := fun _ => False) (fun q hq e => by omega)
       have HT4 := Lib.hid (HT3.out.trans tA (fun _ _ e => e))
       have HT14 := Lib.hid (HT13.out.trans tA (fun _ _ e => e))
       have HC4 := Lib.hid (tA.blk HC3.out (fun e => e))
       have HD4 := Lib.hid hb4
       have HR4 := Lib.hid (HR3.out.touch tA (fun _ _ e => e))
       have HB4 := Lib.hid (tA.blk HB3.out (fun e => e))
       clear hb4 t4 tA)
    | ((with_reducible apply HC4.out.ld rowCo HKa.out); exact rfl; exact rfl; exact rfl)
    | ((with_reducible apply HD4.out.ld rowCo HKc.out); exact rfl; exact rfl; exact rfl)
    | (go_at_call 12; go_must (refine (HSk.out _ _ _ _ _ _ _ (by exact HR1.out.touch HT14.out (fun _ _ e => e)) (by exact HR4.out)).mono ?_); rintro e w5 ⟨rfl, t5⟩
       have HT5 := Lib.hid (HT4.out.trans t5 (fun _ _ e => e))
       have HB5 := Lib.hid (t5.blk HB4.out (fun e => e))
       clear t5)
    | (go_at_call 31; go_must (refine (HPl.out _ (by exact HT5.out)).mono ?_); rintro e w6 ⟨A6, B6, k6, m6, rfl, hr6, t6⟩
       have HT6 := Lib.hid (HT5.out.trans t6 (fun _ _ e => e))
       have HB6 := Lib.hid (t6.blk HB5.out (fun e => e))
       have HR6 := Lib.hid hr6
       have HNe := Lib.hid (Blk.new w6 51 #[.int .i64 0, .slice none 0 0, .slice none 0 0])
       have HKe := Lib.hid (HPn.out A6 B6 k6 m6)
       have HKf := Lib.hid (HP1.out A6 B6 k6 m6)
       clear t6 hr6)
    | ((with_reducible apply HNe.out.st rowCa HZc.out HKe.out HKf.out); exact rfl; exact rfl; exact rfl; exact rfl
       intro w7 hb7 t7
       have tA := ((Touch.refl (fun _ => False) w6).alloc (.cells #[.int .i64 0, .slice none 0 0, .slice none 0 0] 51)).trans t7 (S := fun _ => False) (fun q hq e => by omega)
       have HT7 := Lib.hid (HT6.out.trans tA (fun _ _ e => e))
       have HB7 := Lib.hid (tA.blk HB6.out (fun e => e))
       have HC7 := Lib.hid hb7
       have HR7 := Lib.hid (CaR.touch HR6.out tA (fun _ _ e => e))
       clear hb7 t7 tA))
  obtain ⟨W8, hW8⟩ : ∃ W8, W8 = w7.drew := ⟨_, rfl⟩
  have HT78 := Lib.hid (show Touch (fun _ => False) w7 W8 from hW8 ▸ (Touch.refl _ w7).drew)
  have HB8 := Lib.hid (HT78.out.blk HB7.out (fun e => e))
  have HC8 := Lib.hid (HT78.out.blk HC7.out (fun e => e))
  have HT8 := Lib.hid (HT7.out.trans HT78.out (fun _ _ e => e))
  have HR8 := Lib.hid (CaR.touch HR7.out HT78.out (fun _ _ e => e))
  try clear x7
  refine wp_region_plan [(0, 0), (0, 1), (0, 2), (0, 3), (0, 4), (0, 5), (1, 6), (0, 7), (0, 8), (0, 9), (1, 10), (2, 11), (0, 12), (0, 13), (0, 14), (0, 15), (0, 16), (0, 17), (0, 18), (1, 19), (0, 20), (2, 21), (0, 22), (0, 23), (0, 24)] (fun _ => False) (by kernel_rfl) (by kernel_rfl) (fun c a d v w h => by cases d <;> exact h) ?_
  rw [← hW8]
  clear hW8
  iterate 6
    refine plan_s rfl fun Kc hKc => ?_
    go_simp
    first
      | (refine hKc _ ?_)
    clear hKc Kc
  iterate 1
    refine plan_hn rfl (by rfl) ?_
    go_frame
  iterate 3
    refine plan_s rfl fun Kc hKc => ?_
    go_simp
    first
      | (refine hKc _ ?_)
    clear hKc Kc
  iterate 1
    refine plan_hn rfl (by rfl) ?_
    go_frame
  refine plan_a rfl fun Kc hKc => ?_
  go_simp
  refine hKc _ _ ⟨Touch.refl _ _, ?_⟩
  clear hKc Kc
  iterate 7
    refine plan_s rfl fun Kc hKc => ?_
    go_simp
    first
      | (refine hKc _ ?_)
    clear hKc Kc
  refine plan_hC rowCa rfl _ rfl rfl w6.heap.size 0 rfl _ HKe.out (fun wh hT => (hT.blk HC8.out (fun e => e)).whole) ?_
  go_simp
  iterate 1
    refine plan_s rfl fun Kc hKc => ?_
    go_simp
    first
      | (refine hKc _ ?_)
    clear hKc Kc
  refine plan_a1 rfl (by rfl) (fun Kc hKc => ?_)
  go_simp
  refine (HSn.out _ _ _ _ _ _ (by exact HR8.out)).mono ?_
  rintro e w9 ⟨rfl, t9⟩
  refine hKc _ _ ⟨t9, ?_⟩
  clear hKc Kc
  have HT9 := Lib.hid (HT8.out.trans t9 (fun _ _ e => e))
  have HB9 := Lib.hid (t9.blk HB8.out (fun e => e))
  clear t9
  iterate 3
    refine plan_s rfl fun Kc hKc => ?_
    go_simp
    first
      | (refine hKc _ ?_)
    clear hKc Kc
  refine plan_done ?_
  obtain ⟨c, hc⟩ : ∃ c, S.con n = some c := Option.isSome_iff_exists.1 hs
  obtain ⟨d, hd⟩ : ∃ d, S.cal c.cal = some d := Option.isSome_iff_exists.1 (HOk.out.con n c hc).2.2
  have hcv : clkV S n = d := by
    unfold clkV; rw [if_pos hs]; unfold termsV plainV; rw [hc]; simp only [Option.getD_some]; rw [hd]; rfl
  have hdl := checkE_len (HOk.out.cal _ d hd).2
  have HXc := Lib.hid (HH.out.xX _ d hd)
  have HCk := Lib.hid (hclock_yes (HH.out.far HT9.out) n hn hc hd)
  have HFk := Lib.hid (fun w1 (t : Touch X w w1) => fclock_any F S HOk.out C w1 (HRf.out.touch t HFx.out) n hn)
  unfold FcP at HFk
  rw [hs, hcv] at HFk
  unfold HckP at HCk
  have HKN := Lib.hid (fun A1 B1 k1 m1 => HCn.out d A1 B1 k1 m1)
  have HKO := Lib.hid (fun A1 B1 k1 m1 => HC1.out d A1 B1 k1 m1)
  have HSd := Lib.hid (fun A B k m A' B' k' m' (F F' : Nat → Prop) w1 hr1 hr2 => fsameC_yes F F' A B A' B' k m k' m' d (by omega) (by omega) w1 hr1 hr2)
  have HPd := Lib.hid (fun k a p b G w1 h => cplainA_any k a p b d G w1 h)
  obtain ⟨xc, hxc⟩ : ∃ xc, xc = x c.cal := ⟨_, rfl⟩
  rw [← hxc] at HXc HCk
  generalize hCQ : caA d = CQ at *
  have hgx : w.heap.size ≠ xc := by have := HH.out.lt _ (.inr (.inl HXc.out)); omega
  clear hs hc hd hcv hdl hxc hCQ
  go_wp2_with (first
    | (go_at_call 32; go_must (refine HCk.out.mono ?_); rintro e wa ⟨kk, aa, pp, bb, R', Y', rfl, hsh, hck, hyb, hR', hY', ta⟩
       have HTa := Lib.hid ((HT9.out.mono (S' := X) (fun _ _ e => e.elim)).trans ta (fun q hq e => e ▸ HXc.out))
       have HBa := Lib.hid (ta.blk HB9.out hgx)
       have HSh := Lib.hid hsh
       have HCka := Lib.hid hck
       have HRY := Lib.hid (And.intro hR' hY')
       clear ta hsh hck hyb hR' hY')
    | ((with_reducible apply HBa.out.ld rowSf HCN.out); exact rfl; exact rfl; exact rfl)
    | (go_at_call 68; go_must (refine (HFk.out _ (by exact HTa.out)).mono ?_); rintro e wb ⟨Ab, Bb, kb, mb, rfl, hrb, tb⟩
       have HTab := Lib.hid tb
       have HRb := Lib.hid hrb
       have HNg := Lib.hid (Blk.new wb 51 #[.int .i64 0, .slice none 0 0, .slice none 0 0])
       have HKg := Lib.hid (HKN.out Ab Bb kb mb)
       have HKh := Lib.hid (HKO.out Ab Bb kb mb)
       clear tb hrb)
    | ((with_reducible apply HNg.out.st rowCa HZc.out HKg.out HKh.out); exact rfl; exact rfl; exact rfl; exact rfl
       intro wc hbc tc
       have tA := ((Touch.refl (fun _ => False) wb).alloc (.cells #[.int .i64 0, .slice none 0 0, .slice none 0 0] 51)).trans tc (S := fun _ => False) (fun q hq e => by omega)
       have HTac := Lib.hid (HTab.out.trans tA (fun _ _ e => e))
       have HBc := Lib.hid hbc
       have HRc := Lib.hid (CaR.touch HRb.out tA (fun _ _ e => e))
       clear hbc tc tA))
  obtain ⟨WD, hWD⟩ : ∃ WD, WD = wc.drew := ⟨_, rfl⟩
  have HTcD := Lib.hid (show Touch (fun _ => False) wc WD from hWD ▸ (Touch.refl _ wc).drew)
  have HTaD := Lib.hid (HTac.out.trans HTcD.out (fun _ _ e => e))
  have HBD := Lib.hid (HTcD.out.blk HBc.out (fun e => e))
  have HRD := Lib.hid (CaR.touch HRc.out HTcD.out (fun _ _ e => e))
  refine wp_region_plan [(0, 0), (0, 1), (0, 2), (0, 3), (0, 4), (0, 5), (0, 6), (0, 7), (0, 8), (0, 9), (0, 10), (1, 12), (2, 11), (2, 13), (0, 14), (0, 15), (0, 16), (0, 17)] (fun _ => False) (by kernel_rfl) (by kernel_rfl) (fun c a d v w h => by cases d <;> exact h) ?_
  rw [← hWD]
  clear hWD
  iterate 11
    refine plan_s rfl fun Kc hKc => ?_
    go_simp
    first
      | (refine hKc _ ?_)
    clear hKc Kc
  refine plan_hC rowCa rfl _ rfl rfl wb.heap.size 0 rfl _ HKg.out (fun wh hT => (hT.blk HBD.out (fun e => e)).whole) ?_
  go_simp
  refine plan_a1 rfl (by rfl) (fun Kc hKc => ?_)
  go_simp
  refine (HPd.out kk aa pp bb _ _ (by exact HCka.out.none HTaD.out)).mono ?_
  rintro e we ⟨Ae, Be, ke, me, rfl, hre, te⟩
  refine hKc _ _ ⟨te, ?_⟩
  clear hKc Kc
  have HRe := Lib.hid hre
  have HTe2 := Lib.hid te
  clear hre te
  refine plan_a1 rfl (by rfl) (fun Kc hKc => ?_)
  go_simp
  refine (HSd.out _ _ _ _ _ _ _ _ _ _ _ (by exact HRe.out) (by exact CaR.touch HRD.out HTe2.out (fun _ _ e => e))).mono ?_
  rintro e wf ⟨rfl, tf⟩
  refine hKc _ _ ⟨tf, ?_⟩
  clear hKc Kc
  have HTaf := Lib.hid ((HTaD.out.trans HTe2.out (fun _ _ e => e)).trans tf (fun _ _ e => e))
  clear tf
  iterate 4
    refine plan_s rfl fun Kc hKc => ?_
    go_simp
    first
      | (refine hKc _ ?_)
    clear hKc Kc
  refine plan_done ?_
  go_wp2_with fail
  go_ret
  have hz9 := HT9.out.size
  have hzf := HTaf.out.size
  exact ⟨rfl, R', Y', HSh.out.far HTaf.out, (fun q hq => by rcases HRY.out.1 q hq with h1 | h1; exact .inl h1; exact .inr (by omega)), (fun q hq => by rcases HRY.out.2 q hq with h1 | h1; exact .inl h1; exact .inr (by omega)), HTa.out.trans HTaf.out (fun _ _ e => e.elim)⟩
theorem like14_nna {w : World} {g b1 b2 : Nat} {S : Shl} {x : Int → Nat} {R X Y : Nat → Prop} (h : ShAt w g b1 b2 S x R X Y) (F : Nat → Prop) (C : Array Value) (hr : RfS w F S C) (hF : ∀ q, F q → ¬ X q) (n : Int) (hn : inN n) (hs : (S.con n).isSome = false) (hp : S.cal n = none) (h0 : n < 0) :
    Calls Tryz.prog 34 #[.pointer (some ⟨g, 0, none⟩), .agg C, .int .i64 n] w (LkP14 g b1 b2 S x R X Y w) := by
  have HT0 := Lib.hid ((Touch.refl (fun _ => False) w).alloc (.cells C 62))
  have HB0 := Lib.hid (Blk.new w 62 C)
  have HH := Lib.hid h
  have HRf := Lib.hid hr
  have HFx := Lib.hid hF
  have hgl := h.gl
  have hok := h.ok
  have HOk := Lib.hid hok
  have HTe := Lib.hid (fun w1 (t : Touch (fun _ => False) w w1) => hterms_any (h.far t) n hn)
  have HFt := Lib.hid (fun w1 (t : Touch (fun _ => False) w w1) => fterms_any F S hok C w1 (hr.far t) n hn)
  have HPl := Lib.hid (fun w1 (t : Touch (fun _ => False) w w1) => hplain_any (h.far t) n hn)
  unfold TerP at HTe
  unfold FtP at HFt
  unfold PlnS at HPl
  have HCN := Lib.hid hr.n
  have hl6 := termsV_len hok n
  have hlp := plainV_len hok n
  have HSk := Lib.hid (fun A A' n1 n2 w1 (F F' : Nat → Prop) hr1 hr2 => fsameK_yes F F' A A' n1 n2 (termsV S n) (by omega) w1 hr1 hr2)
  have HZk := Lib.hid (show (#[.int .i64 0, .slice none 0 0, .int .i64 0, .int .i64 0] : Array Value).size = 4 from rfl)
  have HZc := Lib.hid (show (#[.int .i64 0, .slice none 0 0, .slice none 0 0] : Array Value).size = 3 from rfl)
  have HKn := Lib.hid (fun A1 k1 => (show (conA (termsV S n) A1 k1).size = 4 from rfl))
  have HK1 := Lib.hid (fun A1 k1 => conA_one (termsV S n) A1 k1)
  have HCn := Lib.hid (fun (d : Ca) A1 B1 k1 m1 => (show (caA d A1 B1 k1 m1).size = 3 from rfl))
  have HC1 := Lib.hid (fun (d : Ca) A1 B1 k1 m1 => caA_one d A1 B1 k1 m1)
  have HPn := Lib.hid (fun A1 B1 k1 m1 => HCn.out (plainV S n) A1 B1 k1 m1)
  have HP1 := Lib.hid (fun A1 B1 k1 m1 => HC1.out (plainV S n) A1 B1 k1 m1)
  rw [hs] at HTe HFt
  rw [show (S.cal n).isSome = false by rw [hp]; rfl] at HPl
  have hpv : plainV S n = caN := plainV_none (by rw [hp]; rfl)
  have HSn := Lib.hid (fun A B k m w1 (F1 : Nat → Prop) (hr1 : CaR w1 F1 (plainV S n) A B) => (show Calls Tryz.prog 67 #[.agg (caA (plainV S n) A B k m), .agg #[.int .i64 0, .slice none 0 0, .slice none 0 0]] w1 fun e w' => e = .returned (.bool true) ∧ Touch (fun _ => False) w1 w' from by
    rw [hpv] at hr1 ⊢
    exact fsameC_yes F1 (fun _ => False) A B none none k m 0 0 caN (by decide) (by decide) w1 hr1 ⟨SpR.nil _ _ _, SpR.nil _ _ _⟩))
  have hbz := builtCa
  generalize conA (termsV S n) = CK at *
  generalize caA (plainV S n) = CP at *
  clear h hr hF hok hl6 hlp hpv
  have hcn : S.con n = none := by
    cases hc : S.con n with
    | none => rfl
    | some c => rw [hc] at hs; cases hs
  clear hp
  go_enter Tryz.func34, Tryz.ntmps34
  go_wp2_with (first
    | (go_at_call 27; go_must (refine (HTe.out _ (by exact HT0.out)).mono ?_); rintro e w1 ⟨A1, k1, rfl, hr1, t1⟩
       have HT1 := Lib.hid (HT0.out.trans t1 (fun _ _ e => e))
       have HB1 := Lib.hid (t1.blk HB0.out (fun e => e))
       have HR1 := Lib.hid hr1
       have HNa := Lib.hid (Blk.new w1 24 #[.int .i64 0, .slice none 0 0, .int .i64 0, .int .i64 0])
       have HKa := Lib.hid (HKn.out A1 k1)
       have HKb := Lib.hid (HK1.out A1 k1)
       clear t1 hr1)
    | ((with_reducible apply HNa.out.st rowCo HZk.out HKa.out HKb.out); exact rfl; exact rfl; exact rfl; exact rfl
       intro w2 hb2 t2
       have tA := ((Touch.refl (fun _ => False) w1).alloc (.cells #[.int .i64 0, .slice none 0 0, .int .i64 0, .int .i64 0] 24)).trans t2 (S := fun _ => False) (fun q hq e => by omega)
       have HT2 := Lib.hid (HT1.out.trans tA (fun _ _ e => e))
       have HT12 := Lib.hid tA
       have HB2 := Lib.hid (tA.blk HB1.out (fun e => e))
       have HC2 := Lib.hid hb2
       clear hb2 t2 tA)
    | ((with_reducible apply HB2.out.ld rowSf HCN.out); exact rfl; exact rfl; exact rfl)
    | (go_at_call 66; go_must (refine (HFt.out _ (by exact HT2.out)).mono ?_); rintro e w3 ⟨A3, k3, rfl, hr3, t3⟩
       have HT3 := Lib.hid (HT2.out.trans t3 (fun _ _ e => e))
       have HT13 := Lib.hid (HT12.out.trans t3 (fun _ _ e => e))
       have HC3 := Lib.hid (t3.blk HC2.out (fun e => e))
       have HR3 := Lib.hid hr3
       have HB3 := Lib.hid (t3.blk HB2.out (fun e => e))
       have HNc := Lib.hid (Blk.new w3 24 #[.int .i64 0, .slice none 0 0, .int .i64 0, .int .i64 0])
       have HKc := Lib.hid (HKn.out A3 k3)
       have HKd := Lib.hid (HK1.out A3 k3)
       clear t3 hr3)
    | ((with_reducible apply HNc.out.st rowCo HZk.out HKc.out HKd.out); exact rfl; exact rfl; exact rfl; exact rfl
       intro w4 hb4 t4
       have tA := ((Touch.refl (fun _ => False) w3).alloc (.cells #[.int .i64 0, .slice none 0 0, .int .i64 0, .int .i64 0] 24)).trans t4 (S := fun _ => False) (fun q hq e => by omega)
       have HT4 := Lib.hid (HT3.out.trans tA (fun _ _ e => e))
       have HT14 := Lib.hid (HT13.out.trans tA (fun _ _ e => e))
       have HC4 := Lib.hid (tA.blk HC3.out (fun e => e))
       have HD4 := Lib.hid hb4
       have HR4 := Lib.hid (HR3.out.touch tA (fun _ _ e => e))
       have HB4 := Lib.hid (tA.blk HB3.out (fun e => e))
       clear hb4 t4 tA)
    | ((with_reducible apply HC4.out.ld rowCo HKa.out); exact rfl; exact rfl; exact rfl)
    | ((with_reducible apply HD4.out.ld rowCo HKc.out); exact rfl; exact rfl; exact rfl)
    | (go_at_call 12; go_must (refine (HSk.out _ _ _ _ _ _ _ (by exact HR1.out.touch HT14.out (fun _ _ e => e)) (by exact HR4.out)).mono ?_); rintro e w5 ⟨rfl, t5⟩
       have HT5 := Lib.hid (HT4.out.trans t5 (fun _ _ e => e))
       have HB5 := Lib.hid (t5.blk HB4.out (fun e => e))
       clear t5)
    | (go_at_call 31; go_must (refine (HPl.out _ (by exact HT5.out)).mono ?_); rintro e w6 ⟨A6, B6, k6, m6, rfl, hr6, t6⟩
       have HT6 := Lib.hid (HT5.out.trans t6 (fun _ _ e => e))
       have HB6 := Lib.hid (t6.blk HB5.out (fun e => e))
       have HR6 := Lib.hid hr6
       have HNe := Lib.hid (Blk.new w6 51 #[.int .i64 0, .slice none 0 0, .slice none 0 0])
       have HKe := Lib.hid (HPn.out A6 B6 k6 m6)
       have HKf := Lib.hid (HP1.out A6 B6 k6 m6)
       clear t6 hr6)
    | ((with_reducible apply HNe.out.st rowCa HZc.out HKe.out HKf.out); exact rfl; exact rfl; exact rfl; exact rfl
       intro w7 hb7 t7
       have tA := ((Touch.refl (fun _ => False) w6).alloc (.cells #[.int .i64 0, .slice none 0 0, .slice none 0 0] 51)).trans t7 (S := fun _ => False) (fun q hq e => by omega)
       have HT7 := Lib.hid (HT6.out.trans tA (fun _ _ e => e))
       have HB7 := Lib.hid (tA.blk HB6.out (fun e => e))
       have HC7 := Lib.hid hb7
       have HR7 := Lib.hid (CaR.touch HR6.out tA (fun _ _ e => e))
       clear hb7 t7 tA))
  obtain ⟨W8, hW8⟩ : ∃ W8, W8 = w7.drew := ⟨_, rfl⟩
  have HT78 := Lib.hid (show Touch (fun _ => False) w7 W8 from hW8 ▸ (Touch.refl _ w7).drew)
  have HB8 := Lib.hid (HT78.out.blk HB7.out (fun e => e))
  have HC8 := Lib.hid (HT78.out.blk HC7.out (fun e => e))
  have HT8 := Lib.hid (HT7.out.trans HT78.out (fun _ _ e => e))
  have HR8 := Lib.hid (CaR.touch HR7.out HT78.out (fun _ _ e => e))
  try clear x7
  refine wp_region_plan [(0, 0), (0, 1), (0, 2), (0, 3), (0, 4), (0, 5), (1, 6), (0, 7), (0, 8), (0, 9), (1, 10), (2, 11), (0, 12), (0, 13), (0, 14), (0, 15), (0, 16), (0, 17), (0, 18), (1, 19), (0, 20), (2, 21), (0, 22), (0, 23), (0, 24)] (fun _ => False) (by kernel_rfl) (by kernel_rfl) (fun c a d v w h => by cases d <;> exact h) ?_
  rw [← hW8]
  clear hW8
  iterate 6
    refine plan_s rfl fun Kc hKc => ?_
    go_simp
    first
      | (refine hKc _ ?_)
    clear hKc Kc
  iterate 1
    refine plan_hn rfl (by rfl) ?_
    go_frame
  iterate 3
    refine plan_s rfl fun Kc hKc => ?_
    go_simp
    first
      | (refine hKc _ ?_)
    clear hKc Kc
  iterate 1
    refine plan_hn rfl (by rfl) ?_
    go_frame
  refine plan_a rfl fun Kc hKc => ?_
  go_simp
  refine hKc _ _ ⟨Touch.refl _ _, ?_⟩
  clear hKc Kc
  iterate 7
    refine plan_s rfl fun Kc hKc => ?_
    go_simp
    first
      | (refine hKc _ ?_)
    clear hKc Kc
  refine plan_hC rowCa rfl _ rfl rfl w6.heap.size 0 rfl _ HKe.out (fun wh hT => (hT.blk HC8.out (fun e => e)).whole) ?_
  go_simp
  iterate 1
    refine plan_s rfl fun Kc hKc => ?_
    go_simp
    first
      | (refine hKc _ ?_)
    clear hKc Kc
  refine plan_a1 rfl (by rfl) (fun Kc hKc => ?_)
  go_simp
  refine (HSn.out _ _ _ _ _ _ (by exact HR8.out)).mono ?_
  rintro e w9 ⟨rfl, t9⟩
  refine hKc _ _ ⟨t9, ?_⟩
  clear hKc Kc
  have HT9 := Lib.hid (HT8.out.trans t9 (fun _ _ e => e))
  have HB9 := Lib.hid (t9.blk HB8.out (fun e => e))
  clear t9
  iterate 3
    refine plan_s rfl fun Kc hKc => ?_
    go_simp
    first
      | (refine hKc _ ?_)
    clear hKc Kc
  refine plan_done ?_
  have HCk := Lib.hid (hclock_no (HH.out.far HT9.out) n hn hcn)
  have HFk := Lib.hid (fun w1 (t : Touch (fun _ => False) w w1) => fclock_any F S HOk.out C w1 (HRf.out.far t) n hn)
  unfold FcP at HFk
  rw [hs] at HFk
  have hKN := (fun A1 B1 k1 m1 => HCn.out (clkV S n) A1 B1 k1 m1)
  have hK1 := (fun A1 B1 k1 m1 => HC1.out (clkV S n) A1 B1 k1 m1)
  have HKN := Lib.hid hKN
  have HKO := Lib.hid hK1
  generalize caA (clkV S n) = CQ at *
  clear hs hcn hKN hK1
  go_wp2_with (first
    | (go_at_call 32; go_must (refine HCk.out.mono ?_); rintro e wa ⟨rfl, ta⟩
       have HTa := Lib.hid (HT9.out.trans ta (fun _ _ e => e))
       have HBa := Lib.hid (ta.blk HB9.out (fun e => e))
       clear ta)
    | ((with_reducible apply HBa.out.ld rowSf HCN.out); exact rfl; exact rfl; exact rfl)
    | (go_at_call 68; go_must (refine (HFk.out _ (by exact HTa.out)).mono ?_); rintro e wb ⟨Ab, Bb, kb, mb, rfl, hrb, tb⟩
       have HTb := Lib.hid (HTa.out.trans tb (fun _ _ e => e))
       have HNg := Lib.hid (Blk.new wb 51 #[.int .i64 0, .slice none 0 0, .slice none 0 0])
       have HKg := Lib.hid (HKN.out Ab Bb kb mb)
       have HKh := Lib.hid (HKO.out Ab Bb kb mb)
       clear tb hrb)
    | ((with_reducible apply HNg.out.st rowCa HZc.out HKg.out HKh.out); exact rfl; exact rfl; exact rfl; exact rfl
       intro wc hbc tc
       have tA := ((Touch.refl (fun _ => False) wb).alloc (.cells #[.int .i64 0, .slice none 0 0, .slice none 0 0] 51)).trans tc (S := fun _ => False) (fun q hq e => by omega)
       have HTc := Lib.hid (HTb.out.trans tA (fun _ _ e => e))
       clear hbc tc tA))
  obtain ⟨WD, hWD⟩ : ∃ WD, WD = wc.drew := ⟨_, rfl⟩
  have HTD := Lib.hid (show Touch (fun _ => False) w WD from hWD ▸ HTc.out.drew)
  refine wp_region_plan [(0, 0), (0, 1), (0, 2), (0, 3), (0, 4), (0, 5), (0, 6), (0, 7), (0, 8), (0, 9), (0, 10), (1, 12), (2, 11), (2, 13), (0, 14), (0, 15), (0, 16), (0, 17)] (fun _ => False) (by kernel_rfl) (by kernel_rfl) (fun c a d v w h => by cases d <;> exact h) ?_
  rw [← hWD]
  clear hWD
  iterate 11
    refine plan_s rfl fun Kc hKc => ?_
    go_simp
    first
      | (refine hKc _ ?_)
    clear hKc Kc
  iterate 1
    refine plan_hn rfl (by rfl) ?_
    go_frame
  refine plan_a rfl fun Kc hKc => ?_
  go_simp
  refine hKc _ _ ⟨Touch.refl _ _, ?_⟩
  clear hKc Kc
  refine plan_a rfl fun Kc hKc => ?_
  go_simp
  refine hKc _ _ ⟨Touch.refl _ _, ?_⟩
  clear hKc Kc
  iterate 4
    refine plan_s rfl fun Kc hKc => ?_
    go_simp
    first
      | (refine hKc _ ?_)
    clear hKc Kc
  refine plan_done ?_
  go_wp2_with fail
  go_ret
  exact ⟨rfl, R, Y, HH.out.far HTD.out, fun q hq => .inl hq, fun q hq => .inl hq, HTD.out.mono (fun _ _ e => e.elim)⟩
theorem like14_nyb {w : World} {g b1 b2 : Nat} {S : Shl} {x : Int → Nat} {R X Y : Nat → Prop} (h : ShAt w g b1 b2 S x R X Y) (F : Nat → Prop) (C : Array Value) (hr : RfS w F S C) (hF : ∀ q, F q → ¬ X q) (n : Int) (hn : inN n) (hs : (S.con n).isSome = true) (hp : S.cal n = none) (h8 : 8 ≤ n) :
    Calls Tryz.prog 34 #[.pointer (some ⟨g, 0, none⟩), .agg C, .int .i64 n] w (LkP14 g b1 b2 S x R X Y w) := by
  have HT0 := Lib.hid ((Touch.refl (fun _ => False) w).alloc (.cells C 62))
  have HB0 := Lib.hid (Blk.new w 62 C)
  have HH := Lib.hid h
  have HRf := Lib.hid hr
  have HFx := Lib.hid hF
  have hgl := h.gl
  have hok := h.ok
  have HOk := Lib.hid hok
  have HTe := Lib.hid (fun w1 (t : Touch (fun _ => False) w w1) => hterms_any (h.far t) n hn)
  have HFt := Lib.hid (fun w1 (t : Touch (fun _ => False) w w1) => fterms_any F S hok C w1 (hr.far t) n hn)
  have HPl := Lib.hid (fun w1 (t : Touch (fun _ => False) w w1) => hplain_any (h.far t) n hn)
  unfold TerP at HTe
  unfold FtP at HFt
  unfold PlnS at HPl
  have HCN := Lib.hid hr.n
  have hl6 := termsV_len hok n
  have hlp := plainV_len hok n
  have HSk := Lib.hid (fun A A' n1 n2 w1 (F F' : Nat → Prop) hr1 hr2 => fsameK_yes F F' A A' n1 n2 (termsV S n) (by omega) w1 hr1 hr2)
  have HZk := Lib.hid (show (#[.int .i64 0, .slice none 0 0, .int .i64 0, .int .i64 0] : Array Value).size = 4 from rfl)
  have HZc := Lib.hid (show (#[.int .i64 0, .slice none 0 0, .slice none 0 0] : Array Value).size = 3 from rfl)
  have HKn := Lib.hid (fun A1 k1 => (show (conA (termsV S n) A1 k1).size = 4 from rfl))
  have HK1 := Lib.hid (fun A1 k1 => conA_one (termsV S n) A1 k1)
  have HCn := Lib.hid (fun (d : Ca) A1 B1 k1 m1 => (show (caA d A1 B1 k1 m1).size = 3 from rfl))
  have HC1 := Lib.hid (fun (d : Ca) A1 B1 k1 m1 => caA_one d A1 B1 k1 m1)
  have HPn := Lib.hid (fun A1 B1 k1 m1 => HCn.out (plainV S n) A1 B1 k1 m1)
  have HP1 := Lib.hid (fun A1 B1 k1 m1 => HC1.out (plainV S n) A1 B1 k1 m1)
  have h0 : ¬ n < 0 := by omega
  rw [hs] at HTe HFt
  rw [show (S.cal n).isSome = false by rw [hp]; rfl] at HPl
  have hpv : plainV S n = caN := plainV_none (by rw [hp]; rfl)
  have HSn := Lib.hid (fun A B k m w1 (F1 : Nat → Prop) (hr1 : CaR w1 F1 (plainV S n) A B) => (show Calls Tryz.prog 67 #[.agg (caA (plainV S n) A B k m), .agg #[.int .i64 0, .slice none 0 0, .slice none 0 0]] w1 fun e w' => e = .returned (.bool true) ∧ Touch (fun _ => False) w1 w' from by
    rw [hpv] at hr1 ⊢
    exact fsameC_yes F1 (fun _ => False) A B none none k m 0 0 caN (by decide) (by decide) w1 hr1 ⟨SpR.nil _ _ _, SpR.nil _ _ _⟩))
  have hbz := builtCa
  generalize conA (termsV S n) = CK at *
  generalize caA (plainV S n) = CP at *
  clear h hr hF hok hl6 hlp hpv
  clear hp
  go_enter Tryz.func34, Tryz.ntmps34
  go_wp2_with (first
    | (go_at_call 27; go_must (refine (HTe.out _ (by exact HT0.out)).mono ?_); rintro e w1 ⟨A1, k1, rfl, hr1, t1⟩
       have HT1 := Lib.hid (HT0.out.trans t1 (fun _ _ e => e))
       have HB1 := Lib.hid (t1.blk HB0.out (fun e => e))
       have HR1 := Lib.hid hr1
       have HNa := Lib.hid (Blk.new w1 24 #[.int .i64 0, .slice none 0 0, .int .i64 0, .int .i64 0])
       have HKa := Lib.hid (HKn.out A1 k1)
       have HKb := Lib.hid (HK1.out A1 k1)
       clear t1 hr1)
    | ((with_reducible apply HNa.out.st rowCo HZk.out HKa.out HKb.out); exact rfl; exact rfl; exact rfl; exact rfl
       intro w2 hb2 t2
       have tA := ((Touch.refl (fun _ => False) w1).alloc (.cells #[.int .i64 0, .slice none 0 0, .int .i64 0, .int .i64 0] 24)).trans t2 (S := fun _ => False) (fun q hq e => by omega)
       have HT2 := Lib.hid (HT1.out.trans tA (fun _ _ e => e))
       have HT12 := Lib.hid tA
       have HB2 := Lib.hid (tA.blk HB1.out (fun e => e))
       have HC2 := Lib.hid hb2
       clear hb2 t2 tA)
    | ((with_reducible apply HB2.out.ld rowSf HCN.out); exact rfl; exact rfl; exact rfl)
    | (go_at_call 66; go_must (refine (HFt.out _ (by exact HT2.out)).mono ?_); rintro e w3 ⟨A3, k3, rfl, hr3, t3⟩
       have HT3 := Lib.hid (HT2.out.trans t3 (fun _ _ e => e))
       have HT13 := Lib.hid (HT12.out.trans t3 (fun _ _ e => e))
       have HC3 := Lib.hid (t3.blk HC2.out (fun e => e))
       have HR3 := Lib.hid hr3
       have HB3 := Lib.hid (t3.blk HB2.out (fun e => e))
       have HNc := Lib.hid (Blk.new w3 24 #[.int .i64 0, .slice none 0 0, .int .i64 0, .int .i64 0])
       have HKc := Lib.hid (HKn.out A3 k3)
       have HKd := Lib.hid (HK1.out A3 k3)
       clear t3 hr3)
    | ((with_reducible apply HNc.out.st rowCo HZk.out HKc.out HKd.out); exact rfl; exact rfl; exact rfl; exact rfl
       intro w4 hb4 t4
       have tA := ((Touch.refl (fun _ => False) w3).alloc (.cells #[.int .i64 0, .slice none 0 0, .int .i64 0, .int .i64 0] 24)).trans t4 (S := fun _ => False) (fun q hq e => by omega)
       have HT4 := Lib.hid (HT3.out.trans tA (fun _ _ e => e))
       have HT14 := Lib.hid (HT13.out.trans tA (fun _ _ e => e))
       have HC4 := Lib.hid (tA.blk HC3.out (fun e => e))
       have HD4 := Lib.hid hb4
       have HR4 := Lib.hid (HR3.out.touch tA (fun _ _ e => e))
       have HB4 := Lib.hid (tA.blk HB3.out (fun e => e))
       clear hb4 t4 tA)
    | ((with_reducible apply HC4.out.ld rowCo HKa.out); exact rfl; exact rfl; exact rfl)
    | ((with_reducible apply HD4.out.ld rowCo HKc.out); exact rfl; exact rfl; exact rfl)
    | (go_at_call 12; go_must (refine (HSk.out _ _ _ _ _ _ _ (by exact HR1.out.touch HT14.out (fun _ _ e => e)) (by exact HR4.out)).mono ?_); rintro e w5 ⟨rfl, t5⟩
       have HT5 := Lib.hid (HT4.out.trans t5 (fun _ _ e => e))
       have HB5 := Lib.hid (t5.blk HB4.out (fun e => e))
       clear t5)
    | (go_at_call 31; go_must (refine (HPl.out _ (by exact HT5.out)).mono ?_); rintro e w6 ⟨A6, B6, k6, m6, rfl, hr6, t6⟩
       have HT6 := Lib.hid (HT5.out.trans t6 (fun _ _ e => e))
       have HB6 := Lib.hid (t6.blk HB5.out (fun e => e))
       have HR6 := Lib.hid hr6
       have HNe := Lib.hid (Blk.new w6 51 #[.int .i64 0, .slice none 0 0, .slice none 0 0])
       have HKe := Lib.hid (HPn.out A6 B6 k6 m6)
       have HKf := Lib.hid (HP1.out A6 B6 k6 m6)
       clear t6 hr6)
    | ((with_reducible apply HNe.out.st rowCa HZc.out HKe.out HKf.out); exact rfl; exact rfl; exact rfl; exact rfl
       intro w7 hb7 t7
       have tA := ((Touch.refl (fun _ => False) w6).alloc (.cells #[.int .i64 0, .slice none 0 0, .slice none 0 0] 51)).trans t7 (S := fun _ => False) (fun q hq e => by omega)
       have HT7 := Lib.hid (HT6.out.trans tA (fun _ _ e => e))
       have HB7 := Lib.hid (tA.blk HB6.out (fun e => e))
       have HC7 := Lib.hid hb7
       have HR7 := Lib.hid (CaR.touch HR6.out tA (fun _ _ e => e))
       clear hb7 t7 tA))
  obtain ⟨W8, hW8⟩ : ∃ W8, W8 = w7.drew := ⟨_, rfl⟩
  have HT78 := Lib.hid (show Touch (fun _ => False) w7 W8 from hW8 ▸ (Touch.refl _ w7).drew)
  have HB8 := Lib.hid (HT78.out.blk HB7.out (fun e => e))
  have HC8 := Lib.hid (HT78.out.blk HC7.out (fun e => e))
  have HT8 := Lib.hid (HT7.out.trans HT78.out (fun _ _ e => e))
  have HR8 := Lib.hid (CaR.touch HR7.out HT78.out (fun _ _ e => e))
  try clear x7
  refine wp_region_plan [(0, 0), (0, 1), (0, 2), (0, 3), (0, 4), (0, 5), (1, 6), (0, 7), (0, 8), (0, 9), (1, 10), (2, 11), (0, 12), (0, 13), (0, 14), (0, 15), (0, 16), (0, 17), (0, 18), (1, 19), (0, 20), (2, 21), (0, 22), (0, 23), (0, 24)] (fun _ => False) (by kernel_rfl) (by kernel_rfl) (fun c a d v w h => by cases d <;> exact h) ?_
  rw [← hW8]
  clear hW8
  iterate 6
    refine plan_s rfl fun Kc hKc => ?_
    go_simp
    first
      | (refine hKc _ ?_)
    clear hKc Kc
  iterate 1
    refine plan_hn rfl (by rfl) ?_
    go_frame
  iterate 3
    refine plan_s rfl fun Kc hKc => ?_
    go_simp
    first
      | (refine hKc _ ?_)
    clear hKc Kc
  iterate 1
    refine plan_hn rfl (by rfl) ?_
    go_frame
  refine plan_a rfl fun Kc hKc => ?_
  go_simp
  refine hKc _ _ ⟨Touch.refl _ _, ?_⟩
  clear hKc Kc
  iterate 7
    refine plan_s rfl fun Kc hKc => ?_
    go_simp
    first
      | (refine hKc _ ?_)
    clear hKc Kc
  refine plan_hC rowCa rfl _ rfl rfl w6.heap.size 0 rfl _ HKe.out (fun wh hT => (hT.blk HC8.out (fun e => e)).whole) ?_
  go_simp
  iterate 1
    refine plan_s rfl fun Kc hKc => ?_
    go_simp
    first
      | (refine hKc _ ?_)
    clear hKc Kc
  refine plan_a1 rfl (by rfl) (fun Kc hKc => ?_)
  go_simp
  refine (HSn.out _ _ _ _ _ _ (by exact HR8.out)).mono ?_
  rintro e w9 ⟨rfl, t9⟩
  refine hKc _ _ ⟨t9, ?_⟩
  clear hKc Kc
  have HT9 := Lib.hid (HT8.out.trans t9 (fun _ _ e => e))
  have HB9 := Lib.hid (t9.blk HB8.out (fun e => e))
  clear t9
  iterate 3
    refine plan_s rfl fun Kc hKc => ?_
    go_simp
    first
      | (refine hKc _ ?_)
    clear hKc Kc
  refine plan_done ?_
  obtain ⟨c, hc⟩ : ∃ c, S.con n = some c := Option.isSome_iff_exists.1 hs
  obtain ⟨d, hd⟩ : ∃ d, S.cal c.cal = some d := Option.isSome_iff_exists.1 (HOk.out.con n c hc).2.2
  have hcv : clkV S n = d := by
    unfold clkV; rw [if_pos hs]; unfold termsV plainV; rw [hc]; simp only [Option.getD_some]; rw [hd]; rfl
  have hdl := checkE_len (HOk.out.cal _ d hd).2
  have HXc := Lib.hid (HH.out.xX _ d hd)
  have HCk := Lib.hid (hclock_yes (HH.out.far HT9.out) n hn hc hd)
  have HFk := Lib.hid (fun w1 (t : Touch X w w1) => fclock_any F S HOk.out C w1 (HRf.out.touch t HFx.out) n hn)
  unfold FcP at HFk
  rw [hs, hcv] at HFk
  unfold HckP at HCk
  have HKN := Lib.hid (fun A1 B1 k1 m1 => HCn.out d A1 B1 k1 m1)
  have HKO := Lib.hid (fun A1 B1 k1 m1 => HC1.out d A1 B1 k1 m1)
  have HSd := Lib.hid (fun A B k m A' B' k' m' (F F' : Nat → Prop) w1 hr1 hr2 => fsameC_yes F F' A B A' B' k m k' m' d (by omega) (by omega) w1 hr1 hr2)
  have HPd := Lib.hid (fun k a p b G w1 h => cplainA_any k a p b d G w1 h)
  obtain ⟨xc, hxc⟩ : ∃ xc, xc = x c.cal := ⟨_, rfl⟩
  rw [← hxc] at HXc HCk
  generalize hCQ : caA d = CQ at *
  have hgx : w.heap.size ≠ xc := by have := HH.out.lt _ (.inr (.inl HXc.out)); omega
  clear hs hc hd hcv hdl hxc hCQ
  go_wp2_with (first
    | (go_at_call 32; go_must (refine HCk.out.mono ?_); rintro e wa ⟨kk, aa, pp, bb, R', Y', rfl, hsh, hck, hyb, hR', hY', ta⟩
       have HTa := Lib.hid ((HT9.out.mono (S' := X) (fun _ _ e => e.elim)).trans ta (fun q hq e => e ▸ HXc.out))
       have HBa := Lib.hid (ta.blk HB9.out hgx)
       have HSh := Lib.hid hsh
       have HCka := Lib.hid hck
       have HRY := Lib.hid (And.intro hR' hY')
       clear ta hsh hck hyb hR' hY')
    | ((with_reducible apply HBa.out.ld rowSf HCN.out); exact rfl; exact rfl; exact rfl)
    | (go_at_call 68; go_must (refine (HFk.out _ (by exact HTa.out)).mono ?_); rintro e wb ⟨Ab, Bb, kb, mb, rfl, hrb, tb⟩
       have HTab := Lib.hid tb
       have HRb := Lib.hid hrb
       have HNg := Lib.hid (Blk.new wb 51 #[.int .i64 0, .slice none 0 0, .slice none 0 0])
       have HKg := Lib.hid (HKN.out Ab Bb kb mb)
       have HKh := Lib.hid (HKO.out Ab Bb kb mb)
       clear tb hrb)
    | ((with_reducible apply HNg.out.st rowCa HZc.out HKg.out HKh.out); exact rfl; exact rfl; exact rfl; exact rfl
       intro wc hbc tc
       have tA := ((Touch.refl (fun _ => False) wb).alloc (.cells #[.int .i64 0, .slice none 0 0, .slice none 0 0] 51)).trans tc (S := fun _ => False) (fun q hq e => by omega)
       have HTac := Lib.hid (HTab.out.trans tA (fun _ _ e => e))
       have HBc := Lib.hid hbc
       have HRc := Lib.hid (CaR.touch HRb.out tA (fun _ _ e => e))
       clear hbc tc tA))
  obtain ⟨WD, hWD⟩ : ∃ WD, WD = wc.drew := ⟨_, rfl⟩
  have HTcD := Lib.hid (show Touch (fun _ => False) wc WD from hWD ▸ (Touch.refl _ wc).drew)
  have HTaD := Lib.hid (HTac.out.trans HTcD.out (fun _ _ e => e))
  have HBD := Lib.hid (HTcD.out.blk HBc.out (fun e => e))
  have HRD := Lib.hid (CaR.touch HRc.out HTcD.out (fun _ _ e => e))
  refine wp_region_plan [(0, 0), (0, 1), (0, 2), (0, 3), (0, 4), (0, 5), (0, 6), (0, 7), (0, 8), (0, 9), (0, 10), (1, 12), (2, 11), (2, 13), (0, 14), (0, 15), (0, 16), (0, 17)] (fun _ => False) (by kernel_rfl) (by kernel_rfl) (fun c a d v w h => by cases d <;> exact h) ?_
  rw [← hWD]
  clear hWD
  iterate 11
    refine plan_s rfl fun Kc hKc => ?_
    go_simp
    first
      | (refine hKc _ ?_)
    clear hKc Kc
  refine plan_hC rowCa rfl _ rfl rfl wb.heap.size 0 rfl _ HKg.out (fun wh hT => (hT.blk HBD.out (fun e => e)).whole) ?_
  go_simp
  refine plan_a1 rfl (by rfl) (fun Kc hKc => ?_)
  go_simp
  refine (HPd.out kk aa pp bb _ _ (by exact HCka.out.none HTaD.out)).mono ?_
  rintro e we ⟨Ae, Be, ke, me, rfl, hre, te⟩
  refine hKc _ _ ⟨te, ?_⟩
  clear hKc Kc
  have HRe := Lib.hid hre
  have HTe2 := Lib.hid te
  clear hre te
  refine plan_a1 rfl (by rfl) (fun Kc hKc => ?_)
  go_simp
  refine (HSd.out _ _ _ _ _ _ _ _ _ _ _ (by exact HRe.out) (by exact CaR.touch HRD.out HTe2.out (fun _ _ e => e))).mono ?_
  rintro e wf ⟨rfl, tf⟩
  refine hKc _ _ ⟨tf, ?_⟩
  clear hKc Kc
  have HTaf := Lib.hid ((HTaD.out.trans HTe2.out (fun _ _ e => e)).trans tf (fun _ _ e => e))
  clear tf
  iterate 4
    refine plan_s rfl fun Kc hKc => ?_
    go_simp
    first
      | (refine hKc _ ?_)
    clear hKc Kc
  refine plan_done ?_
  go_wp2_with fail
  go_ret
  have hz9 := HT9.out.size
  have hzf := HTaf.out.size
  exact ⟨rfl, R', Y', HSh.out.far HTaf.out, (fun q hq => by rcases HRY.out.1 q hq with h1 | h1; exact .inl h1; exact .inr (by omega)), (fun q hq => by rcases HRY.out.2 q hq with h1 | h1; exact .inl h1; exact .inr (by omega)), HTa.out.trans HTaf.out (fun _ _ e => e.elim)⟩
theorem like14_nnb {w : World} {g b1 b2 : Nat} {S : Shl} {x : Int → Nat} {R X Y : Nat → Prop} (h : ShAt w g b1 b2 S x R X Y) (F : Nat → Prop) (C : Array Value) (hr : RfS w F S C) (hF : ∀ q, F q → ¬ X q) (n : Int) (hn : inN n) (hs : (S.con n).isSome = false) (hp : S.cal n = none) (h8 : 8 ≤ n) :
    Calls Tryz.prog 34 #[.pointer (some ⟨g, 0, none⟩), .agg C, .int .i64 n] w (LkP14 g b1 b2 S x R X Y w) := by
  have HT0 := Lib.hid ((Touch.refl (fun _ => False) w).alloc (.cells C 62))
  have HB0 := Lib.hid (Blk.new w 62 C)
  have HH := Lib.hid h
  have HRf := Lib.hid hr
  have HFx := Lib.hid hF
  have hgl := h.gl
  have hok := h.ok
  have HOk := Lib.hid hok
  have HTe := Lib.hid (fun w1 (t : Touch (fun _ => False) w w1) => hterms_any (h.far t) n hn)
  have HFt := Lib.hid (fun w1 (t : Touch (fun _ => False) w w1) => fterms_any F S hok C w1 (hr.far t) n hn)
  have HPl := Lib.hid (fun w1 (t : Touch (fun _ => False) w w1) => hplain_any (h.far t) n hn)
  unfold TerP at HTe
  unfold FtP at HFt
  unfold PlnS at HPl
  have HCN := Lib.hid hr.n
  have hl6 := termsV_len hok n
  have hlp := plainV_len hok n
  have HSk := Lib.hid (fun A A' n1 n2 w1 (F F' : Nat → Prop) hr1 hr2 => fsameK_yes F F' A A' n1 n2 (termsV S n) (by omega) w1 hr1 hr2)
  have HZk := Lib.hid (show (#[.int .i64 0, .slice none 0 0, .int .i64 0, .int .i64 0] : Array Value).size = 4 from rfl)
  have HZc := Lib.hid (show (#[.int .i64 0, .slice none 0 0, .slice none 0 0] : Array Value).size = 3 from rfl)
  have HKn := Lib.hid (fun A1 k1 => (show (conA (termsV S n) A1 k1).size = 4 from rfl))
  have HK1 := Lib.hid (fun A1 k1 => conA_one (termsV S n) A1 k1)
  have HCn := Lib.hid (fun (d : Ca) A1 B1 k1 m1 => (show (caA d A1 B1 k1 m1).size = 3 from rfl))
  have HC1 := Lib.hid (fun (d : Ca) A1 B1 k1 m1 => caA_one d A1 B1 k1 m1)
  have HPn := Lib.hid (fun A1 B1 k1 m1 => HCn.out (plainV S n) A1 B1 k1 m1)
  have HP1 := Lib.hid (fun A1 B1 k1 m1 => HC1.out (plainV S n) A1 B1 k1 m1)
  have h0 : ¬ n < 0 := by omega
  rw [hs] at HTe HFt
  rw [show (S.cal n).isSome = false by rw [hp]; rfl] at HPl
  have hpv : plainV S n = caN := plainV_none (by rw [hp]; rfl)
  have HSn := Lib.hid (fun A B k m w1 (F1 : Nat → Prop) (hr1 : CaR w1 F1 (plainV S n) A B) => (show Calls Tryz.prog 67 #[.agg (caA (plainV S n) A B k m), .agg #[.int .i64 0, .slice none 0 0, .slice none 0 0]] w1 fun e w' => e = .returned (.bool true) ∧ Touch (fun _ => False) w1 w' from by
    rw [hpv] at hr1 ⊢
    exact fsameC_yes F1 (fun _ => False) A B none none k m 0 0 caN (by decide) (by decide) w1 hr1 ⟨SpR.nil _ _ _, SpR.nil _ _ _⟩))
  have hbz := builtCa
  generalize conA (termsV S n) = CK at *
  generalize caA (plainV S n) = CP at *
  clear h hr hF hok hl6 hlp hpv
  have hcn : S.con n = none := by
    cases hc : S.con n with
    | none => rfl
    | some c => rw [hc] at hs; cases hs
  clear hp
  go_enter Tryz.func34, Tryz.ntmps34
  go_wp2_with (first
    | (go_at_call 27; go_must (refine (HTe.out _ (by exact HT0.out)).mono ?_); rintro e w1 ⟨A1, k1, rfl, hr1, t1⟩
       have HT1 := Lib.hid (HT0.out.trans t1 (fun _ _ e => e))
       have HB1 := Lib.hid (t1.blk HB0.out (fun e => e))
       have HR1 := Lib.hid hr1
       have HNa := Lib.hid (Blk.new w1 24 #[.int .i64 0, .slice none 0 0, .int .i64 0, .int .i64 0])
       have HKa := Lib.hid (HKn.out A1 k1)
       have HKb := Lib.hid (HK1.out A1 k1)
       clear t1 hr1)
    | ((with_reducible apply HNa.out.st rowCo HZk.out HKa.out HKb.out); exact rfl; exact rfl; exact rfl; exact rfl
       intro w2 hb2 t2
       have tA := ((Touch.refl (fun _ => False) w1).alloc (.cells #[.int .i64 0, .slice none 0 0, .int .i64 0, .int .i64 0] 24)).trans t2 (S := fun _ => False) (fun q hq e => by omega)
       have HT2 := Lib.hid (HT1.out.trans tA (fun _ _ e => e))
       have HT12 := Lib.hid tA
       have HB2 := Lib.hid (tA.blk HB1.out (fun e => e))
       have HC2 := Lib.hid hb2
       clear hb2 t2 tA)
    | ((with_reducible apply HB2.out.ld rowSf HCN.out); exact rfl; exact rfl; exact rfl)
    | (go_at_call 66; go_must (refine (HFt.out _ (by exact HT2.out)).mono ?_); rintro e w3 ⟨A3, k3, rfl, hr3, t3⟩
       have HT3 := Lib.hid (HT2.out.trans t3 (fun _ _ e => e))
       have HT13 := Lib.hid (HT12.out.trans t3 (fun _ _ e => e))
       have HC3 := Lib.hid (t3.blk HC2.out (fun e => e))
       have HR3 := Lib.hid hr3
       have HB3 := Lib.hid (t3.blk HB2.out (fun e => e))
       have HNc := Lib.hid (Blk.new w3 24 #[.int .i64 0, .slice none 0 0, .int .i64 0, .int .i64 0])
       have HKc := Lib.hid (HKn.out A3 k3)
       have HKd := Lib.hid (HK1.out A3 k3)
       clear t3 hr3)
    | ((with_reducible apply HNc.out.st rowCo HZk.out HKc.out HKd.out); exact rfl; exact rfl; exact rfl; exact rfl
       intro w4 hb4 t4
       have tA := ((Touch.refl (fun _ => False) w3).alloc (.cells #[.int .i64 0, .slice none 0 0, .int .i64 0, .int .i64 0] 24)).trans t4 (S := fun _ => False) (fun q hq e => by omega)
       have HT4 := Lib.hid (HT3.out.trans tA (fun _ _ e => e))
       have HT14 := Lib.hid (HT13.out.trans tA (fun _ _ e => e))
       have HC4 := Lib.hid (tA.blk HC3.out (fun e => e))
       have HD4 := Lib.hid hb4
       have HR4 := Lib.hid (HR3.out.touch tA (fun _ _ e => e))
       have HB4 := Lib.hid (tA.blk HB3.out (fun e => e))
       clear hb4 t4 tA)
    | ((with_reducible apply HC4.out.ld rowCo HKa.out); exact rfl; exact rfl; exact rfl)
    | ((with_reducible apply HD4.out.ld rowCo HKc.out); exact rfl; exact rfl; exact rfl)
    | (go_at_call 12; go_must (refine (HSk.out _ _ _ _ _ _ _ (by exact HR1.out.touch HT14.out (fun _ _ e => e)) (by exact HR4.out)).mono ?_); rintro e w5 ⟨rfl, t5⟩
       have HT5 := Lib.hid (HT4.out.trans t5 (fun _ _ e => e))
       have HB5 := Lib.hid (t5.blk HB4.out (fun e => e))
       clear t5)
    | (go_at_call 31; go_must (refine (HPl.out _ (by exact HT5.out)).mono ?_); rintro e w6 ⟨A6, B6, k6, m6, rfl, hr6, t6⟩
       have HT6 := Lib.hid (HT5.out.trans t6 (fun _ _ e => e))
       have HB6 := Lib.hid (t6.blk HB5.out (fun e => e))
       have HR6 := Lib.hid hr6
       have HNe := Lib.hid (Blk.new w6 51 #[.int .i64 0, .slice none 0 0, .slice none 0 0])
       have HKe := Lib.hid (HPn.out A6 B6 k6 m6)
       have HKf := Lib.hid (HP1.out A6 B6 k6 m6)
       clear t6 hr6)
    | ((with_reducible apply HNe.out.st rowCa HZc.out HKe.out HKf.out); exact rfl; exact rfl; exact rfl; exact rfl
       intro w7 hb7 t7
       have tA := ((Touch.refl (fun _ => False) w6).alloc (.cells #[.int .i64 0, .slice none 0 0, .slice none 0 0] 51)).trans t7 (S := fun _ => False) (fun q hq e => by omega)
       have HT7 := Lib.hid (HT6.out.trans tA (fun _ _ e => e))
       have HB7 := Lib.hid (tA.blk HB6.out (fun e => e))
       have HC7 := Lib.hid hb7
       have HR7 := Lib.hid (CaR.touch HR6.out tA (fun _ _ e => e))
       clear hb7 t7 tA))
  obtain ⟨W8, hW8⟩ : ∃ W8, W8 = w7.drew := ⟨_, rfl⟩
  have HT78 := Lib.hid (show Touch (fun _ => False) w7 W8 from hW8 ▸ (Touch.refl _ w7).drew)
  have HB8 := Lib.hid (HT78.out.blk HB7.out (fun e => e))
  have HC8 := Lib.hid (HT78.out.blk HC7.out (fun e => e))
  have HT8 := Lib.hid (HT7.out.trans HT78.out (fun _ _ e => e))
  have HR8 := Lib.hid (CaR.touch HR7.out HT78.out (fun _ _ e => e))
  try clear x7
  refine wp_region_plan [(0, 0), (0, 1), (0, 2), (0, 3), (0, 4), (0, 5), (1, 6), (0, 7), (0, 8), (0, 9), (1, 10), (2, 11), (0, 12), (0, 13), (0, 14), (0, 15), (0, 16), (0, 17), (0, 18), (1, 19), (0, 20), (2, 21), (0, 22), (0, 23), (0, 24)] (fun _ => False) (by kernel_rfl) (by kernel_rfl) (fun c a d v w h => by cases d <;> exact h) ?_
  rw [← hW8]
  clear hW8
  iterate 6
    refine plan_s rfl fun Kc hKc => ?_
    go_simp
    first
      | (refine hKc _ ?_)
    clear hKc Kc
  iterate 1
    refine plan_hn rfl (by rfl) ?_
    go_frame
  iterate 3
    refine plan_s rfl fun Kc hKc => ?_
    go_simp
    first
      | (refine hKc _ ?_)
    clear hKc Kc
  iterate 1
    refine plan_hn rfl (by rfl) ?_
    go_frame
  refine plan_a rfl fun Kc hKc => ?_
  go_simp
  refine hKc _ _ ⟨Touch.refl _ _, ?_⟩
  clear hKc Kc
  iterate 7
    refine plan_s rfl fun Kc hKc => ?_
    go_simp
    first
      | (refine hKc _ ?_)
    clear hKc Kc
  refine plan_hC rowCa rfl _ rfl rfl w6.heap.size 0 rfl _ HKe.out (fun wh hT => (hT.blk HC8.out (fun e => e)).whole) ?_
  go_simp
  iterate 1
    refine plan_s rfl fun Kc hKc => ?_
    go_simp
    first
      | (refine hKc _ ?_)
    clear hKc Kc
  refine plan_a1 rfl (by rfl) (fun Kc hKc => ?_)
  go_simp
  refine (HSn.out _ _ _ _ _ _ (by exact HR8.out)).mono ?_
  rintro e w9 ⟨rfl, t9⟩
  refine hKc _ _ ⟨t9, ?_⟩
  clear hKc Kc
  have HT9 := Lib.hid (HT8.out.trans t9 (fun _ _ e => e))
  have HB9 := Lib.hid (t9.blk HB8.out (fun e => e))
  clear t9
  iterate 3
    refine plan_s rfl fun Kc hKc => ?_
    go_simp
    first
      | (refine hKc _ ?_)
    clear hKc Kc
  refine plan_done ?_
  have HCk := Lib.hid (hclock_no (HH.out.far HT9.out) n hn hcn)
  have HFk := Lib.hid (fun w1 (t : Touch (fun _ => False) w w1) => fclock_any F S HOk.out C w1 (HRf.out.far t) n hn)
  unfold FcP at HFk
  rw [hs] at HFk
  have hKN := (fun A1 B1 k1 m1 => HCn.out (clkV S n) A1 B1 k1 m1)
  have hK1 := (fun A1 B1 k1 m1 => HC1.out (clkV S n) A1 B1 k1 m1)
  have HKN := Lib.hid hKN
  have HKO := Lib.hid hK1
  generalize caA (clkV S n) = CQ at *
  clear hs hcn hKN hK1
  go_wp2_with (first
    | (go_at_call 32; go_must (refine HCk.out.mono ?_); rintro e wa ⟨rfl, ta⟩
       have HTa := Lib.hid (HT9.out.trans ta (fun _ _ e => e))
       have HBa := Lib.hid (ta.blk HB9.out (fun e => e))
       clear ta)
    | ((with_reducible apply HBa.out.ld rowSf HCN.out); exact rfl; exact rfl; exact rfl)
    | (go_at_call 68; go_must (refine (HFk.out _ (by exact HTa.out)).mono ?_); rintro e wb ⟨Ab, Bb, kb, mb, rfl, hrb, tb⟩
       have HTb := Lib.hid (HTa.out.trans tb (fun _ _ e => e))
       have HNg := Lib.hid (Blk.new wb 51 #[.int .i64 0, .slice none 0 0, .slice none 0 0])
       have HKg := Lib.hid (HKN.out Ab Bb kb mb)
       have HKh := Lib.hid (HKO.out Ab Bb kb mb)
       clear tb hrb)
    | ((with_reducible apply HNg.out.st rowCa HZc.out HKg.out HKh.out); exact rfl; exact rfl; exact rfl; exact rfl
       intro wc hbc tc
       have tA := ((Touch.refl (fun _ => False) wb).alloc (.cells #[.int .i64 0, .slice none 0 0, .slice none 0 0] 51)).trans tc (S := fun _ => False) (fun q hq e => by omega)
       have HTc := Lib.hid (HTb.out.trans tA (fun _ _ e => e))
       clear hbc tc tA))
  obtain ⟨WD, hWD⟩ : ∃ WD, WD = wc.drew := ⟨_, rfl⟩
  have HTD := Lib.hid (show Touch (fun _ => False) w WD from hWD ▸ HTc.out.drew)
  refine wp_region_plan [(0, 0), (0, 1), (0, 2), (0, 3), (0, 4), (0, 5), (0, 6), (0, 7), (0, 8), (0, 9), (0, 10), (1, 12), (2, 11), (2, 13), (0, 14), (0, 15), (0, 16), (0, 17)] (fun _ => False) (by kernel_rfl) (by kernel_rfl) (fun c a d v w h => by cases d <;> exact h) ?_
  rw [← hWD]
  clear hWD
  iterate 11
    refine plan_s rfl fun Kc hKc => ?_
    go_simp
    first
      | (refine hKc _ ?_)
    clear hKc Kc
  iterate 1
    refine plan_hn rfl (by rfl) ?_
    go_frame
  refine plan_a rfl fun Kc hKc => ?_
  go_simp
  refine hKc _ _ ⟨Touch.refl _ _, ?_⟩
  clear hKc Kc
  refine plan_a rfl fun Kc hKc => ?_
  go_simp
  refine hKc _ _ ⟨Touch.refl _ _, ?_⟩
  clear hKc Kc
  iterate 4
    refine plan_s rfl fun Kc hKc => ?_
    go_simp
    first
      | (refine hKc _ ?_)
    clear hKc Kc
  refine plan_done ?_
  go_wp2_with fail
  go_ret
  exact ⟨rfl, R, Y, HH.out.far HTD.out, fun q hq => .inl hq, fun q hq => .inl hq, HTD.out.mono (fun _ _ e => e.elim)⟩
theorem like14_nyc {w : World} {g b1 b2 : Nat} {S : Shl} {x : Int → Nat} {R X Y : Nat → Prop} (h : ShAt w g b1 b2 S x R X Y) (F : Nat → Prop) (C : Array Value) (hr : RfS w F S C) (hF : ∀ q, F q → ¬ X q) (n : Int) (hn : inN n) (hs : (S.con n).isSome = true) (hp : S.cal n = none) (h08 : 0 ≤ n ∧ n < 8) :
    Calls Tryz.prog 34 #[.pointer (some ⟨g, 0, none⟩), .agg C, .int .i64 n] w (LkP14 g b1 b2 S x R X Y w) := by
  have HT0 := Lib.hid ((Touch.refl (fun _ => False) w).alloc (.cells C 62))
  have HB0 := Lib.hid (Blk.new w 62 C)
  have HH := Lib.hid h
  have HRf := Lib.hid hr
  have HFx := Lib.hid hF
  have hgl := h.gl
  have hok := h.ok
  have HOk := Lib.hid hok
  have HTe := Lib.hid (fun w1 (t : Touch (fun _ => False) w w1) => hterms_any (h.far t) n hn)
  have HFt := Lib.hid (fun w1 (t : Touch (fun _ => False) w w1) => fterms_any F S hok C w1 (hr.far t) n hn)
  have HPl := Lib.hid (fun w1 (t : Touch (fun _ => False) w w1) => hplain_any (h.far t) n hn)
  unfold TerP at HTe
  unfold FtP at HFt
  unfold PlnS at HPl
  have HCN := Lib.hid hr.n
  have hl6 := termsV_len hok n
  have hlp := plainV_len hok n
  have HSk := Lib.hid (fun A A' n1 n2 w1 (F F' : Nat → Prop) hr1 hr2 => fsameK_yes F F' A A' n1 n2 (termsV S n) (by omega) w1 hr1 hr2)
  have HZk := Lib.hid (show (#[.int .i64 0, .slice none 0 0, .int .i64 0, .int .i64 0] : Array Value).size = 4 from rfl)
  have HZc := Lib.hid (show (#[.int .i64 0, .slice none 0 0, .slice none 0 0] : Array Value).size = 3 from rfl)
  have HKn := Lib.hid (fun A1 k1 => (show (conA (termsV S n) A1 k1).size = 4 from rfl))
  have HK1 := Lib.hid (fun A1 k1 => conA_one (termsV S n) A1 k1)
  have HCn := Lib.hid (fun (d : Ca) A1 B1 k1 m1 => (show (caA d A1 B1 k1 m1).size = 3 from rfl))
  have HC1 := Lib.hid (fun (d : Ca) A1 B1 k1 m1 => caA_one d A1 B1 k1 m1)
  have HPn := Lib.hid (fun A1 B1 k1 m1 => HCn.out (plainV S n) A1 B1 k1 m1)
  have HP1 := Lib.hid (fun A1 B1 k1 m1 => HC1.out (plainV S n) A1 B1 k1 m1)
  obtain ⟨i, rfl⟩ := Int.eq_ofNat_of_zero_le h08.1
  have hi8 : i < 8 := by omega
  have hi8' : (i : Int) < 8 := by omega
  have HLb := Lib.hid (show C[i]? = some (.bool false) by rw [HRf.out.lb i hi8, hp]; rfl)
  clear h08
  rw [hs] at HTe HFt
  rw [show (S.cal (i : Int)).isSome = false by rw [hp]; rfl] at HPl
  have hpv : plainV S (i : Int) = caN := plainV_none (by rw [hp]; rfl)
  have HSn := Lib.hid (fun A B k m w1 (F1 : Nat → Prop) (hr1 : CaR w1 F1 (plainV S (i : Int)) A B) => (show Calls Tryz.prog 67 #[.agg (caA (plainV S (i : Int)) A B k m), .agg #[.int .i64 0, .slice none 0 0, .slice none 0 0]] w1 fun e w' => e = .returned (.bool true) ∧ Touch (fun _ => False) w1 w' from by
    rw [hpv] at hr1 ⊢
    exact fsameC_yes F1 (fun _ => False) A B none none k m 0 0 caN (by decide) (by decide) w1 hr1 ⟨SpR.nil _ _ _, SpR.nil _ _ _⟩))
  have hbz := builtCa
  generalize conA (termsV S (i : Int)) = CK at *
  generalize caA (plainV S (i : Int)) = CP at *
  clear h hr hF hok hl6 hlp hpv
  clear hp
  go_enter Tryz.func34, Tryz.ntmps34
  go_wp2_with (first
    | (go_at_call 27; go_must (refine (HTe.out _ (by exact HT0.out)).mono ?_); rintro e w1 ⟨A1, k1, rfl, hr1, t1⟩
       have HT1 := Lib.hid (HT0.out.trans t1 (fun _ _ e => e))
       have HB1 := Lib.hid (t1.blk HB0.out (fun e => e))
       have HR1 := Lib.hid hr1
       have HNa := Lib.hid (Blk.new w1 24 #[.int .i64 0, .slice none 0 0, .int .i64 0, .int .i64 0])
       have HKa := Lib.hid (HKn.out A1 k1)
       have HKb := Lib.hid (HK1.out A1 k1)
       clear t1 hr1)
    | ((with_reducible apply HNa.out.st rowCo HZk.out HKa.out HKb.out); exact rfl; exact rfl; exact rfl; exact rfl
       intro w2 hb2 t2
       have tA := ((Touch.refl (fun _ => False) w1).alloc (.cells #[.int .i64 0, .slice none 0 0, .int .i64 0, .int .i64 0] 24)).trans t2 (S := fun _ => False) (fun q hq e => by omega)
       have HT2 := Lib.hid (HT1.out.trans tA (fun _ _ e => e))
       have HT12 := Lib.hid tA
       have HB2 := Lib.hid (tA.blk HB1.out (fun e => e))
       have HC2 := Lib.hid hb2
       clear hb2 t2 tA)
    | ((with_reducible apply HB2.out.ld rowSf HCN.out); exact rfl; exact rfl; exact rfl)
    | (go_at_call 66; go_must (refine (HFt.out _ (by exact HT2.out)).mono ?_); rintro e w3 ⟨A3, k3, rfl, hr3, t3⟩
       have HT3 := Lib.hid (HT2.out.trans t3 (fun _ _ e => e))
       have HT13 := Lib.hid (HT12.out.trans t3 (fun _ _ e => e))
       have HC3 := Lib.hid (t3.blk HC2.out (fun e => e))
       have HR3 := Lib.hid hr3
       have HB3 := Lib.hid (t3.blk HB2.out (fun e => e))
       have HNc := Lib.hid (Blk.new w3 24 #[.int .i64 0, .slice none 0 0, .int .i64 0, .int .i64 0])
       have HKc := Lib.hid (HKn.out A3 k3)
       have HKd := Lib.hid (HK1.out A3 k3)
       clear t3 hr3)
    | ((with_reducible apply HNc.out.st rowCo HZk.out HKc.out HKd.out); exact rfl; exact rfl; exact rfl; exact rfl
       intro w4 hb4 t4
       have tA := ((Touch.refl (fun _ => False) w3).alloc (.cells #[.int .i64 0, .slice none 0 0, .int .i64 0, .int .i64 0] 24)).trans t4 (S := fun _ => False) (fun q hq e => by omega)
       have HT4 := Lib.hid (HT3.out.trans tA (fun _ _ e => e))
       have HT14 := Lib.hid (HT13.out.trans tA (fun _ _ e => e))
       have HC4 := Lib.hid (tA.blk HC3.out (fun e => e))
       have HD4 := Lib.hid hb4
       have HR4 := Lib.hid (HR3.out.touch tA (fun _ _ e => e))
       have HB4 := Lib.hid (tA.blk HB3.out (fun e => e))
       clear hb4 t4 tA)
    | ((with_reducible apply HC4.out.ld rowCo HKa.out); exact rfl; exact rfl; exact rfl)
    | ((with_reducible apply HD4.out.ld rowCo HKc.out); exact rfl; exact rfl; exact rfl)
    | (go_at_call 12; go_must (refine (HSk.out _ _ _ _ _ _ _ (by exact HR1.out.touch HT14.out (fun _ _ e => e)) (by exact HR4.out)).mono ?_); rintro e w5 ⟨rfl, t5⟩
       have HT5 := Lib.hid (HT4.out.trans t5 (fun _ _ e => e))
       have HB5 := Lib.hid (t5.blk HB4.out (fun e => e))
       clear t5)
    | (go_at_call 31; go_must (refine (HPl.out _ (by exact HT5.out)).mono ?_); rintro e w6 ⟨A6, B6, k6, m6, rfl, hr6, t6⟩
       have HT6 := Lib.hid (HT5.out.trans t6 (fun _ _ e => e))
       have HB6 := Lib.hid (t6.blk HB5.out (fun e => e))
       have HR6 := Lib.hid hr6
       have HNe := Lib.hid (Blk.new w6 51 #[.int .i64 0, .slice none 0 0, .slice none 0 0])
       have HKe := Lib.hid (HPn.out A6 B6 k6 m6)
       have HKf := Lib.hid (HP1.out A6 B6 k6 m6)
       clear t6 hr6)
    | ((with_reducible apply HNe.out.st rowCa HZc.out HKe.out HKf.out); exact rfl; exact rfl; exact rfl; exact rfl
       intro w7 hb7 t7
       have tA := ((Touch.refl (fun _ => False) w6).alloc (.cells #[.int .i64 0, .slice none 0 0, .slice none 0 0] 51)).trans t7 (S := fun _ => False) (fun q hq e => by omega)
       have HT7 := Lib.hid (HT6.out.trans tA (fun _ _ e => e))
       have HB7 := Lib.hid (tA.blk HB6.out (fun e => e))
       have HC7 := Lib.hid hb7
       have HR7 := Lib.hid (CaR.touch HR6.out tA (fun _ _ e => e))
       have x7 := HB7.out.cell i
       rw [HLb.out] at x7
       clear hb7 t7 tA))
  obtain ⟨W8, hW8⟩ : ∃ W8, W8 = w7.drew := ⟨_, rfl⟩
  have HT78 := Lib.hid (show Touch (fun _ => False) w7 W8 from hW8 ▸ (Touch.refl _ w7).drew)
  have HB8 := Lib.hid (HT78.out.blk HB7.out (fun e => e))
  have HC8 := Lib.hid (HT78.out.blk HC7.out (fun e => e))
  have HT8 := Lib.hid (HT7.out.trans HT78.out (fun _ _ e => e))
  have HR8 := Lib.hid (CaR.touch HR7.out HT78.out (fun _ _ e => e))
  try clear x7
  refine wp_region_plan [(0, 0), (0, 1), (0, 2), (0, 3), (0, 4), (0, 5), (1, 6), (0, 7), (0, 8), (0, 9), (1, 10), (2, 11), (0, 12), (0, 13), (0, 14), (0, 15), (0, 16), (0, 17), (0, 18), (1, 19), (0, 20), (2, 21), (0, 22), (0, 23), (0, 24)] (fun _ => False) (by kernel_rfl) (by kernel_rfl) (fun c a d v w h => by cases d <;> exact h) ?_
  rw [← hW8]
  clear hW8
  iterate 6
    refine plan_s rfl fun Kc hKc => ?_
    go_simp
    first
      | (refine hKc _ ?_)
    clear hKc Kc
  iterate 1
    refine plan_hn rfl (by rfl) ?_
    go_frame
  iterate 3
    refine plan_s rfl fun Kc hKc => ?_
    go_simp
    first
      | (refine hKc _ ?_)
    clear hKc Kc
  iterate 1
    refine plan_hn rfl (by rfl) ?_
    go_frame
  refine plan_a rfl fun Kc hKc => ?_
  go_simp
  refine hKc _ _ ⟨Touch.refl _ _, ?_⟩
  clear hKc Kc
  iterate 7
    refine plan_s rfl fun Kc hKc => ?_
    go_simp
    first
      | (refine hKc _ ?_)
    clear hKc Kc
  refine plan_hC rowCa rfl _ rfl rfl w6.heap.size 0 rfl _ HKe.out (fun wh hT => (hT.blk HC8.out (fun e => e)).whole) ?_
  go_simp
  iterate 1
    refine plan_s rfl fun Kc hKc => ?_
    go_simp
    first
      | (refine hKc _ ?_)
    clear hKc Kc
  refine plan_a1 rfl (by rfl) (fun Kc hKc => ?_)
  go_simp
  refine (HSn.out _ _ _ _ _ _ (by exact HR8.out)).mono ?_
  rintro e w9 ⟨rfl, t9⟩
  refine hKc _ _ ⟨t9, ?_⟩
  clear hKc Kc
  have HT9 := Lib.hid (HT8.out.trans t9 (fun _ _ e => e))
  have HB9 := Lib.hid (t9.blk HB8.out (fun e => e))
  clear t9
  iterate 3
    refine plan_s rfl fun Kc hKc => ?_
    go_simp
    first
      | (refine hKc _ ?_)
    clear hKc Kc
  refine plan_done ?_
  obtain ⟨c, hc⟩ : ∃ c, S.con (i : Int) = some c := Option.isSome_iff_exists.1 hs
  obtain ⟨d, hd⟩ : ∃ d, S.cal c.cal = some d := Option.isSome_iff_exists.1 (HOk.out.con (i : Int) c hc).2.2
  have hcv : clkV S (i : Int) = d := by
    unfold clkV; rw [if_pos hs]; unfold termsV plainV; rw [hc]; simp only [Option.getD_some]; rw [hd]; rfl
  have hdl := checkE_len (HOk.out.cal _ d hd).2
  have HXc := Lib.hid (HH.out.xX _ d hd)
  have HCk := Lib.hid (hclock_yes (HH.out.far HT9.out) (i : Int) hn hc hd)
  have HFk := Lib.hid (fun w1 (t : Touch X w w1) => fclock_any F S HOk.out C w1 (HRf.out.touch t HFx.out) (i : Int) hn)
  unfold FcP at HFk
  rw [hs, hcv] at HFk
  unfold HckP at HCk
  have HKN := Lib.hid (fun A1 B1 k1 m1 => HCn.out d A1 B1 k1 m1)
  have HKO := Lib.hid (fun A1 B1 k1 m1 => HC1.out d A1 B1 k1 m1)
  have HSd := Lib.hid (fun A B k m A' B' k' m' (F F' : Nat → Prop) w1 hr1 hr2 => fsameC_yes F F' A B A' B' k m k' m' d (by omega) (by omega) w1 hr1 hr2)
  have HPd := Lib.hid (fun k a p b G w1 h => cplainA_any k a p b d G w1 h)
  obtain ⟨xc, hxc⟩ : ∃ xc, xc = x c.cal := ⟨_, rfl⟩
  rw [← hxc] at HXc HCk
  generalize hCQ : caA d = CQ at *
  have hgx : w.heap.size ≠ xc := by have := HH.out.lt _ (.inr (.inl HXc.out)); omega
  clear hs hc hd hcv hdl hxc hCQ
  go_wp2_with (first
    | (go_at_call 32; go_must (refine HCk.out.mono ?_); rintro e wa ⟨kk, aa, pp, bb, R', Y', rfl, hsh, hck, hyb, hR', hY', ta⟩
       have HTa := Lib.hid ((HT9.out.mono (S' := X) (fun _ _ e => e.elim)).trans ta (fun q hq e => e ▸ HXc.out))
       have HBa := Lib.hid (ta.blk HB9.out hgx)
       have HSh := Lib.hid hsh
       have HCka := Lib.hid hck
       have HRY := Lib.hid (And.intro hR' hY')
       clear ta hsh hck hyb hR' hY')
    | ((with_reducible apply HBa.out.ld rowSf HCN.out); exact rfl; exact rfl; exact rfl)
    | (go_at_call 68; go_must (refine (HFk.out _ (by exact HTa.out)).mono ?_); rintro e wb ⟨Ab, Bb, kb, mb, rfl, hrb, tb⟩
       have HTab := Lib.hid tb
       have HRb := Lib.hid hrb
       have HNg := Lib.hid (Blk.new wb 51 #[.int .i64 0, .slice none 0 0, .slice none 0 0])
       have HKg := Lib.hid (HKN.out Ab Bb kb mb)
       have HKh := Lib.hid (HKO.out Ab Bb kb mb)
       clear tb hrb)
    | ((with_reducible apply HNg.out.st rowCa HZc.out HKg.out HKh.out); exact rfl; exact rfl; exact rfl; exact rfl
       intro wc hbc tc
       have tA := ((Touch.refl (fun _ => False) wb).alloc (.cells #[.int .i64 0, .slice none 0 0, .slice none 0 0] 51)).trans tc (S := fun _ => False) (fun q hq e => by omega)
       have HTac := Lib.hid (HTab.out.trans tA (fun _ _ e => e))
       have HBc := Lib.hid hbc
       have HRc := Lib.hid (CaR.touch HRb.out tA (fun _ _ e => e))
       clear hbc tc tA))
  obtain ⟨WD, hWD⟩ : ∃ WD, WD = wc.drew := ⟨_, rfl⟩
  have HTcD := Lib.hid (show Touch (fun _ => False) wc WD from hWD ▸ (Touch.refl _ wc).drew)
  have HTaD := Lib.hid (HTac.out.trans HTcD.out (fun _ _ e => e))
  have HBD := Lib.hid (HTcD.out.blk HBc.out (fun e => e))
  have HRD := Lib.hid (CaR.touch HRc.out HTcD.out (fun _ _ e => e))
  refine wp_region_plan [(0, 0), (0, 1), (0, 2), (0, 3), (0, 4), (0, 5), (0, 6), (0, 7), (0, 8), (0, 9), (0, 10), (1, 12), (2, 11), (2, 13), (0, 14), (0, 15), (0, 16), (0, 17)] (fun _ => False) (by kernel_rfl) (by kernel_rfl) (fun c a d v w h => by cases d <;> exact h) ?_
  rw [← hWD]
  clear hWD
  iterate 11
    refine plan_s rfl fun Kc hKc => ?_
    go_simp
    first
      | (refine hKc _ ?_)
    clear hKc Kc
  refine plan_hC rowCa rfl _ rfl rfl wb.heap.size 0 rfl _ HKg.out (fun wh hT => (hT.blk HBD.out (fun e => e)).whole) ?_
  go_simp
  refine plan_a1 rfl (by rfl) (fun Kc hKc => ?_)
  go_simp
  refine (HPd.out kk aa pp bb _ _ (by exact HCka.out.none HTaD.out)).mono ?_
  rintro e we ⟨Ae, Be, ke, me, rfl, hre, te⟩
  refine hKc _ _ ⟨te, ?_⟩
  clear hKc Kc
  have HRe := Lib.hid hre
  have HTe2 := Lib.hid te
  clear hre te
  refine plan_a1 rfl (by rfl) (fun Kc hKc => ?_)
  go_simp
  refine (HSd.out _ _ _ _ _ _ _ _ _ _ _ (by exact HRe.out) (by exact CaR.touch HRD.out HTe2.out (fun _ _ e => e))).mono ?_
  rintro e wf ⟨rfl, tf⟩
  refine hKc _ _ ⟨tf, ?_⟩
  clear hKc Kc
  have HTaf := Lib.hid ((HTaD.out.trans HTe2.out (fun _ _ e => e)).trans tf (fun _ _ e => e))
  clear tf
  iterate 4
    refine plan_s rfl fun Kc hKc => ?_
    go_simp
    first
      | (refine hKc _ ?_)
    clear hKc Kc
  refine plan_done ?_
  go_wp2_with fail
  go_ret
  have hz9 := HT9.out.size
  have hzf := HTaf.out.size
  exact ⟨rfl, R', Y', HSh.out.far HTaf.out, (fun q hq => by rcases HRY.out.1 q hq with h1 | h1; exact .inl h1; exact .inr (by omega)), (fun q hq => by rcases HRY.out.2 q hq with h1 | h1; exact .inl h1; exact .inr (by omega)), HTa.out.trans HTaf.out (fun _ _ e => e.elim)⟩
theorem like14_nnc {w : World} {g b1 b2 : Nat} {S : Shl} {x : Int → Nat} {R X Y : Nat → Prop} (h : ShAt w g b1 b2 S x R X Y) (F : Nat → Prop) (C : Array Value) (hr : RfS w F S C) (hF : ∀ q, F q → ¬ X q) (n : Int) (hn : inN n) (hs : (S.con n).isSome = false) (hp : S.cal n = none) (h08 : 0 ≤ n ∧ n < 8) :
    Calls Tryz.prog 34 #[.pointer (some ⟨g, 0, none⟩), .agg C, .int .i64 n] w (LkP14 g b1 b2 S x R X Y w) := by
  have HT0 := Lib.hid ((Touch.refl (fun _ => False) w).alloc (.cells C 62))
  have HB0 := Lib.hid (Blk.new w 62 C)
  have HH := Lib.hid h
  have HRf := Lib.hid hr
  have HFx := Lib.hid hF
  have hgl := h.gl
  have hok := h.ok
  have HOk := Lib.hid hok
  have HTe := Lib.hid (fun w1 (t : Touch (fun _ => False) w w1) => hterms_any (h.far t) n hn)
  have HFt := Lib.hid (fun w1 (t : Touch (fun _ => False) w w1) => fterms_any F S hok C w1 (hr.far t) n hn)
  have HPl := Lib.hid (fun w1 (t : Touch (fun _ => False) w w1) => hplain_any (h.far t) n hn)
  unfold TerP at HTe
  unfold FtP at HFt
  unfold PlnS at HPl
  have HCN := Lib.hid hr.n
  have hl6 := termsV_len hok n
  have hlp := plainV_len hok n
  have HSk := Lib.hid (fun A A' n1 n2 w1 (F F' : Nat → Prop) hr1 hr2 => fsameK_yes F F' A A' n1 n2 (termsV S n) (by omega) w1 hr1 hr2)
  have HZk := Lib.hid (show (#[.int .i64 0, .slice none 0 0, .int .i64 0, .int .i64 0] : Array Value).size = 4 from rfl)
  have HZc := Lib.hid (show (#[.int .i64 0, .slice none 0 0, .slice none 0 0] : Array Value).size = 3 from rfl)
  have HKn := Lib.hid (fun A1 k1 => (show (conA (termsV S n) A1 k1).size = 4 from rfl))
  have HK1 := Lib.hid (fun A1 k1 => conA_one (termsV S n) A1 k1)
  have HCn := Lib.hid (fun (d : Ca) A1 B1 k1 m1 => (show (caA d A1 B1 k1 m1).size = 3 from rfl))
  have HC1 := Lib.hid (fun (d : Ca) A1 B1 k1 m1 => caA_one d A1 B1 k1 m1)
  have HPn := Lib.hid (fun A1 B1 k1 m1 => HCn.out (plainV S n) A1 B1 k1 m1)
  have HP1 := Lib.hid (fun A1 B1 k1 m1 => HC1.out (plainV S n) A1 B1 k1 m1)
  obtain ⟨i, rfl⟩ := Int.eq_ofNat_of_zero_le h08.1
  have hi8 : i < 8 := by omega
  have hi8' : (i : Int) < 8 := by omega
  have HLb := Lib.hid (show C[i]? = some (.bool false) by rw [HRf.out.lb i hi8, hp]; rfl)
  clear h08
  rw [hs] at HTe HFt
  rw [show (S.cal (i : Int)).isSome = false by rw [hp]; rfl] at HPl
  have hpv : plainV S (i : Int) = caN := plainV_none (by rw [hp]; rfl)
  have HSn := Lib.hid (fun A B k m w1 (F1 : Nat → Prop) (hr1 : CaR w1 F1 (plainV S (i : Int)) A B) => (show Calls Tryz.prog 67 #[.agg (caA (plainV S (i : Int)) A B k m), .agg #[.int .i64 0, .slice none 0 0, .slice none 0 0]] w1 fun e w' => e = .returned (.bool true) ∧ Touch (fun _ => False) w1 w' from by
    rw [hpv] at hr1 ⊢
    exact fsameC_yes F1 (fun _ => False) A B none none k m 0 0 caN (by decide) (by decide) w1 hr1 ⟨SpR.nil _ _ _, SpR.nil _ _ _⟩))
  have hbz := builtCa
  generalize conA (termsV S (i : Int)) = CK at *
  generalize caA (plainV S (i : Int)) = CP at *
  clear h hr hF hok hl6 hlp hpv
  have hcn : S.con (i : Int) = none := by
    cases hc : S.con (i : Int) with
    | none => rfl
    | some c => rw [hc] at hs; cases hs
  clear hp
  go_enter Tryz.func34, Tryz.ntmps34
  go_wp2_with (first
    | (go_at_call 27; go_must (refine (HTe.out _ (by exact HT0.out)).mono ?_); rintro e w1 ⟨A1, k1, rfl, hr1, t1⟩
       have HT1 := Lib.hid (HT0.out.trans t1 (fun _ _ e => e))
       have HB1 := Lib.hid (t1.blk HB0.out (fun e => e))
       have HR1 := Lib.hid hr1
       have HNa := Lib.hid (Blk.new w1 24 #[.int .i64 0, .slice none 0 0, .int .i64 0, .int .i64 0])
       have HKa := Lib.hid (HKn.out A1 k1)
       have HKb := Lib.hid (HK1.out A1 k1)
       clear t1 hr1)
    | ((with_reducible apply HNa.out.st rowCo HZk.out HKa.out HKb.out); exact rfl; exact rfl; exact rfl; exact rfl
       intro w2 hb2 t2
       have tA := ((Touch.refl (fun _ => False) w1).alloc (.cells #[.int .i64 0, .slice none 0 0, .int .i64 0, .int .i64 0] 24)).trans t2 (S := fun _ => False) (fun q hq e => by omega)
       have HT2 := Lib.hid (HT1.out.trans tA (fun _ _ e => e))
       have HT12 := Lib.hid tA
       have HB2 := Lib.hid (tA.blk HB1.out (fun e => e))
       have HC2 := Lib.hid hb2
       clear hb2 t2 tA)
    | ((with_reducible apply HB2.out.ld rowSf HCN.out); exact rfl; exact rfl; exact rfl)
    | (go_at_call 66; go_must (refine (HFt.out _ (by exact HT2.out)).mono ?_); rintro e w3 ⟨A3, k3, rfl, hr3, t3⟩
       have HT3 := Lib.hid (HT2.out.trans t3 (fun _ _ e => e))
       have HT13 := Lib.hid (HT12.out.trans t3 (fun _ _ e => e))
       have HC3 := Lib.hid (t3.blk HC2.out (fun e => e))
       have HR3 := Lib.hid hr3
       have HB3 := Lib.hid (t3.blk HB2.out (fun e => e))
       have HNc := Lib.hid (Blk.new w3 24 #[.int .i64 0, .slice none 0 0, .int .i64 0, .int .i64 0])
       have HKc := Lib.hid (HKn.out A3 k3)
       have HKd := Lib.hid (HK1.out A3 k3)
       clear t3 hr3)
    | ((with_reducible apply HNc.out.st rowCo HZk.out HKc.out HKd.out); exact rfl; exact rfl; exact rfl; exact rfl
       intro w4 hb4 t4
       have tA := ((Touch.refl (fun _ => False) w3).alloc (.cells #[.int .i64 0, .slice none 0 0, .int .i64 0, .int .i64 0] 24)).trans t4 (S := fun _ => False) (fun q hq e => by omega)
       have HT4 := Lib.hid (HT3.out.trans tA (fun _ _ e => e))
       have HT14 := Lib.hid (HT13.out.trans tA (fun _ _ e => e))
       have HC4 := Lib.hid (tA.blk HC3.out (fun e => e))
       have HD4 := Lib.hid hb4
       have HR4 := Lib.hid (HR3.out.touch tA (fun _ _ e => e))
       have HB4 := Lib.hid (tA.blk HB3.out (fun e => e))
       clear hb4 t4 tA)
    | ((with_reducible apply HC4.out.ld rowCo HKa.out); exact rfl; exact rfl; exact rfl)
    | ((with_reducible apply HD4.out.ld rowCo HKc.out); exact rfl; exact rfl; exact rfl)
    | (go_at_call 12; go_must (refine (HSk.out _ _ _ _ _ _ _ (by exact HR1.out.touch HT14.out (fun _ _ e => e)) (by exact HR4.out)).mono ?_); rintro e w5 ⟨rfl, t5⟩
       have HT5 := Lib.hid (HT4.out.trans t5 (fun _ _ e => e))
       have HB5 := Lib.hid (t5.blk HB4.out (fun e => e))
       clear t5)
    | (go_at_call 31; go_must (refine (HPl.out _ (by exact HT5.out)).mono ?_); rintro e w6 ⟨A6, B6, k6, m6, rfl, hr6, t6⟩
       have HT6 := Lib.hid (HT5.out.trans t6 (fun _ _ e => e))
       have HB6 := Lib.hid (t6.blk HB5.out (fun e => e))
       have HR6 := Lib.hid hr6
       have HNe := Lib.hid (Blk.new w6 51 #[.int .i64 0, .slice none 0 0, .slice none 0 0])
       have HKe := Lib.hid (HPn.out A6 B6 k6 m6)
       have HKf := Lib.hid (HP1.out A6 B6 k6 m6)
       clear t6 hr6)
    | ((with_reducible apply HNe.out.st rowCa HZc.out HKe.out HKf.out); exact rfl; exact rfl; exact rfl; exact rfl
       intro w7 hb7 t7
       have tA := ((Touch.refl (fun _ => False) w6).alloc (.cells #[.int .i64 0, .slice none 0 0, .slice none 0 0] 51)).trans t7 (S := fun _ => False) (fun q hq e => by omega)
       have HT7 := Lib.hid (HT6.out.trans tA (fun _ _ e => e))
       have HB7 := Lib.hid (tA.blk HB6.out (fun e => e))
       have HC7 := Lib.hid hb7
       have HR7 := Lib.hid (CaR.touch HR6.out tA (fun _ _ e => e))
       have x7 := HB7.out.cell i
       rw [HLb.out] at x7
       clear hb7 t7 tA))
  obtain ⟨W8, hW8⟩ : ∃ W8, W8 = w7.drew := ⟨_, rfl⟩
  have HT78 := Lib.hid (show Touch (fun _ => False) w7 W8 from hW8 ▸ (Touch.refl _ w7).drew)
  have HB8 := Lib.hid (HT78.out.blk HB7.out (fun e => e))
  have HC8 := Lib.hid (HT78.out.blk HC7.out (fun e => e))
  have HT8 := Lib.hid (HT7.out.trans HT78.out (fun _ _ e => e))
  have HR8 := Lib.hid (CaR.touch HR7.out HT78.out (fun _ _ e => e))
  try clear x7
  refine wp_region_plan [(0, 0), (0, 1), (0, 2), (0, 3), (0, 4), (0, 5), (1, 6), (0, 7), (0, 8), (0, 9), (1, 10), (2, 11), (0, 12), (0, 13), (0, 14), (0, 15), (0, 16), (0, 17), (0, 18), (1, 19), (0, 20), (2, 21), (0, 22), (0, 23), (0, 24)] (fun _ => False) (by kernel_rfl) (by kernel_rfl) (fun c a d v w h => by cases d <;> exact h) ?_
  rw [← hW8]
  clear hW8
  iterate 6
    refine plan_s rfl fun Kc hKc => ?_
    go_simp
    first
      | (refine hKc _ ?_)
    clear hKc Kc
  iterate 1
    refine plan_hn rfl (by rfl) ?_
    go_frame
  iterate 3
    refine plan_s rfl fun Kc hKc => ?_
    go_simp
    first
      | (refine hKc _ ?_)
    clear hKc Kc
  iterate 1
    refine plan_hn rfl (by rfl) ?_
    go_frame
  refine plan_a rfl fun Kc hKc => ?_
  go_simp
  refine hKc _ _ ⟨Touch.refl _ _, ?_⟩
  clear hKc Kc
  iterate 7
    refine plan_s rfl fun Kc hKc => ?_
    go_simp
    first
      | (refine hKc _ ?_)
    clear hKc Kc
  refine plan_hC rowCa rfl _ rfl rfl w6.heap.size 0 rfl _ HKe.out (fun wh hT => (hT.blk HC8.out (fun e => e)).whole) ?_
  go_simp
  iterate 1
    refine plan_s rfl fun Kc hKc => ?_
    go_simp
    first
      | (refine hKc _ ?_)
    clear hKc Kc
  refine plan_a1 rfl (by rfl) (fun Kc hKc => ?_)
  go_simp
  refine (HSn.out _ _ _ _ _ _ (by exact HR8.out)).mono ?_
  rintro e w9 ⟨rfl, t9⟩
  refine hKc _ _ ⟨t9, ?_⟩
  clear hKc Kc
  have HT9 := Lib.hid (HT8.out.trans t9 (fun _ _ e => e))
  have HB9 := Lib.hid (t9.blk HB8.out (fun e => e))
  clear t9
  iterate 3
    refine plan_s rfl fun Kc hKc => ?_
    go_simp
    first
      | (refine hKc _ ?_)
    clear hKc Kc
  refine plan_done ?_
  have HCk := Lib.hid (hclock_no (HH.out.far HT9.out) (i : Int) hn hcn)
  have HFk := Lib.hid (fun w1 (t : Touch (fun _ => False) w w1) => fclock_any F S HOk.out C w1 (HRf.out.far t) (i : Int) hn)
  unfold FcP at HFk
  rw [hs] at HFk
  have hKN := (fun A1 B1 k1 m1 => HCn.out (clkV S (i : Int)) A1 B1 k1 m1)
  have hK1 := (fun A1 B1 k1 m1 => HC1.out (clkV S (i : Int)) A1 B1 k1 m1)
  have HKN := Lib.hid hKN
  have HKO := Lib.hid hK1
  generalize caA (clkV S (i : Int)) = CQ at *
  clear hs hcn hKN hK1
  go_wp2_with (first
    | (go_at_call 32; go_must (refine HCk.out.mono ?_); rintro e wa ⟨rfl, ta⟩
       have HTa := Lib.hid (HT9.out.trans ta (fun _ _ e => e))
       have HBa := Lib.hid (ta.blk HB9.out (fun e => e))
       clear ta)
    | ((with_reducible apply HBa.out.ld rowSf HCN.out); exact rfl; exact rfl; exact rfl)
    | (go_at_call 68; go_must (refine (HFk.out _ (by exact HTa.out)).mono ?_); rintro e wb ⟨Ab, Bb, kb, mb, rfl, hrb, tb⟩
       have HTb := Lib.hid (HTa.out.trans tb (fun _ _ e => e))
       have HNg := Lib.hid (Blk.new wb 51 #[.int .i64 0, .slice none 0 0, .slice none 0 0])
       have HKg := Lib.hid (HKN.out Ab Bb kb mb)
       have HKh := Lib.hid (HKO.out Ab Bb kb mb)
       clear tb hrb)
    | ((with_reducible apply HNg.out.st rowCa HZc.out HKg.out HKh.out); exact rfl; exact rfl; exact rfl; exact rfl
       intro wc hbc tc
       have tA := ((Touch.refl (fun _ => False) wb).alloc (.cells #[.int .i64 0, .slice none 0 0, .slice none 0 0] 51)).trans tc (S := fun _ => False) (fun q hq e => by omega)
       have HTc := Lib.hid (HTb.out.trans tA (fun _ _ e => e))
       clear hbc tc tA))
  obtain ⟨WD, hWD⟩ : ∃ WD, WD = wc.drew := ⟨_, rfl⟩
  have HTD := Lib.hid (show Touch (fun _ => False) w WD from hWD ▸ HTc.out.drew)
  refine wp_region_plan [(0, 0), (0, 1), (0, 2), (0, 3), (0, 4), (0, 5), (0, 6), (0, 7), (0, 8), (0, 9), (0, 10), (1, 12), (2, 11), (2, 13), (0, 14), (0, 15), (0, 16), (0, 17)] (fun _ => False) (by kernel_rfl) (by kernel_rfl) (fun c a d v w h => by cases d <;> exact h) ?_
  rw [← hWD]
  clear hWD
  iterate 11
    refine plan_s rfl fun Kc hKc => ?_
    go_simp
    first
      | (refine hKc _ ?_)
    clear hKc Kc
  iterate 1
    refine plan_hn rfl (by rfl) ?_
    go_frame
  refine plan_a rfl fun Kc hKc => ?_
  go_simp
  refine hKc _ _ ⟨Touch.refl _ _, ?_⟩
  clear hKc Kc
  refine plan_a rfl fun Kc hKc => ?_
  go_simp
  refine hKc _ _ ⟨Touch.refl _ _, ?_⟩
  clear hKc Kc
  iterate 4
    refine plan_s rfl fun Kc hKc => ?_
    go_simp
    first
      | (refine hKc _ ?_)
    clear hKc Kc
  refine plan_done ?_
  go_wp2_with fail
  go_ret
  exact ⟨rfl, R, Y, HH.out.far HTD.out, fun q hq => .inl hq, fun q hq => .inl hq, HTD.out.mono (fun _ _ e => e.elim)⟩
theorem like14_any {w : World} {g b1 b2 : Nat} {S : Shl} {x : Int → Nat} {R X Y : Nat → Prop} (h : ShAt w g b1 b2 S x R X Y) (F : Nat → Prop) (C : Array Value) (hr : RfS w F S C) (hF : ∀ q, F q → ¬ X q) (n : Int) (hn : inN n) :
    Calls Tryz.prog 34 #[.pointer (some ⟨g, 0, none⟩), .agg C, .int .i64 n] w (LkP14 g b1 b2 S x R X Y w) := by
  cases hs : (S.con n).isSome <;> cases hp : S.cal n
  · rcases (by omega : n < 0 ∨ 8 ≤ n ∨ (0 ≤ n ∧ n < 8)) with h1 | h1 | h1
    · exact like14_nna h F C hr hF n hn hs hp h1
    · exact like14_nnb h F C hr hF n hn hs hp h1
    · exact like14_nnc h F C hr hF n hn hs hp h1
  · exact like14_yn h F C hr hF n hn hs ⟨_, hp⟩
  · rcases (by omega : n < 0 ∨ 8 ≤ n ∨ (0 ≤ n ∧ n < 8)) with h1 | h1 | h1
    · exact like14_nya h F C hr hF n hn hs hp h1
    · exact like14_nyb h F C hr hF n hn hs hp h1
    · exact like14_nyc h F C hr hF n hn hs hp h1
  · exact like14_yy h F C hr hF n hn hs ⟨_, hp⟩
end Go.Proofs.YtlcefchbfjfifaaGreat
