/- ContractApart walked. (written by gensie.py) -/
import Derived.Test.YtlcefchbfjfifaaGreatVSiD
import Derived.Test.YtlcefchbfjfifaaGreatVShN
namespace Go.Proofs.YtlcefchbfjfifaaGreat
open Go.RowKit Cal Go.Maps
set_option maxHeartbeats 4000000
set_option maxRecDepth 100000
set_option linter.unusedVariables false
attribute [local irreducible] wpPlan

theorem SpR.srcS {w : World} {F : Nat → Prop} {A : Option Addr} {l : List Sp} (h : SpR w F A l.length l) (k : Nat) : Src Tryz.prog 2 49 (.slice A l.length k) l.length (l.flatMap spC) w := by
  rcases A with _ | ad
  · obtain ⟨h0, rfl⟩ := h.isN
    exact Src.ofNil _ Tryz.underlying49 k
  · exact Src.ofSlice _ Tryz.underlying49 ad l.length k _ h.2.1 h.isS (spC_one l)
/-- The operation with another row of levels. -/
def SOpV.lv2 (o : SOpV) (A : Option Addr) (n : Nat) : SOpV := { o with D := A, q := n }
theorem SOpV.set5 (o : SOpV) (A : Option Addr) (n : Nat) : setAll o.arr 5 (conA o.d A n).toList = (o.lv2 A n).arr := by
  simp [SOpV.arr, SOpV.lv2, conA, setAll]
theorem SOpV.set3 (o : SOpV) (v : Value) : (o.arr.setIfInBounds 3 v)[6]? = some (.slice o.D o.d.lv.length o.q) ∧ (o.arr.setIfInBounds 3 v)[5]? = some (.int .i64 o.d.cal) ∧ (o.arr.setIfInBounds 3 v).extract 5 (5 + 4) = conA o.d o.D o.q := by
  refine ⟨?_, ?_, ?_⟩
  · simp [SOpV.arr]
  · simp [SOpV.arr]
  · rfl
section
variable {w wr w' : World} {tb gs b1 b2 : Nat} {S S' : Shl} {x : Int → Nat} {R X Y : Nat → Prop} {C T : Array Value}
theorem Bo14.off {U : Nat → Prop} (h : Bo14 w wr tb gs b1 b2 S x R X Y C T) (t : Touch U wr w') (hg : ¬ U gs) (h1 : ¬ U b1) (h2 : ¬ U b2) (ht : ¬ U tb) (hR : ∀ q, R q ∨ X q ∨ Y q → ¬ U q) (hw : ∀ q, q < w.heap.size → ¬ U q) : Bo14 w w' tb gs b1 b2 S x R X Y C T :=
  ⟨h.sh.touch t hg h1 h2 hR, h.rf.touch t hw, t.blk h.tab ht, h.t.trans t (fun q hq e => hw q hq e), h.ge, h.rx, h.ne⟩
theorem Bo14.didG (h : Bo14 w wr tb gs b1 b2 S x R X Y C T) {e : Ending} (hp : DoP14 S' gs b1 b2 (fun k => k < w.heap.size) R X Y wr e w') : ∃ C' x' R' X', e = .returned (.tuple #[.agg C', .bool true]) ∧ Bo14 w w' tb gs b1 b2 S' x' R' X' Y C' T ∧ (∀ q, R' q ∨ X' q ∨ Y q → (R q ∨ X q ∨ Y q) ∨ wr.heap.size ≤ q) ∧ Touch (fun q => q = b1 ∨ q = b2) wr w' := by
  obtain ⟨h1, h2, h3, h4, h5, h6, h7⟩ := h
  obtain ⟨C', x', R', X', he, hr, hs, hR, hX, t⟩ := hp
  have hz := h4.size
  have htb := h3.lt
  refine ⟨C', x', R', X', he, ⟨hs, hr, t.blk h3 (by omega), h4.trans t (fun q hq e => by omega), h5, fun q hq => ?_, h7⟩, fun q hq => ?_, t⟩
  · rcases hq with hq | hq | hq
    · rcases hR q hq with e | e
      · exact h6 q (.inl e)
      · omega
    · rcases hX q hq with e | e
      · exact h6 q (.inr (.inl e))
      · omega
    · exact h6 q (.inr (.inr hq))
  · rcases hq with hq | hq | hq
    · rcases hR q hq with e | e
      · exact .inl (.inl e)
      · exact .inr e.1
    · rcases hX q hq with e | e
      · exact .inl (.inr (.inl e))
      · exact .inr e.1
    · exact .inl (.inr (.inr hq))
end
theorem walk_ContractApart {w : World} (A2 : Option Addr) (n2 c2 : Nat) (l2 : List SOpV) (e2 : l2.length = n2) (o2 : ∀ x ∈ l2, x.ok w) (z2 : ∀ a ∈ l2, a.cells.length = 9) (g2 : A2 = none → c2 = 0) (u2 : n2 ≤ c2) (m2 : c2 ≤ maxLen) (s2 : RdZ w (fun k => k < w.heap.size) 9 A2 n2 (l2.flatMap SOpV.cells))
    (oa : SOpV) (oo : oa.ok w) (xx : Int) (kx : -9223372036854775808 ≤ xx ∧ xx ≤ 9223372036854775807) :
    Calls Tryz.prog 4 #[.slice A2 n2 c2, .agg oa.cells.toArray, .int .i64 xx] w fun e w' => e = .returned (.bool true) ∧ Below w.heap.size w w' := by
  subst e2
  rw [show oa.cells.toArray = oa.arr from by simp [SOpV.cells]]
  unfold maxLen at m2
  have hta : Touch (fun _ => False) w (w.alloc (.cells oa.arr 53)) := (Touch.refl _ w).alloc _
  have HS2 := Lib.hid s2
  have HO2 := Lib.hid o2
  have HOa := Lib.hid oo
  have HLi := Lib.hid (light14_any _ A2 c2 l2 _ (s2.touch hta (fun _ _ e => e)) (by omega))
  have HLo := Lib.hid (fun (w1 : World) => light14_any (fun _ => True) _ 1 [oa] _ (oneSO w1 oa) (by simp))
  have HFo := Lib.hid (foldSO oa)
  have HAn := Lib.hid oa.size
  have HTa := Lib.hid hta
  have HBa := Lib.hid (Blk.new w 53 oa.arr)
  have HLa := Lib.hid (show light14B [oa] = true → oa.c.wk.length ≤ 60 ∧ oa.c.cl.length ≤ 60 ∧ oa.d.lv.length ≤ 60 from fun h => (light14_in h).1 oa (by simp))
  have HDa := Lib.hid (fun (w : World) (g b1 b2 : Nat) (S : Shl) (x : Int → Nat) (R X Y : Nat → Prop) (h : ShAt w g b1 b2 S x R X Y) (F : Nat → Prop) (C : Array Value) (hr : RfS w F S C) (hn : inN oa.n) (hc : CaR w F oa.c oa.A oa.B) (hd : SpR w F oa.D oa.d.lv.length oa.d.lv) (h1 : oa.c.wk.length ≤ 1000000) (h2 : oa.c.cl.length ≤ 1000000) (hF : ∀ q, F q → q ≠ b1 ∧ q ≠ b2) (hFl : ∀ q, F q → q < w.heap.size) => do14_any h F C hr oa hn hc hd h1 h2 hF hFl)
  obtain ⟨OA, hOA⟩ : ∃ OA, OA = oa.arr := ⟨_, rfl⟩
  rw [← hOA] at HLi HLo HFo HAn HTa HBa HDa ⊢
  have hcn := HAn.out
  clear o2 z2 g2 s2 u2 hta oo hOA
  generalize light14B [oa] = lb at *
  cases hl : light14B l2
  · rw [hl] at HLi
    clear hl
    go_enter Tryz.func4, Tryz.ntmps4
    go_wp2_with (first
      | (go_at_call 22; go_must (refine HLi.out.mono ?_); rintro e w1 ⟨rfl, t1⟩; have HT := Lib.hid (HTa.out.trans t1 (fun _ _ e => e)); clear t1)
      | (go_at_call 8; go_must (refine (lives14_any _).mono ?_); rintro e w2 ⟨rfl, t2⟩; have HT := Lib.hid (HT.out.trans t2 (fun _ _ e => e)); clear t2))
    go_ret
    exact ⟨rfl, HT.out.below⟩
  rw [hl] at HLi
  have HLk := Lib.hid (light14_in hl).1
  have hln := (light14_in hl).2
  clear hl
  obtain ⟨W0, hW0⟩ : ∃ W0, W0 = w.alloc (.cells OA 53) := ⟨_, rfl⟩
  have hz0 : W0.heap.size = w.heap.size + 1 := by rw [hW0]; simp
  rw [← hW0] at HLi HTa HBa
  have HW0 := Lib.hid hW0.symm
  clear hW0
  go_enter Tryz.func4, Tryz.ntmps4
  go_wp2_with fail
  rw [HW0.out]
  refine HLi.out.mono ?_
  rintro e w1 ⟨rfl, t1⟩
  have HT1 := Lib.hid (HTa.out.trans t1 (fun _ _ e => e))
  have HB1 := Lib.hid (t1.blk HBa.out (fun e => e))
  clear t1 HLi HBa HW0
  go_wp2_with (first
    | ((with_reducible apply HB1.out.ld rowSO HAn.out); exact rfl; exact rfl; exact rfl))
  rw [HFo.out]
  refine (HLo.out _).mono ?_
  rintro e w2 ⟨rfl, t2⟩
  have HT2 := Lib.hid ((HT1.out.alloc _).trans t2 (fun _ _ e => e))
  have HB2 := Lib.hid (((Touch.refl (fun _ => False) w1).alloc _ |>.trans t2 (fun _ _ e => e)).blk HB1.out (fun e => e))
  clear t2 HLo HB1 HT1 HFo hcn
  cases lb
  · go_wp2_with (go_at_call 8; go_must (refine (lives14_any _).mono ?_); rintro e w3 ⟨rfl, t3⟩; have HT := Lib.hid (HT2.out.trans t3 (fun _ _ e => e)); clear t3)
    go_ret
    exact ⟨rfl, HT.out.below⟩
  have hla := HLa.out rfl
  clear HLa
  go_wp2_with fail
  refine (hnew_any w2).mono ?_
  rintro e wn ⟨gs, b1, b2, rfl, hs, ge1, ge2, ge3, tn⟩
  obtain ⟨tb, htb⟩ : ∃ tb, tb = wn.heap.size := ⟨_, rfl⟩
  obtain ⟨W, hW⟩ : ∃ W, W = wn.alloc (.cells Tryz.zeroCells62 62) := ⟨_, rfl⟩
  have hta : Touch (fun _ => False) wn W := hW ▸ (Touch.refl _ wn).alloc _
  have hzn := tn.size
  have hq1 := hs.gl; have hq2 := hs.m1.lt; have hq3 := hs.m2.lt
  have HB0 := Lib.hid (show Bo14 w2 W tb gs b1 b2 Shl.nil (fun _ => 0) (fun _ => False) (fun _ => False) (fun _ => False) Tryz.zeroCells62 Tryz.zeroCells62 from
    ⟨hs.far hta, RfS.zero _ _, hW ▸ htb ▸ Blk.new wn _ _, tn.trans hta (fun _ _ e => e), by omega, (fun q e => by rcases e with e | e | e <;> exact e.elim), by omega⟩)
  have HWe := Lib.hid hW.symm
  have HTe := Lib.hid htb.symm
  have hzw2 : w.heap.size < w2.heap.size := HB2.out.lt
  have HT2z := Lib.hid HT2.out.size
  clear hs tn hta hW htb ge1 ge2 ge3 hzn hq1 hq2 hq3
  go_wp2_with fail
  rw [HWe.out, HTe.out]
  go_loopw [33] (fun i wr => ∃ j : Nat, j ≤ l2.length ∧ i = .int .i64 j ∧ ∃ S x R X Y C, Bo14 w2 wr tb gs b1 b2 S x R X Y C C) (fun i _ => l2.length - (intOf i).toNat)
  case atStart => exact ⟨0, by omega, rfl, _, _, _, _, _, _, HB0.out⟩
  case round =>
    clear HB0 HWe HTe
    obtain ⟨j, hj, rfl, S, x, R, X, Y, C, hB⟩ := hrel
    have HB := Lib.hid hB
    clear hB
    by_cases hjk : j < l2.length
    · have ha : l2[j]? = some (l2[j]'hjk) := List.getElem?_eq_getElem _
      have hoo := HO2.out _ (List.getElem_mem hjk)
      have hlk := HLk.out _ (List.getElem_mem hjk)
      obtain ⟨a, off, rfl, -, -, hc⟩ := (HS2.out.touch (HT2.out.trans HB.out.t (fun _ _ e => e)) (fun _ _ e => e)).at_ (fun a _ => a.len) rfl ha
      generalize l2[j]'hjk = o at *
      have HRg := Lib.hid (show wr.rangeAt a (off + j * 9) o.arr.toList from fun k u hk => by rw [Nat.add_assoc]; exact hc k u hk)
      have HOn := Lib.hid o.size
      have HO1 := Lib.hid o.one
      have HEd := Lib.hid o.ex_d
      have HK0 := Lib.hid (show o.arr[0]? = some (.bool o.sg) from rfl)
      have HK3 := Lib.hid (show o.arr[3]? = some (.slice o.A o.c.wk.length o.k) from rfl)
      have HDn := Lib.hid (fun A n => (show (conA o.d A n).size = 4 from rfl))
      have HD1 := Lib.hid (fun A n => conA_one o.d A n)
      have hTT := HT2.out.trans HB.out.t (fun _ _ e => e)
      have HOc := Lib.hid (show CaR wr (fun k => k < w2.heap.size) o.c o.A o.B from (by
        have := CaR.touch hoo.c hTT (fun _ _ e => e)
        exact ⟨this.wk.mono (fun q hq => by omega), this.cl.mono (fun q hq => by omega)⟩))
      have HOd := Lib.hid (show SpR wr (fun k => k < w2.heap.size) o.D o.d.lv.length o.d.lv from (hoo.d.touch hTT (fun _ _ e => e)).mono (fun q hq => by omega))
      have HCp := Lib.hid (fun w1 (t : Touch (fun _ => False) wr w1) => kcopyO_any _ o.D o.q o.d w1 (HOd.out.touch t (fun _ _ e => e)) (by omega))
      unfold CopO at HCp
      have HS5 := Lib.hid (fun A n => o.set5 A n)
      have HS3 := Lib.hid (fun A n v => (o.lv2 A n).set3 v)
      have HLn := Lib.hid (fun A n => (show (o.lv2 A n).arr.size = 9 from rfl))
      have H33 := Lib.hid (fun A n => (show (o.lv2 A n).arr[3]? = some (.slice o.A o.c.wk.length o.k) from rfl))
      have HSr := Lib.hid (fun w1 (t : Touch (fun _ => False) wr w1) => (HOc.out.wk.touch t (fun _ _ e => e)).srcS o.k)
      have hgl := HB.out.sh.gl; have h1l := HB.out.sh.m1.lt; have h2l := HB.out.sh.m2.lt
      have hzw := HB.out.t.size
      have htl := HB.out.tab.lt
      have HNo := Lib.hid (show inN o.n from hoo.n)
      have HOw := Lib.hid hoo.d
      have HDo := Lib.hid (fun w1 (h : Bo14 w2 w1 tb gs b1 b2 S x R X Y C C) (t : Touch (fun _ => False) wr w1) => do14_any h.sh (fun k => k < w2.heap.size) C h.rf o hoo.n (CaR.touch HOc.out t (fun _ _ e => e)) (HOd.out.touch t (fun _ _ e => e)) (by omega) (by omega) (fun q hq => by have := h.ge; omega) (fun q hq => by have := h.t.size; omega))
      obtain ⟨S3, hS3⟩ : ∃ S3, S3 = o.step S := ⟨_, rfl⟩
      rw [← hS3] at HDo
      have HCn := Lib.hid HB.out.rf.n
      obtain ⟨i0, hi, hi0, hi1, hi2⟩ := info_parts infoS
      have HP0 := Lib.hid (Blk.new wr 53 o.arr)
      have HZ2 := Lib.hid (show Blk ((wr.alloc (.cells o.arr 53)).alloc (.cells #[.bool false, .int .i64 0, .int .i64 0, .slice none 0 0, .slice none 0 0, .int .i64 0, .slice none 0 0, .int .i64 0, .int .i64 0] 53)) (wr.heap.size + 1) 53 #[.bool false, .int .i64 0, .int .i64 0, .slice none 0 0, .slice none 0 0, .int .i64 0, .slice none 0 0, .int .i64 0, .int .i64 0] by simpa using Blk.new (wr.alloc (.cells o.arr 53)) 53 #[.bool false, .int .i64 0, .int .i64 0, .slice none 0 0, .slice none 0 0, .int .i64 0, .slice none 0 0, .int .i64 0, .int .i64 0])
      have HZ9 := Lib.hid (show (#[.bool false, .int .i64 0, .int .i64 0, .slice none 0 0, .slice none 0 0, .int .i64 0, .slice none 0 0, .int .i64 0, .int .i64 0] : Array Value).size = 9 from rfl)
      have HTA0 := Lib.hid (((Touch.refl (fun _ => False) wr).alloc (.cells o.arr 53)).alloc (.cells #[.bool false, .int .i64 0, .int .i64 0, .slice none 0 0, .slice none 0 0, .int .i64 0, .slice none 0 0, .int .i64 0, .int .i64 0] 53))
      have HL9 := Lib.hid (show o.arr.size = 9 from rfl)
      have HWl := Lib.hid (show o.c.wk.length ≤ 60 by omega)
      have HDl := Lib.hid (show o.d.lv.length ≤ 60 by omega)
      have HSg := Lib.hid (fun w1 g1 c1 c2 S1 x1 R1 X1 (h : ShAt w1 g1 c1 c2 S1 x1 R1 X1 (fun _ => False)) F1 A1 n1 (hr : SpR w1 F1 A1 o.d.lv.length o.d.lv) => hsign_any h 1 (by unfold inN; omega) F1 A1 n1 o.d hr)
      have HSk := Lib.hid (fun A A' n1 n2 w1 (F1 F2 : Nat → Prop) hr1 hr2 => fsameK_yes F1 F2 A A' n1 n2 o.d (by omega) w1 hr1 hr2)
      have HTs := Lib.hid (fun (S1 : Shl) => (show termsV (S1.sig 1 o.d) 1 = o.d ∧ ((S1.sig 1 o.d).con 1).isSome = true by simp [termsV, Shl.sig]))
      have HCA := Lib.hid (fun A n => (show conA o.d A n = #[.int .i64 o.d.cal, .slice A o.d.lv.length n, .int .i64 o.d.rt, .int .i64 o.d.bk] from rfl))
      have HFl := Lib.hid (show (o.d.lv.flatMap spC).length = o.d.lv.length * 2 from (HOd.out).2.1)
      generalize hoa : o.arr = OC at *
      generalize o.c.wk.flatMap spC = WK at *
      generalize o.c.wk.length = wl at *
      clear hc ha hoo hlk hS3 hTT hoa
      go_wp2_with (first
        | (refine loadC rowSO _ rfl rfl a (off + j * 9) rfl OC HOn.out HRg.out ?_)
        | (refine storeC rowSO _ _ rfl rfl wr _ OC rfl rfl rfl (by kernel_rfl) HOn.out HO1.out ?_)
        | ((with_reducible apply HP0.out.ld rowSO HOn.out); exact rfl; exact rfl; exact rfl)
        | ((with_reducible apply HZ2.out.st rowSO HZ9.out HOn.out HO1.out); exact rfl; exact rfl; exact rfl; exact rfl
           intro wB hB tB
           have HTA := Lib.hid (show Touch (fun _ => False) wr wB from HTA0.out.trans tB (fun q hq e => by omega))
           have HP1 := Lib.hid hB
           have HP0a := Lib.hid (tB.blk (HP0.out.alloc _) (by omega))
           have hzB : wr.heap.size + 1 < wB.heap.size := hB.lt
           clear hB tB)
        | ((with_reducible apply HP0a.out.lpS (k := 5) rowCo (HDn.out _ _) HEd.out); exact rfl; exact rfl; exact rfl)
        | (go_at_call 13; go_must (refine (HCp.out _ (by exact HTA.out)).mono ?_); rintro e w3 ⟨D3, q3, r3, rfl, ho3, hr3, t3⟩
           have HO3 := Lib.hid ho3
           have HR3 := Lib.hid hr3
           have HT3 := Lib.hid (HTA.out.trans t3 (fun _ _ e => e))
           have HP03 := Lib.hid (t3.blk HP0a.out (fun e => e))
           have HP13 := Lib.hid (t3.blk HP1.out (fun e => e))
           have hz3 := t3.size
           have HKs := Lib.hid (show 5 + 4 ≤ OC.size by rw [HL9.out]; omega)
           have HDa3 := Lib.hid (HDn.out D3 q3)
           have HDb3 := Lib.hid (HD1.out D3 q3)
           have H53 := Lib.hid (HS5.out D3 q3)
           clear ho3 hr3 t3)
        | ((with_reducible apply storeP rowCo); exact rfl; exact rfl; exact rfl; exact rfl; exact HP13.out; exact HKs.out; exact HDa3.out; exact HDb3.out; intro w4 hb4 t4 hq4
           clear hq4
           rw [H53.out] at hb4
           have HP14 := Lib.hid hb4
           have HT34 := Lib.hid t4
           have HP04 := Lib.hid (t4.blk HP03.out (by omega))
           have HT4 := Lib.hid (show Touch (fun _ => False) wr w4 from HT3.out.trans t4 (fun q hq e => by omega))
           have hz4 := t4.size
           have HE4 := Lib.hid (show Own (w4.alloc (.cells #[] 92)) 92 2 (.slice (some ⟨w4.heap.size, 0, none⟩) 0 0) (some w4.heap.size) 0 [] from by simpa using Own.lit w4 92 2 #[] 0 (by simp) (by simp))
           have HT4a := Lib.hid (HT4.out.alloc (.cells #[] 92))
           have y3 := (HP04.out.alloc (.cells #[] 92)).cell 3
           rw [HK3.out] at y3
           clear hb4 t4)
        | (at_builtin; have HM9 := HE4; go_must (refine wpList_own_append rfl _ _ 49 49 rfl 92 i0 (.agg #[.int .i64 0, .int .i64 0]) 2 16 Tryz.underlying49 hi hi0 hi1 hi2 rfl _ (some w4.heap.size) 0 [] rfl (by exact HE4.out) _ wl WK rfl (by exact HSr.out _ HT4a.out) (by have := HWl.out; simp only [maxLen]; omega) (by have := HWl.out; omega) ?_)
           intro v5 r5 w5 ho5 t5 _
           rw [Nat.zero_add] at ho5
           obtain ⟨A5, k5, hv5, -, -⟩ := ho5.form
           subst hv5
           have hz5 := t5.size
           simp at hz5
           have tt : Touch (fun q => q = w4.heap.size ∨ q = wr.heap.size + 1) w4 (w5.setCell ⟨wr.heap.size + 1, 3, none⟩ (.slice A5 wl k5)) := (((Touch.refl (fun q => q = w4.heap.size ∨ q = wr.heap.size + 1) w4).alloc _).trans t5 (fun q hq e => by injection e with e; exact .inl e.symm)).set (fun _ => .inr rfl) _
           have HT45 := Lib.hid tt
           have HT5 := Lib.hid (show Touch (fun _ => False) wr (w5.setCell ⟨wr.heap.size + 1, 3, none⟩ (.slice A5 wl k5)) from HT4.out.trans tt (fun q hq e => by omega))
           have hb5 := t5.blk (HP14.out.alloc (.cells #[] 92)) (fun e => by injection e with e; omega)
           have f3 := hb5.frozen 3
           have x3 := (hb5.cell 3).trans (H33.out D3 q3)
           have HP15 := Lib.hid (hb5.set_ 3 (.slice A5 wl k5))
           have HP05 := Lib.hid (tt.blk HP04.out (by omega))
           have HB5 := Lib.hid (HB.out.far HT5.out)
           clear ho5 t5 tt hb5)
        | ((with_reducible apply HB5.out.tab.ld rowSf HCn.out); exact rfl; exact rfl; exact rfl)
        | ((with_reducible apply HP05.out.ld rowSO HOn.out); exact rfl; exact rfl; exact rfl)
        | (go_at_call 24; go_must (refine (HDo.out _ HB5.out HT5.out).mono ?_); intro e w6 h6
           obtain ⟨C6, x6, R6, X6, rfl, hb6, hg6, t6⟩ := HB5.out.didG h6
           have HB6 := Lib.hid hb6
           have HG6 := Lib.hid hg6
           have HT6 := Lib.hid t6
           have HP06 := Lib.hid (t6.blk HP05.out (by omega))
           have HP16 := Lib.hid (t6.blk HP15.out (by omega))
           have HN6 := Lib.hid (Blk.new w6 62 Tryz.zeroCells62)
           have HC6n := Lib.hid hb6.rf.n
           have HC61 := Lib.hid hb6.rf.one
           have htl6 := hb6.tab.lt
           clear h6 t6 hb6 hg6)
        | ((with_reducible apply HN6.out.st rowSf zSf HC6n.out HC61.out); exact rfl; exact rfl; exact rfl; exact rfl
           intro w7 hb7 t7
           have HN7 := Lib.hid hb7
           have HT67 := Lib.hid (show Touch (fun _ => False) w6 w7 from ((Touch.refl (fun _ => False) w6).alloc (.cells Tryz.zeroCells62 62)).trans t7 (fun k hk e => by omega))
           have HB7 := Lib.hid (HB6.out.far HT67.out)
           clear hb7 t7)
        | ((with_reducible apply HN7.out.ld rowSf HC6n.out); exact rfl; exact rfl; exact rfl)
        | ((with_reducible apply HB7.out.tab.st rowSf HCn.out HC6n.out HC61.out); exact rfl; exact rfl; exact rfl; exact rfl
           intro w8 hb8 t8
           have HB8 := Lib.hid (HB7.out.put hb8 t8)
           have HT78 := Lib.hid t8
           have HP08 := Lib.hid (t8.blk (HT67.out.blk HP06.out (fun e => e)) (by omega))
           have HP18 := Lib.hid (t8.blk (HT67.out.blk HP16.out (fun e => e)) (by omega))
           clear hb8 t8))
      refine (hnew_any w8).mono ?_
      rintro e w9 ⟨gt, d1, d2, rfl, hs9, g1, g2, g3, t9⟩
      have HS9 := Lib.hid hs9
      have HB9 := Lib.hid (HB8.out.far t9)
      have hz9 := t9.size
      have hz8 : wr.heap.size + 2 ≤ w8.heap.size := HP18.out.lt
      have HT9 := Lib.hid t9
      have HP09 := Lib.hid (t9.blk HP08.out (fun e => e))
      have HP19 := Lib.hid (t9.blk HP18.out (fun e => e))
      clear hs9 t9
      have HLy := Lib.hid (fun w1 (h : ShAt w1 gt d1 d2 Shl.nil (fun _ => 0) (fun _ => False) (fun _ => False) (fun _ => False)) => hlay_any h 0 (by unfold inN; omega) (fun _ => False) none none 0 0 caN ⟨SpR.nil _ _ _, SpR.nil _ _ _⟩ (by decide) (by decide))
      unfold HsP at HLy
      rw [caN_zero] at HLy
      generalize layE Shl.nil 0 caN = E0 at *
      generalize Shl.nil.layS 0 caN = St at *
      go_wp2_with (refine buildZ builtCa rfl rfl ?_)
      refine (HLy.out _ HS9.out).mono ?_
      rintro e wa ⟨xt, Rt, Xt, rfl, hsa, hRt, hXt, ta⟩
      have HSa := Lib.hid hsa
      have hza := ta.size
      have HTx := Lib.hid (show Touch (fun _ => False) w8 wa from HT9.out.trans ta (fun q hq e => by omega))
      have HRt := Lib.hid (show ∀ q, Rt q ∨ Xt q → w8.heap.size ≤ q from fun q hq => by
        rcases hq with hq | hq
        · rcases hRt q hq with e | e
          · exact e.elim
          · omega
        · rcases hXt q hq with e | e
          · exact e.elim
          · omega)
      have HBx := Lib.hid (HB8.out.far HTx.out)
      have HP0x := Lib.hid (HTx.out.blk HP08.out (fun e => e))
      have HP1x := Lib.hid (HTx.out.blk HP18.out (fun e => e))
      have q0 := HP0x.out.cell 0
      rw [HK0.out] at q0
      have q6 : wa.cell? ⟨wr.heap.size + 1, 6, none⟩ = some (.slice D3 o.d.lv.length q3) := (HP1x.out.cell 6).trans (HS3.out D3 q3 _).1
      have q5 : wa.cell? ⟨wr.heap.size + 1, 5, none⟩ = some (.int .i64 o.d.cal) := (HP1x.out.cell 5).trans (HS3.out D3 q3 _).2.1
      have HX5 := Lib.hid (show ((o.lv2 D3 q3).arr.setIfInBounds 3 (.slice A5 wl k5)).extract 5 (5 + 4) = conA o.d D3 q3 from (HS3.out D3 q3 (.slice A5 wl k5)).2.2)
      clear hsa hRt hXt ta HLy HS9
      cases hsg : o.sg
      · rw [hsg] at q0
        go_wp2_with fail
        go_roundw
        case rel => exact ⟨j + 1, by omega, by go_num, S3, x6, R6, X6, Y, C6, HBx.out⟩
        case measure => simp [intOf]; omega
      rw [hsg] at q0
      clear hsg
      rcases (by omega : ¬ 0 < o.d.lv.length ∨ 0 < o.d.lv.length) with h0 | h0
      · have h0' : ¬ (0 : Int) < (o.d.lv.length : Int) := by omega
        go_wp2_with fail
        go_roundw
        case rel => exact ⟨j + 1, by omega, by go_num, S3, x6, R6, X6, Y, C6, HBx.out⟩
        case measure => simp [intOf]; omega
      have h0' : (0 : Int) < (o.d.lv.length : Int) := by omega
      rcases (by omega : ¬ o.d.cal = 0 ∨ o.d.cal = 0) with hcal | hcal
      · have hcal' : (o.d.cal == 0) = false := by simpa using hcal
        go_wp2_with fail
        go_roundw
        case rel => exact ⟨j + 1, by omega, by go_num, S3, x6, R6, X6, Y, C6, HBx.out⟩
        case measure => simp [intOf]; omega
      have hcal' : (o.d.cal == 0) = true := by simpa using hcal
      clear hcal
      have hO3 := HO3.out h0
      have hRw := (show SpR w3 (fun k => r3 = some k) D3 o.d.lv.length o.d.lv from by
        obtain ⟨A9, c9, hv, -, -, -, hs⟩ := hO3.spR rfl rfl
        have hv1 : D3 = A9 := by injection hv
        rw [hv1]; exact hs)
      rcases hO3.2 with ⟨-, hn0, -⟩ | ⟨gr, cap, cur, hr3e, hv, hbr, hcap, -, hcs, -⟩
      · omega
      have hv1 : D3 = some ⟨gr, 0, none⟩ := by injection hv
      have hv3 : q3 = cap := by injection hv
      clear hv
      subst hv1 hv3
      have hgr := HR3.out gr hr3e
      have hT38 : Touch (fun q => q = wr.heap.size + 1 ∨ (q = w4.heap.size ∨ q = b1 ∨ q = b2 ∨ q = tb)) w3 w8 := by
        have u1 := HT34.out.mono (S' := fun q => q = wr.heap.size + 1 ∨ (q = w4.heap.size ∨ q = b1 ∨ q = b2 ∨ q = tb)) (fun q _ e => .inl e)
        have u2 := u1.trans HT45.out (fun q hq e => by rcases e with e | e; exact .inr (.inl e); exact .inl e)
        have u3 := u2.trans HT6.out (fun q hq e => by rcases e with e | e; exact .inr (.inr (.inl e)); exact .inr (.inr (.inr (.inl e))))
        have u4 := u3.trans HT67.out (fun q hq e => e.elim)
        exact u4.trans HT78.out (fun q hq e => .inr (.inr (.inr (.inr e))))
      have hgn : ¬ (gr = wr.heap.size + 1 ∨ (gr = w4.heap.size ∨ gr = b1 ∨ gr = b2 ∨ gr = tb)) := by omega
      have hRx := (hRw.touch hT38 (fun q hq e => hgn (by rw [hr3e] at hq; injection hq with hq; rw [hq]; exact e))).touch HTx.out (fun _ _ e => e)
      have HRx := Lib.hid hRx
      have HBr := Lib.hid (HTx.out.blk (hT38.blk hbr hgn) (fun e => e))
      have hgr8 : gr < w8.heap.size := Nat.lt_of_lt_of_le hgr.2 hT38.size
      obtain ⟨uu, huu⟩ : ∃ uu, cur[0]? = some uu := ⟨_, Array.getElem?_eq_getElem (by rw [hcs]; omega)⟩
      have HU0 := Lib.hid huu
      clear huu
      have HX4n := Lib.hid (HDn.out (some ⟨gr, 0, none⟩) q3)
      have HSi := Lib.hid (HSg.out wa gt d1 d2 St xt Rt Xt HSa.out _ (some ⟨gr, 0, none⟩) q3 HRx.out)
      unfold HsP at HSi
      have HGn := Lib.hid (show ¬ (R6 gr ∨ X6 gr ∨ Y gr) from fun e => by
        rcases HG6.out gr e with e | e
        · have := HB.out.sh.lt gr e; omega
        · simp at e; omega)
      have hgw : wr.heap.size + 2 ≤ gr := by omega
      generalize conA o.d (some ⟨gr, 0, none⟩) q3 = X4 at *
      clear hO3 hRw hr3e hbr hcs hT38 hRx hgr hcap
      rcases (by omega : ¬ sigE St 1 o.d = 0 ∨ sigE St 1 o.d = 0) with hE | hE
      · have hE' : (sigE St 1 o.d == 0) = false := by simpa using hE
        generalize sigE St 1 o.d = E1 at *
        clear hE
        go_wp2_with (first
          | ((with_reducible apply HP1x.out.lpS (k := 5) rowCo HX4n.out HX5.out); exact rfl; exact rfl; exact rfl)
          | (go_at_call 26; go_must (refine HSi.out.mono ?_); rintro e wb ⟨_, _, _, rfl, -, -, -, tb9⟩
             have HBy := Lib.hid (HB8.out.far (HTx.out.trans tb9 (fun q hq e => by omega)))
             clear tb9))
        go_roundw
        case rel => exact ⟨j + 1, by omega, by go_num, S3, x6, R6, X6, Y, C6, HBy.out⟩
        case measure => simp [intOf]; omega
      have hSt : St.sigS 1 o.d = St.sig 1 o.d := by rw [Shl.sigS, if_pos hE]
      rw [hE, hSt] at HSi
      clear hE hSt
      have HTv := Lib.hid (HTs.out St)
      generalize St.sig 1 o.d = St2 at *
      go_wp2_with (first
        | ((with_reducible apply HP1x.out.lpS (k := 5) rowCo HX4n.out HX5.out); exact rfl; exact rfl; exact rfl)
        | (go_at_call 26; go_must (refine HSi.out.mono ?_); rintro e wb ⟨xb, Rb, Xb, rfl, hsb, hRb, hXb, tb9⟩
           have htw : Touch (fun _ => False) w8 wb := HTx.out.trans tb9 (fun q hq e => by omega)
           have HTw := Lib.hid htw
           have HSb := Lib.hid hsb
           have hzx := HTx.out.size
           have HRb := Lib.hid (show ∀ q, Rb q ∨ Xb q ∨ False → w8.heap.size ≤ q from fun q hq => by
             rcases hq with hq | hq | hq
             · rcases hRb q hq with e | e
               · exact HRt.out q (.inl e)
               · omega
             · rcases hXb q hq with e | e
               · exact HRt.out q (.inr e)
               · omega
             · exact hq.elim)
           have hbg := tb9.blk HBr.out (by omega)
           have f0 := hbg.frozen 0
           have x0 := (hbg.cell 0).trans HU0.out
           have y6 : wb.cell? ⟨wr.heap.size + 1, 6, none⟩ = some (.slice (some ⟨gr, 0, none⟩) o.d.lv.length q3) := ((htw.blk HP18.out (fun e => e)).cell 6).trans (HS3.out _ q3 _).1
           clear hsb hRb hXb tb9 htw hbg))
      obtain ⟨Wc, hWc⟩ : ∃ Wc, Wc = wb.setCell ⟨gr, 0, none⟩ (.int .i64 xx) := ⟨_, rfl⟩
      have tc : Touch (fun q => q = gr) wb Wc := hWc ▸ (Touch.refl (fun q => q = gr) wb).set (fun _ => rfl) _
      have HBc := Lib.hid ((HB8.out.far HTw.out).off tc (by have := HB8.out.sh.gl; have := HB.out.sh.gl; omega) (by omega) (by omega) (by omega) (fun q hq e => HGn.out (e ▸ hq)) (fun q hq e => by omega))
      have HSc := Lib.hid (HSb.out.touch tc (by omega) (by omega) (by omega) (fun q hq e => by have := HRb.out q hq; omega))
      have HP0c := Lib.hid (tc.blk (HTw.out.blk HP08.out (fun e => e)) (by omega))
      have HTe := Lib.hid (hterms_any HSc.out 1 (by unfold inN; omega))
      unfold TerP at HTe
      rw [HTv.out.1, HTv.out.2] at HTe
      have HWc := Lib.hid hWc.symm
      clear hWc tc
      rw [HWc.out]
      refine HTe.out.mono ?_
      rintro e wd ⟨Ad, kd, rfl, hrd, td⟩
      have HRd := Lib.hid hrd
      have HBd := Lib.hid (HBc.out.far td)
      have HP0d := Lib.hid (td.blk HP0c.out (fun e => e))
      have HNd := Lib.hid (Blk.new wd 24 #[.int .i64 0, .slice none 0 0, .int .i64 0, .int .i64 0])
      have HZk := Lib.hid (show (#[.int .i64 0, .slice none 0 0, .int .i64 0, .int .i64 0] : Array Value).size = 4 from rfl)
      have HKd := Lib.hid (HDn.out Ad kd)
      have HKe := Lib.hid (HD1.out Ad kd)
      have HDo4 := Lib.hid (HDn.out o.D o.q)
      have HSm := Lib.hid (fun w1 (hr1 : SpR w1 _ Ad o.d.lv.length o.d.lv) (hr2 : SpR w1 (fun k => k < w2.heap.size) o.D o.d.lv.length o.d.lv) => HSk.out Ad o.D kd o.q w1 (fun q => Wc.heap.size ≤ q ∧ q < wd.heap.size) (fun k => k < w2.heap.size) hr1 hr2)
      generalize conA o.d Ad kd = XD at *
      generalize conA o.d o.D o.q = XP at *
      clear hrd td
      go_wp2_with (first
        | ((with_reducible apply HNd.out.st rowCo HZk.out HKd.out HKe.out); exact rfl; exact rfl; exact rfl; exact rfl
           intro we hbe te
           have tA := ((Touch.refl (fun _ => False) wd).alloc (.cells #[.int .i64 0, .slice none 0 0, .int .i64 0, .int .i64 0] 24)).trans te (S := fun _ => False) (fun q hq e => by omega)
           have HBe := Lib.hid (HBd.out.far tA)
           have HEb := Lib.hid hbe
           have HRe := Lib.hid (HRd.out.touch tA (fun _ _ e => e))
           have HP0e := Lib.hid (tA.blk HP0d.out (fun e => e))
           clear hbe te tA)
        | ((with_reducible apply HEb.out.ld rowCo HKd.out); exact rfl; exact rfl; exact rfl)
        | ((with_reducible apply HP0e.out.lpS (k := 5) rowCo HDo4.out HEd.out); exact rfl; exact rfl; exact rfl)
        | (go_at_call 12; go_must (refine (HSm.out _ (by exact HRe.out) (by exact (HOw.out.touch (HT2.out.trans HBe.out.t (fun _ _ e => e)) (fun _ _ e => e)).mono (fun q hq => by omega))).mono ?_); rintro e wf ⟨rfl, tf⟩
           have HBf := Lib.hid (HBe.out.far tf)
           clear tf))
      go_roundw
      case rel => exact ⟨j + 1, by omega, by go_num, S3, x6, R6, X6, Y, C6, HBf.out⟩
      case measure => simp [intOf]; omega
    · obtain rfl : j = l2.length := by omega
      have HCn := Lib.hid HB.out.rf.n
      have hzw := HB.out.t.size
      have HBp := Lib.hid (HB.out.t.blk HB2.out (fun e => e))
      go_wp2_with fail
      refine (hclone_any HB.out.sh).mono ?_
      rintro e w3 ⟨gc, c1, c2', rfl, hsc, k1, k2, k3, t3⟩
      have HB3 := Lib.hid (HB.out.far t3)
      have HBp3 := Lib.hid (t3.blk HBp.out (fun e => e))
      have hTT := HT2.out.trans HB3.out.t (fun _ _ e => e)
      have hLt := HB.out.sh.lt
      have hge := HB.out.ge
      have hgl := HB.out.sh.gl; have h1l := HB.out.sh.m1.lt; have h2l := HB.out.sh.m2.lt
      have htl := HB.out.tab.lt
      have HDo := Lib.hid (HDa.out _ _ _ _ _ _ _ _ _ hsc (fun k => k < w2.heap.size) C HB3.out.rf HOa.out.n (by
        have := CaR.touch HOa.out.c hTT (fun _ _ e => e)
        exact ⟨this.wk.mono (fun q hq => by omega), this.cl.mono (fun q hq => by omega)⟩) ((HOa.out.d.touch hTT (fun _ _ e => e)).mono (fun q hq => by omega)) (by omega) (by omega) (fun q hq => by omega) (fun q hq => by have := t3.size; omega))
      have HLt := Lib.hid hLt
      clear hsc hTT hLt
      generalize hS4 : oa.step S = S4 at *
      clear hS4
      go_wp2_with (first
        | ((with_reducible apply HB3.out.tab.ld rowSf HCn.out); exact rfl; exact rfl; exact rfl)
        | ((with_reducible apply HBp3.out.ld rowSO HAn.out); exact rfl; exact rfl; exact rfl)
        | (go_at_call 24; go_must (refine HDo.out.mono ?_); rintro e w4 ⟨C4, x4, R4, X4, rfl, hrf4, hs4, -, -, t4⟩
           have HB4 := Lib.hid (HB3.out.off t4 (by omega) (by omega) (by omega) (by omega) (fun q hq e => by have := HLt.out q hq; omega) (fun q hq e => by omega))
           have HR4 := Lib.hid hrf4
           have HS4 := Lib.hid hs4
           have HC4n := Lib.hid hrf4.n
           have HC41 := Lib.hid hrf4.one
           have HN4 := Lib.hid (Blk.new w4 62 Tryz.zeroCells62)
           clear hrf4 hs4 t4)
        | ((with_reducible apply HN4.out.st rowSf zSf HC4n.out HC41.out); exact rfl; exact rfl; exact rfl; exact rfl
           intro w5 hb5 t5
           have HN5 := Lib.hid hb5
           have HT45 := Lib.hid (show Touch (fun _ => False) w4 w5 from ((Touch.refl (fun _ => False) w4).alloc (.cells Tryz.zeroCells62 62)).trans t5 (fun k hk e => by omega))
           clear hb5 t5))
      obtain ⟨W6, hW6⟩ : ∃ W6, W6 = w5.drew := ⟨_, rfl⟩
      have HT56 := Lib.hid (show Touch (fun _ => False) w5 W6 from hW6 ▸ (Touch.refl _ w5).drew)
      have HT46 := Lib.hid (HT45.out.trans HT56.out (fun _ _ e => e))
      have HB6 := Lib.hid (HB4.out.far HT46.out)
      have HR6 := Lib.hid (HR4.out.far HT46.out)
      have HS6 := Lib.hid (HS4.out.far HT46.out)
      have HN6 := Lib.hid (HT56.out.blk HN5.out (fun e => e))
      have HFb := Lib.hid (fun w1 (h : RfS w1 (fun k => k < w2.heap.size) S C) => fbytes_any _ S HB.out.sh.ok C w1 h)
      have HFc := Lib.hid (fun w1 (h : RfS w1 (fun k => k < w2.heap.size) S4 C4) => fbytes_any _ S4 HS6.out.ok C4 w1 h)
      have HHb := Lib.hid (fun w1 (h : ShAt w1 gs b1 b2 S x R X Y) => hbytes_any h)
      have HHc := Lib.hid (fun w1 (h : ShAt w1 gc c1 c2' S4 x4 R4 X4 Y) => hbytes_any h)
      generalize encS S = L at *
      generalize encS S4 = M at *
      refine wp_region_plan [(0, 0), (0, 1), (0, 2), (1, 4), (2, 3), (2, 5), (0, 6), (0, 7), (0, 8), (0, 9), (0, 10), (1, 12), (2, 11), (2, 13), (0, 14), (0, 15), (0, 16), (0, 17), (2, 18), (0, 19), (0, 20)] (fun _ => False) (by kernel_rfl) (by kernel_rfl) (fun c a d v w h => by cases d <;> exact h) ?_
      rw [← hW6]
      clear hW6
      iterate 3
        refine plan_s1 rfl (by rfl) (fun Kc hKc => ?_)
        go_simp
        first
          | (refine hKc _ ?_)
        clear hKc Kc
      refine plan_hC rowSf rfl _ rfl rfl tb 0 rfl C HCn.out (fun wh hT => (hT.blk HB6.out.tab (fun e => e)).whole) ?_
      go_simp
      refine plan_a1 rfl (by rfl) (fun Kc hKc => ?_)
      go_simp
      refine (HHb.out _ (by exact HB6.out.sh)).mono ?_
      rintro e w7 ⟨rfl, t7⟩
      refine hKc _ _ ⟨t7, ?_⟩
      clear hKc Kc
      have HT7 := Lib.hid t7
      clear t7
      refine plan_a1 rfl (by rfl) (fun Kc hKc => ?_)
      go_simp
      refine (HFb.out _ (by exact HB6.out.rf.far HT7.out)).mono ?_
      intro e w8 h8
      obtain ⟨v8, rfl, hx8⟩ := OwnX.of (Touch.refl _ _) h8
      obtain ⟨A8, n8, c8, rfl, hl8, -, -, hr8, t8⟩ := hx8.readsS
      have hs8 := Rd.str (l := L) hr8 c8
      refine hKc _ _ ⟨t8, ?_⟩
      clear hKc Kc
      have HT8 := Lib.hid (HT7.out.trans t8 (fun _ _ e => e))
      clear h8 hx8 hl8 hr8 t8
      iterate 5
        refine plan_s1 rfl (by rfl) (fun Kc hKc => ?_)
        go_simp
        first
          | (refine hKc _ ?_)
        clear hKc Kc
      clear hs8
      refine plan_hC rowSf rfl _ rfl rfl w4.heap.size 0 rfl C4 HC4n.out (fun wh hT => (hT.blk (HT8.out.blk HN6.out (fun e => e)) (fun e => e)).whole) ?_
      go_simp
      refine plan_a1 rfl (by rfl) (fun Kc hKc => ?_)
      go_simp
      refine (HHc.out _ (by exact HS6.out.far HT8.out)).mono ?_
      rintro e w9 ⟨rfl, t9⟩
      refine hKc _ _ ⟨t9, ?_⟩
      clear hKc Kc
      have HT9 := Lib.hid (HT8.out.trans t9 (fun _ _ e => e))
      clear t9
      refine plan_a1 rfl (by rfl) (fun Kc hKc => ?_)
      go_simp
      refine (HFc.out _ (by exact HR6.out.far HT9.out)).mono ?_
      intro e wa ha
      obtain ⟨va, rfl, hxa⟩ := OwnX.of (Touch.refl _ _) ha
      obtain ⟨Aa, na, ca, rfl, hla2, -, -, hra, ta⟩ := hxa.readsS
      have hsa := Rd.str (l := M) hra ca
      refine hKc _ _ ⟨ta, ?_⟩
      clear hKc Kc
      have HTa2 := Lib.hid (HT9.out.trans ta (fun _ _ e => e))
      clear ha hxa hla2 hra ta
      iterate 4
        refine plan_s1 rfl (by rfl) (fun Kc hKc => ?_)
        go_simp
        first
          | (refine hKc _ ?_)
        clear hKc Kc
      clear hsa
      refine plan_a1 rfl (by rfl) (fun Kc hKc => ?_)
      go_simp
      refine (lives14_any _).mono ?_
      rintro e wz ⟨rfl, tz⟩
      refine hKc _ _ ⟨tz, ?_⟩
      clear hKc Kc
      have HTz := Lib.hid (HTa2.out.trans tz (fun _ _ e => e))
      clear tz
      iterate 2
        refine plan_s1 rfl (by rfl) (fun Kc hKc => ?_)
        go_simp
        first
          | (refine hKc _ ?_)
        clear hKc Kc
      refine plan_done ?_
      go_wp2_with fail
      go_ret
      exact ⟨rfl, ((HT2.out.trans HB6.out.t (fun _ _ e => e)).trans HTz.out (fun _ _ e => e)).below⟩
end Go.Proofs.YtlcefchbfjfifaaGreat
