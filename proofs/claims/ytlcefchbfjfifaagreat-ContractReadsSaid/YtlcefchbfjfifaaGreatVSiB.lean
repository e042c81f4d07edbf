/- Both shelves in a law; ContractShelf walked. -/
import Derived.Test.YtlcefchbfjfifaaGreatVSiA
import Derived.Test.YtlcefchbfjfifaaGreatVCtC
import Derived.Test.YtlcefchbfjfifaaGreatVShY
import Derived.Test.YtlcefchbfjfifaaGreatVShW
namespace Go.Proofs.YtlcefchbfjfifaaGreat
open Go.RowKit Cal Go.Maps
set_option maxHeartbeats 4000000
set_option maxRecDepth 100000
set_option linter.unusedVariables false
attribute [local irreducible] wpPlan

/-- Both shelves, the program's at gs, the reference's as C; the law's own block tb with the cells T. -/
structure Bo14 (w wr : World) (tb gs b1 b2 : Nat) (S : Shl) (x : Int → Nat) (R X Y : Nat → Prop) (C T : Array Value) : Prop where
  sh : ShAt wr gs b1 b2 S x R X Y
  rf : RfS wr (fun k => k < w.heap.size) S C
  tab : Blk wr tb 62 T
  t : Touch (fun _ => False) w wr
  ge : w.heap.size ≤ gs ∧ w.heap.size ≤ b1 ∧ w.heap.size ≤ b2 ∧ w.heap.size ≤ tb
  rx : ∀ q, R q ∨ X q ∨ Y q → w.heap.size ≤ q ∧ q ≠ tb
  ne : tb ≠ gs ∧ tb ≠ b1 ∧ tb ≠ b2
section
variable {w wr w' : World} {tb gs b1 b2 : Nat} {S S' : Shl} {x : Int → Nat} {R X Y : Nat → Prop} {C T T' : Array Value}
theorem Bo14.far (h : Bo14 w wr tb gs b1 b2 S x R X Y C T) (t : Touch (fun _ => False) wr w') : Bo14 w w' tb gs b1 b2 S x R X Y C T :=
  ⟨h.sh.far t, h.rf.far t, t.blk h.tab (fun e => e), h.t.trans t (fun _ _ e => e), h.ge, h.rx, h.ne⟩
theorem Bo14.put (h : Bo14 w wr tb gs b1 b2 S x R X Y C T) (hb : Blk w' tb 62 T') (t : Touch (fun k => k = tb) wr w') : Bo14 w w' tb gs b1 b2 S x R X Y C T' := by
  obtain ⟨h1, h2, h3, h4, h5, h6, h7⟩ := h
  exact ⟨h1.touch t (by omega) (by omega) (by omega) (fun q hq e => (h6 q hq).2 e), h2.touch t (fun q hq e => by omega), hb, h4.trans t (fun q hq e => by omega), h5, h6, h7⟩
theorem Bo14.did (h : Bo14 w wr tb gs b1 b2 S x R X Y C T) {e : Ending} (hp : DoP14 S' gs b1 b2 (fun k => k < w.heap.size) R X Y wr e w') : ∃ C' x' R' X', e = .returned (.tuple #[.agg C', .bool true]) ∧ Bo14 w w' tb gs b1 b2 S' x' R' X' Y C' T := by
  obtain ⟨h1, h2, h3, h4, h5, h6, h7⟩ := h
  obtain ⟨C', x', R', X', he, hr, hs, hR, hX, t⟩ := hp
  have hz := h4.size
  have htb := h3.lt
  refine ⟨C', x', R', X', he, hs, hr, t.blk h3 (by omega), h4.trans t (fun q hq e => by omega), h5, fun q hq => ?_, h7⟩
  rcases hq with hq | hq | hq
  · rcases hR q hq with e | e
    · exact h6 q (.inl e)
    · omega
  · rcases hX q hq with e | e
    · exact h6 q (.inr (.inl e))
    · omega
  · exact h6 q (.inr (.inr hq))
theorem Bo14.liked (h : Bo14 w wr tb gs b1 b2 S x R X Y C T) {e : Ending} (hp : LkP14 gs b1 b2 S x R X Y wr e w') : e = .returned (.bool true) ∧ ∃ R' Y', Bo14 w w' tb gs b1 b2 S x R' X Y' C T := by
  obtain ⟨h1, h2, h3, h4, h5, h6, h7⟩ := h
  obtain ⟨he, R', Y', hs, hR, hY, t⟩ := hp
  have hz := h4.size
  have htb := h3.lt
  refine ⟨he, R', Y', hs, h2.touch t (fun q hq e => by have := (h6 q (.inr (.inl e))).1; omega), t.blk h3 (fun e => (h6 tb (.inr (.inl e))).2 rfl), h4.trans t (fun q hq e => by have := (h6 q (.inr (.inl e))).1; omega), h5, fun q hq => ?_, h7⟩
  rcases hq with hq | hq | hq
  · rcases hR q hq with e | e
    · exact h6 q (.inl e)
    · omega
  · exact h6 q (.inr (.inl hq))
  · rcases hY q hq with e | e
    · exact h6 q (.inr (.inr e))
    · omega
theorem Bo14.fX (h : Bo14 w wr tb gs b1 b2 S x R X Y C T) : ∀ q, q < w.heap.size → ¬ X q := fun q hq e => by have := (h.rx q (.inr (.inl e))).1; omega
end
theorem light14_in {l : List SOpV} (h : light14B l = true) : (∀ o ∈ l, o.c.wk.length ≤ 60 ∧ o.c.cl.length ≤ 60 ∧ o.d.lv.length ≤ 60) ∧ l.length ≤ 60 := by
  simp only [light14B, lightS, Bool.and_eq_true, List.all_eq_true, decide_eq_true_eq] at h
  exact ⟨fun o ho => ⟨(h.1 o ho).1.1, (h.1 o ho).1.2, (h.1 o ho).2⟩, h.2⟩
theorem strSize (L : List UInt8) : (⟨L.toArray⟩ : ByteArray).size = L.length := by simp [ByteArray.size]
theorem walk_ContractShelf {w : World} (A2 : Option Addr) (n2 c2 : Nat) (l2 : List SOpV) (e2 : l2.length = n2) (o2 : ∀ x ∈ l2, x.ok w) (z2 : ∀ a ∈ l2, a.cells.length = 9) (g2 : A2 = none → c2 = 0) (u2 : n2 ≤ c2) (m2 : c2 ≤ maxLen) (s2 : RdZ w (fun k => k < w.heap.size) 9 A2 n2 (l2.flatMap SOpV.cells))
    (a1 : Int) (k1 : -9223372036854775808 ≤ a1 ∧ a1 ≤ 9223372036854775807) :
    Calls Tryz.prog 6 #[.slice A2 n2 c2, .int .i64 a1] w fun e w' => e = .returned (.bool true) ∧ Below w.heap.size w w' := by
  subst e2
  unfold maxLen at m2
  have HS2 := Lib.hid s2
  have HO2 := Lib.hid o2
  have HLi := Lib.hid (light14_any _ A2 c2 l2 w s2 (by omega))
  have HNa := Lib.hid (show inN a1 from k1)
  clear o2 z2 g2 s2 u2 k1
  cases hl : light14B l2
  · rw [hl] at HLi
    clear hl
    go_enter Tryz.func6, Tryz.ntmps6
    go_wp2_with (first
      | (go_at_call 22; go_must (refine HLi.out.mono ?_); rintro e w1 ⟨rfl, t1⟩; have HT := Lib.hid t1; clear t1)
      | (go_at_call 8; go_must (refine (lives14_any _).mono ?_); rintro e w2 ⟨rfl, t2⟩; have HT := Lib.hid (HT.out.trans t2 (fun _ _ e => e)); clear t2))
    go_ret
    exact ⟨rfl, HT.out.below⟩
  rw [hl] at HLi
  have HLk := Lib.hid (light14_in hl).1
  have hln := (light14_in hl).2
  clear hl
  go_enter Tryz.func6, Tryz.ntmps6
  go_wp2_with fail
  refine HLi.out.mono ?_
  rintro e w1 ⟨rfl, t1⟩
  go_wp2_with fail
  refine (hnew_any w1).mono ?_
  rintro e wn ⟨gs, b1, b2, rfl, hs, ge1, ge2, ge3, tn⟩
  obtain ⟨tb, htb⟩ : ∃ tb, tb = wn.heap.size := ⟨_, rfl⟩
  obtain ⟨W, hW⟩ : ∃ W, W = wn.alloc (.cells Tryz.zeroCells62 62) := ⟨_, rfl⟩
  have hta : Touch (fun _ => False) wn W := hW ▸ (Touch.refl _ wn).alloc _
  have hz1 := t1.size; have hzn := tn.size
  have hq1 := hs.gl; have hq2 := hs.m1.lt; have hq3 := hs.m2.lt
  have HB0 := Lib.hid (show Bo14 w W tb gs b1 b2 Shl.nil (fun _ => 0) (fun _ => False) (fun _ => False) (fun _ => False) Tryz.zeroCells62 Tryz.zeroCells62 from
    ⟨hs.far hta, RfS.zero _ _, hW ▸ htb ▸ Blk.new wn _ _, (t1.trans tn (fun _ _ e => e)).trans hta (fun _ _ e => e), by omega, (fun q e => by rcases e with e | e | e <;> exact e.elim), by omega⟩)
  have HWe := Lib.hid hW.symm
  have HTe := Lib.hid htb.symm
  clear hs t1 tn hta hW htb ge1 ge2 ge3 hz1 hzn hq1 hq2 hq3
  go_wp2_with fail
  rw [HWe.out, HTe.out]
  go_loopw [21] (fun i wr => ∃ j : Nat, j ≤ l2.length ∧ i = .int .i64 j ∧ ∃ S x R X Y C, Bo14 w wr tb gs b1 b2 S x R X Y C C) (fun i _ => l2.length - (intOf i).toNat)
  case atStart => exact ⟨0, by omega, rfl, _, _, _, _, _, _, HB0.out⟩
  case round =>
    clear HB0 HWe HTe
    obtain ⟨j, hj, rfl, S, x, R, X, Y, C, hB⟩ := hrel
    have HB := Lib.hid hB
    clear hB
    by_cases hjk : j < l2.length
    · have ha : l2[j]? = some (l2[j]'hjk) := List.getElem?_eq_getElem _
      have hoo := HO2.out _ (List.getElem_mem hjk)
      have hlk := HLk.out _ (List.getElem_mem hjk)
      obtain ⟨a, off, rfl, -, -, hc⟩ := (HS2.out.touch HB.out.t (fun _ _ e => e)).at_ (fun a _ => a.len) rfl ha
      generalize l2[j]'hjk = o at *
      have HRg := Lib.hid (show wr.rangeAt a (off + j * 9) o.arr.toList from fun k u hk => by rw [Nat.add_assoc]; exact hc k u hk)
      have HOn := Lib.hid o.size
      have HO1 := Lib.hid o.one
      have HK1 := Lib.hid (show o.arr[1]? = some (.int .i64 o.n) from rfl)
      have HTA := Lib.hid ((Touch.refl (fun _ => False) wr).alloc (.cells o.arr 53))
      have HBA := Lib.hid (HB.out.far HTA.out)
      have HBo := Lib.hid (Blk.new wr 53 o.arr)
      have hgl := HB.out.sh.gl; have h1l := HB.out.sh.m1.lt; have h2l := HB.out.sh.m2.lt
      have hzw := HB.out.t.size
      have htl := HB.out.tab.lt
      have htA := HBA.out.t
      have HNo := Lib.hid (show inN o.n from hoo.n)
      have HDo := Lib.hid (do14_any HBA.out.sh (fun k => k < w.heap.size) C HBA.out.rf o hoo.n (CaR.touch hoo.c htA (fun _ _ e => e)) (hoo.d.touch htA (fun _ _ e => e)) (by omega) (by omega) (fun q hq => by have := HB.out.ge; omega) (fun q hq => by have := htA.size; omega))
      obtain ⟨S3, hS3⟩ : ∃ S3, S3 = o.step S := ⟨_, rfl⟩
      rw [← hS3] at HDo
      have HCn := Lib.hid HB.out.rf.n
      generalize hon : o.n = on at *
      generalize o.arr = OC at *
      clear hc ha hoo hlk hS3 htA
      go_wp2_with (first
        | (refine loadC rowSO _ rfl rfl a (off + j * 9) rfl OC HOn.out HRg.out ?_)
        | (refine storeC rowSO _ _ rfl rfl wr _ OC rfl rfl rfl (by kernel_rfl) HOn.out HO1.out ?_)
        | ((with_reducible apply HBA.out.tab.ld rowSf HCn.out); exact rfl; exact rfl; exact rfl)
        | ((with_reducible apply HBo.out.ld rowSO HOn.out); exact rfl; exact rfl; exact rfl)
        | (go_at_call 24; go_must (refine HDo.out.mono ?_); intro e w3 h3
           have t3 := h3
           obtain ⟨_, _, _, _, -, -, -, -, -, t3⟩ := t3
           have HBo3 := Lib.hid (t3.blk HBo.out (by omega))
           obtain ⟨C3, x3, R3, X3, rfl, hb3⟩ := HBA.out.did h3
           have HB3 := Lib.hid hb3
           have HN3 := Lib.hid (Blk.new w3 62 Tryz.zeroCells62)
           have HC3n := Lib.hid hb3.rf.n
           have HC31 := Lib.hid hb3.rf.one
           have htl3 := hb3.tab.lt
           clear h3 t3 hb3)
        | ((with_reducible apply HN3.out.st rowSf zSf HC3n.out HC31.out); exact rfl; exact rfl; exact rfl; exact rfl
           intro w4 hb4 t4
           have HN4 := Lib.hid hb4
           have HT4 := Lib.hid (show Touch (fun _ => False) w3 w4 from ((Touch.refl (fun _ => False) w3).alloc (.cells Tryz.zeroCells62 62)).trans t4 (fun k hk e => by omega))
           have HB4 := Lib.hid (HB3.out.far HT4.out)
           have HBo4 := Lib.hid (HT4.out.blk HBo3.out (fun e => e))
           clear hb4 t4)
        | ((with_reducible apply HN4.out.ld rowSf HC3n.out); exact rfl; exact rfl; exact rfl)
        | ((with_reducible apply HB4.out.tab.st rowSf HCn.out HC3n.out HC31.out); exact rfl; exact rfl; exact rfl; exact rfl
           intro w5 hb5 t5
           have HB5 := Lib.hid (HB4.out.put hb5 t5)
           have q1 := (t5.blk HBo4.out (by omega)).cell 1
           rw [HK1.out] at q1
           clear hb5 t5)
        | ((with_reducible apply HB5.out.tab.ld rowSf HC3n.out); exact rfl; exact rfl; exact rfl)
        | (go_at_call 34; have HM9 := HB6; go_must (refine (like14_any HB6.out.sh _ C3 HB6.out.rf HB6.out.fX a1 HNa.out).mono ?_); intro e w7 h7
           obtain ⟨rfl, R7, Y7, hb7⟩ := HB6.out.liked h7
           have HB7 := Lib.hid hb7
           clear h7 hb7)
        | (go_at_call 34; go_must (refine (like14_any HB5.out.sh _ C3 HB5.out.rf HB5.out.fX on HNo.out).mono ?_); intro e w6 h6
           obtain ⟨rfl, R6, Y6, hb6⟩ := HB5.out.liked h6
           have HB6 := Lib.hid hb6
           clear h6 hb6)
        | ((with_reducible apply HB6.out.tab.ld rowSf HC3n.out); exact rfl; exact rfl; exact rfl))
      go_roundw
      case rel => exact ⟨j + 1, by omega, by go_num, S3, x3, R7, X3, Y7, C3, HB7.out⟩
      case measure => simp [intOf]; omega
    · obtain rfl : j = l2.length := by omega
      have HCn := Lib.hid HB.out.rf.n
      go_wp2_with fail
      refine (hbytes_any HB.out.sh).mono ?_
      rintro e w7 ⟨rfl, t7⟩
      have HB7 := Lib.hid (HB.out.far t7)
      have hLn := encS_lenS HB.out.sh.ok
      obtain ⟨hg1, hg2, hg3⟩ := rdSh_write HB.out.sh.ok []
      obtain ⟨L, hL⟩ : ∃ L, L = encS S := ⟨_, rfl⟩
      rw [List.append_nil, ← hL] at hg1 hg2 hg3
      have HFb := Lib.hid (fun w1 (h : RfS w1 (fun k => k < w.heap.size) S C) => (show Calls Tryz.prog 30 #[.agg C] w1 (NewOwn w1 L) from hL ▸ fbytes_any _ S HB.out.sh.ok C w1 h))
      have HHb := Lib.hid (fun w1 g c1 c2 x1 R1 X1 Y1 (h : ShAt w1 g c1 c2 S x1 R1 X1 Y1) => (show Calls Tryz.prog 29 #[.pointer (some ⟨g, 0, none⟩)] w1 fun e w' => e = .returned (.string ⟨L.toArray⟩) ∧ Touch (fun _ => False) w1 w' from hL ▸ hbytes_any h))
      rw [← hL] at hLn ⊢
      have HG := Lib.hid (And.intro hg1 (And.intro hg2 hg3))
      clear t7 HB hg1 hg2 hg3 hL
      obtain ⟨cv, ov, hcv, hrd, hu, hm⟩ := conv_str w7 ⟨L.toArray⟩ w7.heap.size rfl (by rw [strSize]; omega)
      rw [strSize] at hcv hrd hu
      have hrd : Rd ((w7.alloc ov).drew) (fun k => k = w7.heap.size) (some ⟨w7.heap.size, 0, none⟩) L.length (L.map B8) := by simpa using hrd
      obtain ⟨W8, hW8⟩ : ∃ W8, W8 = (w7.alloc ov).drew := ⟨_, rfl⟩
      have HT8 := Lib.hid (show Touch (fun _ => False) w7 W8 from hW8 ▸ ((Touch.refl _ w7).alloc _).drew)
      have hz8 : W8.heap.size = w7.heap.size + 1 := by rw [hW8]; simp
      rw [← hW8] at hcv hrd
      have HRd := Lib.hid hrd
      obtain ⟨W9, hW9⟩ : ∃ W9, W9 = W8.alloc (.cells #[.slice (some ⟨w7.heap.size, 0, none⟩) L.length cv, .bool false] 103) := ⟨_, rfl⟩
      have HT9 := Lib.hid (show Touch (fun _ => False) w7 W9 from hW9 ▸ HT8.out.alloc _)
      have HD := Lib.hid (show RdAt W9 (w7.heap.size + 1) (fun k => k = w7.heap.size) L false from ⟨by omega, _, cv, hu, hm, hW9 ▸ hz8 ▸ Blk.new W8 _ _, hW9 ▸ hrd.touch ((Touch.refl (fun _ => False) W8).alloc _) (fun _ _ e => e)⟩)
      have hz9 : W9.heap.size = w7.heap.size + 2 := by rw [hW9]; simp [hz8]
      have HW9 := Lib.hid hW9.symm
      have HZ8 := Lib.hid hz8
      have HU := Lib.hid (And.intro hu hm)
      clear hrd hW8 hW9 hu hm hz8
      go_wp2_with (go_at_call 16; go_must (refine (open_any _ _ _ _).mono ?_); rintro e wo ⟨rfl, rfl⟩)
      rw [HW9.out, HZ8.out]
      clear hcv
      refine (hload_any (w7.heap.size + 1) (fun k => k = w7.heap.size) false L W9 HD.out (by omega) (fun k hk => by omega)).mono ?_
      rintro e wa (⟨hno, -⟩ | ⟨-, gt, c1, c2, xt, Rt, Xt, rfl, hst, hge, hgx, -, ta⟩)
      · rw [HG.out.1] at hno; cases hno
      rw [HG.out.2.1] at hst
      have HTa := Lib.hid (show Touch (fun _ => False) w7 wa from HT9.out.trans ta (fun q hq e => by omega))
      have HBa := Lib.hid (HB7.out.far HTa.out)
      have HSt := Lib.hid hst
      have HXt := Lib.hid (fun q (hq : Xt q) => hgx q (.inr hq))
      have hz7 := HB7.out.t.size
      clear hst ta hge hgx HG
      go_wp2_with (first
        | ((with_reducible apply HBa.out.tab.ld rowSf HCn.out); exact rfl; exact rfl; exact rfl)
        | (go_at_call 30; go_must (refine (HFb.out _ (by exact HBa.out.rf)).mono ?_); intro e wb hb
           obtain ⟨vb, rfl, hxb⟩ := OwnX.of (Touch.refl _ _) hb
           obtain ⟨Ab, nb, cb, rfl, hlb, -, -, hrb, tb9⟩ := hxb.readsS
           have hsb := Rd.str (l := L) hrb cb
           have HTb := Lib.hid tb9
           have HBb := Lib.hid (HBa.out.far tb9)
           have HStb := Lib.hid (HSt.out.far tb9)
           clear hb hxb hlb hrb tb9)
        | (go_at_call 29; go_must (refine (HHb.out _ _ _ _ _ _ _ _ (by exact HStb.out)).mono ?_); rintro e wc ⟨rfl, tc⟩
           have HBc := Lib.hid (HBb.out.far tc)
           have HStc := Lib.hid (HStb.out.far tc)
           clear tc)
        | ((with_reducible apply HBc.out.tab.ld rowSf HCn.out); exact rfl; exact rfl; exact rfl)
        | (go_at_call 34; go_must (refine (like14_any HStc.out _ C HBc.out.rf (fun q hq e => by have := HXt.out q e; omega) a1 HNa.out).mono ?_); rintro e wd ⟨rfl, Rd9, Yd9, -, -, -, td⟩
           have HTd := Lib.hid (show Touch (fun _ => False) w wd from HBc.out.t.trans td (fun q hq e => by have := HXt.out q e; omega))
           clear td)
        | (go_at_call 8; go_must (refine (lives14_any _).mono ?_); rintro e we ⟨rfl, te⟩; have HTz := Lib.hid (HTd.out.trans te (fun _ _ e => e)); clear te))
      go_ret
      exact ⟨rfl, HTz.out.below⟩
end Go.Proofs.YtlcefchbfjfifaaGreat
