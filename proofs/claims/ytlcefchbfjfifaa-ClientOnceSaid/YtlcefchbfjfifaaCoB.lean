/- law38.do: Want, Hear. -/
import Derived.Test.YtlcefchbfjfifaaVCoA
import Derived.Test.YtlcefchbfjfifaaVCnW
namespace Go.Proofs.Ytlcefchbfjfifaa
open Go.RowKit Cal
set_option maxHeartbeats 4000000
set_option maxRecDepth 100000
set_option linter.unusedVariables false
attribute [local irreducible] wpPlan

theorem whole_set {C X : Array Value} {n : Nat} (hC : C.size = n) (hX : X.size = n) : setAll C 0 X.toList = X := by
  rw [setAll_whole _ _ (by rw [Array.length_toList, hC, hX])]
theorem lightK_in {o : COpV} (h : lightK o = true) : (o.x.cal.wk.length ≤ 60 ∧ o.x.cal.cl.length ≤ 60 ∧ o.x.tm.lv.length ≤ 60) ∧ o.r.fired.length ≤ 200 := by
  simp only [lightK, Bool.and_eq_true, decide_eq_true_eq] at h
  exact ⟨lightN_in h.1, h.2⟩
theorem opC_code (o : COpV) (c : Cl) : (opC o c).code = o.code ∧ (opC o c).r = o.r ∧ (opC o c).E = o.E ∧ (opC o c).e = o.e := by
  unfold opC; split <;> exact ⟨rfl, rfl, rfl, rfl⟩

theorem do38_want {w0 w : World} {g : Nat} {c cr : Cl} {M : ClM} {F : Nat → Prop} {Mr : RfM} {Fr Z : Nat → Prop} (h : BoL w0 w g c M F cr Mr Fr Z) (okr : cr.Ok) (o : COpV) (oo : o.ok w0) (hlk : lightK o = true) (hk1 : o.kind ≠ 1) (hk2 : o.kind ≠ 2) :
    Calls Try.prog 10 #[.pointer (some ⟨g, 0, none⟩), .agg (rfC cr Mr), .agg o.arr] w (DoP38 w0 g (c.want o.x) (cr.want o.x) (c.wantE o.x == cr.wantE o.x) Z w) := by
  have hl := (lightK_in hlk).1
  have HZn := Lib.hid (show (#[.int .u64 0, .int .i64 0, .int .u64 0, .int .i64 0, .int .i64 0, .bool false, .int .i64 0, .int .u64 0, .int .u64 0, .int .u64 0, .int .i64 0, .int .i64 0, .int .i64 0, .slice none 0 0, .slice none 0 0, .int .i64 0, .slice none 0 0, .int .i64 0, .int .i64 0, .slice none 0 0] : Array Value).size = 20 from rfl)
  have HXn := Lib.hid (rfC_size (c := cr) h.rf.dn)
  have k0 := (by3Y w (rfC cr Mr) o.arr 49).cell 0
  rw [o.k0] at k0
  have HT := Lib.hid (by3T w (rfC cr Mr) o.arr 49)
  have HB := Lib.hid (by3X w (rfC cr Mr) o.arr 49)
  have HY := Lib.hid (by3Y w (rfC cr Mr) o.arr 49)
  have HR := Lib.hid (by3Z w (rfC cr Mr) o.arr 49)
  obtain ⟨Z', hZ'⟩ : ∃ Z' : Nat → Prop, Z' = fun k => Z k ∨ (w.heap.size ≤ k ∧ k < w.heap.size + 3) := ⟨_, rfl⟩
  have HA := Lib.hid (h.addZ (Z' := Z') HT.out (fun k hk => by rw [hZ'] at hk; rcases hk with hk | hk; exact .inl hk; exact .inr (by simpa using hk)))
  have hok := h.cv.at_.ok
  have hgl := h.cv.at_.blk.lt
  have hz0 := h.cv.t.size
  have hge := h.cv.ge
  have HQl := Lib.hid (fun k (hk : M.q = some k) => h.cv.at_.own.lt k hk)
  have HZl := Lib.hid (fun k hk => (h.z k hk).1)
  have HZZ := Lib.hid (show ∀ k, Z k → Z' k from fun k hk => by rw [hZ']; exact .inl hk)
  have HZs := Lib.hid (show ∀ k, w.heap.size ≤ k → k < w.heap.size + 3 → Z' k from fun k h1 h2 => by rw [hZ']; exact .inr ⟨h1, h2⟩)
  have HZt := Lib.hid (fun (u1 u2 : World) (t : Touch (fun k => k = g ∨ M.q = some k) u1 u2) => h.zt t)
  have hcm : CmR w (fun k => k < w0.heap.size) o.x o.A o.B o.D := oo.cm.touch h.cv.t (fun _ _ e => e)
  have HCm := Lib.hid hcm
  have H64 := Lib.hid oo.x64
  have HL := Lib.hid hl
  have HWf := Lib.hid (fun w1 (t : Touch (fun _ => False) w w1) => fwant_any cr Mr h.rf.dn h.rf.d1 h.rf.dv1 okr o.x oo.x64 o.A o.B o.D o.k o.m o.n (fun k => k < w0.heap.size) w1 (hcm.touch t (fun _ _ e => e)) hl)
  unfold FwP at HWf
  obtain ⟨Mr1, hMr1⟩ : ∃ Mr1, Mr1 = Mr.want cr o.x o.A o.B o.D o.k o.m o.n := ⟨_, rfl⟩
  rw [← hMr1] at HWf
  have HRf := Lib.hid (fun w1 (t : Touch (fun _ => False) w w1) => (show RfR w1 (fun k => Fr k ∨ k < w0.heap.size) (cr.want o.x) Mr1 from hMr1 ▸ RfR.want ((h.rf.touch t (fun _ _ e => e)).mono (fun k hk => .inl hk)) ((hcm.touch t (fun _ _ e => e)).mono (fun k hk => .inr hk))))
  have HFr := Lib.hid (fun k (hk : Fr k) => (h.fr k hk).1)
  have HX1n := Lib.hid (rfC_size (c := cr.want o.x) (HRf.out w (Touch.refl _ w)).dn)
  have HX11 := Lib.hid (rfC_one (c := cr.want o.x) (HRf.out w (Touch.refl _ w)).d1 (HRf.out w (Touch.refl _ w)).dv1)
  have HEc := Lib.hid o.ex_c
  have HCn := Lib.hid (cmA_size o.x o.A o.B o.D o.k o.m o.n)
  have HCw := Lib.hid (fun (w1 : World) (ha : ClAt w1 g c M F) (hlt : ∀ k, F k → k < w1.heap.size) (t : Touch (fun _ => False) w w1) => clwant_any ha hlt o.x oo.x64 o.A o.B o.D o.k o.m o.n (fun k => k < w0.heap.size) (hcm.touch t (fun _ _ e => e)) (fun k hk => by have := t.size; omega) hl)
  have hb1 : (o.kind == 1) = false := by simpa using hk1
  have hb2 : (o.kind == 2) = false := by simpa using hk2
  obtain ⟨X0, hX0⟩ : ∃ X0, X0 = rfC cr Mr := ⟨_, rfl⟩
  obtain ⟨X1, hX1⟩ : ∃ X1, X1 = rfC (cr.want o.x) Mr1 := ⟨_, rfl⟩
  rw [← hX0] at k0 HT HB HY HR HXn HWf HA ⊢
  rw [← hX1] at HWf HX1n HX11
  have HX1 := Lib.hid hX1
  obtain ⟨X13, hX13⟩ : ∃ X, X = cmA o.x o.A o.B o.D o.k o.m o.n := ⟨_, rfl⟩
  rw [← hX13] at HWf HEc HCn HCw
  obtain ⟨OC, hOC⟩ : ∃ X, X = o.arr := ⟨_, rfl⟩
  rw [← hOC] at k0 HT HB HY HR HEc HA ⊢
  generalize hEE : c.wantE o.x = EE at *
  generalize hEF : cr.wantE o.x = EF at *
  generalize o.kind = kd at *
  clear h hok hZ' oo hlk hl hcm hMr1 hX0 hX1 hX13 hOC hEE hEF okr
  go_enter Try.func10, Try.ntmps10
  go_wp2_with (first
    | ((with_reducible apply HB.out.ld rowRf HXn.out); exact rfl; exact rfl; exact rfl)
    | ((with_reducible apply HY.out.lp (k := 1) rowCm HCn.out HEc.out); exact rfl; exact rfl; exact rfl)
    | (go_at_call 27; go_must (refine (HWf.out _ (by exact HT.out)).mono ?_); rintro e w2 ⟨rfl, t2⟩
       have HT2 := Lib.hid t2
       have HN2 := Lib.hid (Blk.new w2 38 #[.int .u64 0, .int .i64 0, .int .u64 0, .int .i64 0, .int .i64 0, .bool false, .int .i64 0, .int .u64 0, .int .u64 0, .int .u64 0, .int .i64 0, .int .i64 0, .int .i64 0, .slice none 0 0, .slice none 0 0, .int .i64 0, .slice none 0 0, .int .i64 0, .int .i64 0, .slice none 0 0])
       clear t2)
    | ((with_reducible apply HN2.out.st rowRf HZn.out HX1n.out HX11.out); exact rfl; exact rfl; exact rfl; exact rfl
       intro w3 hb3 t3
       have HN3 := Lib.hid hb3
       have HT3 := Lib.hid (show Touch (fun _ => False) w2 w3 from ((Touch.refl (fun _ => False) w2).alloc (.cells #[.int .u64 0, .int .i64 0, .int .u64 0, .int .i64 0, .int .i64 0, .bool false, .int .i64 0, .int .u64 0, .int .u64 0, .int .u64 0, .int .i64 0, .int .i64 0, .int .i64 0, .slice none 0 0, .slice none 0 0, .int .i64 0, .slice none 0 0, .int .i64 0, .int .i64 0, .slice none 0 0] 38)).trans t3 (fun k hk e => by omega))
       clear hb3 t3))
  obtain ⟨WB, hWB⟩ : ∃ WB, WB = (((w.alloc (.cells X0 38)).alloc (.cells OC 49)).alloc (.cells #[.int .u64 0, .int .i64 0, .int .u64 0, .int .i64 0, .int .i64 0, .bool false, .int .i64 0, .int .u64 0, .int .u64 0, .int .u64 0, .int .i64 0, .int .i64 0, .int .i64 0, .slice none 0 0, .slice none 0 0, .int .i64 0, .slice none 0 0, .int .i64 0, .int .i64 0, .slice none 0 0] 38)) := ⟨_, rfl⟩
  rw [← hWB] at HT HB HY HR HA HT2
  have hz2 : w.heap.size + 3 ≤ w2.heap.size := by have := HT2.out.size; have := HR.out.lt; omega
  have hz3 := HT3.out.size
  obtain ⟨W4, hW4⟩ : ∃ W4, W4 = w3.drew := ⟨_, rfl⟩
  have HTB := Lib.hid (show Touch (fun _ => False) WB W4 from hW4 ▸ (HT2.out.trans HT3.out (fun _ _ e => e)).drew)
  have HN4 := Lib.hid (show Blk W4 w2.heap.size 38 X1 from hW4 ▸ (Touch.refl (fun _ => False) w3).drew.blk HN3.out (fun e => e))
  have HY4 := Lib.hid (HTB.out.blk HY.out (fun e => e))
  have HR4 := Lib.hid (HTB.out.blk HR.out (fun e => e))
  have hz4 : W4.heap.size = w3.heap.size := by rw [hW4]; rfl
  refine wp_region_plan [(0, 1), (0, 2), (1, 3), (1, 0), (1, 5), (2, 4), (1, 6), (2, 7), (0, 8)] (fun k => (k = g ∨ M.q = some k) ∨ k = w.heap.size + 2) (by kernel_rfl) (by kernel_rfl) (fun c a d v w h => by cases d <;> exact h) ?_
  rw [← hW4]
  clear hW4
  iterate 2
    refine plan_s1 rfl (by rfl) (fun Kc hKc => ?_)
    go_simp
    first
      | (refine hKc _ ?_)
    clear hKc Kc
  refine plan_hC rowCm rfl _ rfl rfl (w.heap.size + 1) 1 rfl X13 HCn.out (fun wh hT => by
    have := (hT.blk HY4.out (fun e => by rcases e with (e | e) | e; omega; have := HQl.out _ e; omega; omega)).range 1 13
    rw [HEc.out] at this; exact this) ?_
  go_simp
  refine plan_hC rowRf rfl _ rfl rfl w2.heap.size 0 rfl X1 HX1n.out (fun wh hT => (hT.blk HN4.out (fun e => by rcases e with (e | e) | e; omega; have := HQl.out _ e; omega; omega)).whole) ?_
  go_simp
  iterate 1
    apply plan_h
    · rfl
    · rfl
    · intro wh hT
      go_simp
      try rfl
    go_frame
  refine plan_a1 rfl (by rfl) (fun Kc hKc => ?_)
  go_simp
  refine (HCw.out _ (by exact (HA.out.far HTB.out).cv.at_) (by exact (HA.out.far HTB.out).cv.lt) (by exact HT.out.trans HTB.out (fun _ _ e => e))).mono ?_
  intro e w5 hp
  obtain ⟨M5, F5, rfl, hb5, t5⟩ := HA.out.go HTB.out (HRf.out _ (HT.out.trans HTB.out (fun _ _ e => e))) (fun k hk => by
    rcases hk with hk | hk
    · have := HFr.out k hk; have := HT.out.size; have := HTB.out.size; exact ⟨by omega, .inl hk⟩
    · have := HT.out.size; have := HTB.out.size; exact ⟨by omega, .inr (.inl hk)⟩) hp
  refine hKc _ _ ⟨t5.mono (fun k _ e => .inl e), ?_⟩
  clear hKc Kc
  clear hp
  have HR5 := Lib.hid (t5.blk HR4.out (fun e => by rcases e with e | e; omega; have := HQl.out _ e; omega))
  have HA5 := Lib.hid hb5
  have HT5 := Lib.hid (((HT.out.trans HTB.out (fun _ _ e => e)).mono (S' := fun k => w0.heap.size ≤ k ∧ ¬ Z k) (fun _ _ e => e.elim)).trans (HZt.out _ _ t5) (fun _ _ e => e))
  clear hb5 t5
  go_simp
  iterate 1
    apply plan_h
    · rfl
    · rfl
    · intro wh hT
      go_simp
      try rfl
    go_frame
  refine plan_aM rowRf rfl rfl _ _ rfl (w.heap.size + 2) 0 rfl X1 rfl _ _ HR5.out (by rw [HZn.out]; omega) HX1n.out HX11.out (.inr rfl) ?_
  intro w6 hb6 t6 _
  rw [whole_set HZn.out HX1n.out] at hb6
  have HB6 := Lib.hid hb6
  have HT6 := Lib.hid t6
  clear hb6 t6
  go_frame
  iterate 1
    refine plan_s1 rfl (by rfl) (fun Kc hKc => ?_)
    go_simp
    first
      | (refine hKc _ ?_)
    clear hKc Kc
  refine plan_done ?_
  go_wp2_with fail
  refine bodyPost_ret (results_cell2 6 7 rowRf HX1n.out (HB6.out.whole) rfl rfl) rfl ?_
  have hf := BoL.fin HZl.out hz0 HZZ.out (HZs.out _ (by omega) (by omega)) HA5.out HT5.out HT6.out
  exact ⟨M5, F5, Mr1, fun k => Fr k ∨ k < w0.heap.size, by rw [HX1.out]; simp, hf.1, hf.2⟩

theorem do38_hear {w0 w : World} {g : Nat} {c cr : Cl} {M : ClM} {F : Nat → Prop} {Mr : RfM} {Fr Z : Nat → Prop} (h : BoL w0 w g c M F cr Mr Fr Z) (okr : cr.Ok) (o : COpV) (oo : o.ok w0) (hlk : lightK o = true) (hdl : c.done.length ≤ 1000) (hdr : cr.done.length ≤ 1000) (hk : o.kind = 1) :
    Calls Try.prog 10 #[.pointer (some ⟨g, 0, none⟩), .agg (rfC cr Mr), .agg o.arr] w (DoP38 w0 g (c.hear (opC o cr).ac (opC o cr).ar o.code o.r) (cr.hear (opC o cr).ac (opC o cr).ar o.code o.r) (c.hearB (opC o cr).ac (opC o cr).ar o.code == cr.hearB (opC o cr).ac (opC o cr).ar o.code) Z w) := by
  have hl := (lightK_in hlk).2
  obtain ⟨o', ho'⟩ : ∃ o', o' = opC o cr := ⟨_, rfl⟩
  obtain ⟨e1, e2, e3, e4⟩ := opC_code o cr
  rw [← ho'] at e1 e2 e3 e4 ⊢
  rw [← e1, ← e2]
  have HZn := Lib.hid (show (#[.int .u64 0, .int .i64 0, .int .u64 0, .int .i64 0, .int .i64 0, .bool false, .int .i64 0, .int .u64 0, .int .u64 0, .int .u64 0, .int .i64 0, .int .i64 0, .int .i64 0, .slice none 0 0, .slice none 0 0, .int .i64 0, .slice none 0 0, .int .i64 0, .int .i64 0, .slice none 0 0] : Array Value).size = 20 from rfl)
  have HXn := Lib.hid (rfC_size (c := cr) h.rf.dn)
  have k0 := (by3Y w (rfC cr Mr) o.arr 49).cell 0
  have k31 := (by3Y w (rfC cr Mr) o.arr 49).cell 31
  rw [o.k0, hk] at k0
  rw [o.k31] at k31
  have HT := Lib.hid (by3T w (rfC cr Mr) o.arr 49)
  have HB := Lib.hid (by3X w (rfC cr Mr) o.arr 49)
  have HY := Lib.hid (by3Y w (rfC cr Mr) o.arr 49)
  have HR := Lib.hid (by3Z w (rfC cr Mr) o.arr 49)
  obtain ⟨Z', hZ'⟩ : ∃ Z' : Nat → Prop, Z' = fun k => Z k ∨ (w.heap.size ≤ k ∧ k < w.heap.size + 3) := ⟨_, rfl⟩
  have HA := Lib.hid (h.addZ (Z' := Z') HT.out (fun k hk => by rw [hZ'] at hk; rcases hk with hk | hk; exact .inl hk; exact .inr (by simpa using hk)))
  have hok := h.cv.at_.ok
  have hgl := h.cv.at_.blk.lt
  have hz0 := h.cv.t.size
  have hge := h.cv.ge
  have HQl := Lib.hid (fun k (hk : M.q = some k) => h.cv.at_.own.lt k hk)
  have HZl := Lib.hid (fun k hk => (h.z k hk).1)
  have HZZ := Lib.hid (show ∀ k, Z k → Z' k from fun k hk => by rw [hZ']; exact .inl hk)
  have HZs := Lib.hid (show ∀ k, w.heap.size ≤ k → k < w.heap.size + 3 → Z' k from fun k h1 h2 => by rw [hZ']; exact .inr ⟨h1, h2⟩)
  have HZt := Lib.hid (fun (u1 u2 : World) (t : Touch (fun k => k = g ∨ M.q = some k) u1 u2) => h.zt t)
  have hrp : Rd w (fun k => k < w0.heap.size) o'.E o'.r.fired.length (o'.r.fired.map U64) := by rw [e2, e3]; exact oo.rp.touch h.cv.t (fun _ _ e => e)
  have hfl : o'.r.fired.length ≤ 1000 := by rw [e2]; omega
  obtain ⟨c', hc'⟩ : ∃ c', c' = c.hear o'.ac o'.ar o'.code o'.r := ⟨_, rfl⟩
  obtain ⟨cr', hcr'⟩ : ∃ cr', cr' = cr.hear o'.ac o'.ar o'.code o'.r := ⟨_, rfl⟩
  rw [← hc', ← hcr']
  have HFr := Lib.hid (fun k (hk : Fr k) => (h.fr k hk).1)
  have HHf := Lib.hid (fun w1 (t : Touch (fun _ => False) w w1) => fhear_any (h.rf.touch t (fun _ _ e => e)) okr (ansA o') o'.r o'.E o'.e o'.ac o'.ar o'.code (ansA_c o') (fun k => k < w0.heap.size) (hrp.touch t (fun _ _ e => e)) (by omega) (fun q hq => by have := HFr.out q hq; have := t.size; omega))
  unfold FhP at HHf
  rw [← hcr'] at HHf
  have HCh := Lib.hid (fun (w1 : World) (ha : ClAt w1 g c M F) (hlt : ∀ k, F k → k < w1.heap.size) (t : Touch (fun _ => False) w w1) => clhear_any ha hlt (ansA o') o'.r o'.E o'.e o'.ac o'.ar o'.code (ansA_c o') (fun k => k < w0.heap.size) (hrp.touch t (fun _ _ e => e)) (fun k hk => by have := t.size; omega) hfl (by omega))
  rw [← hc'] at HCh
  have HEa := Lib.hid (ansA_eq o' ▸ o'.ex_a)
  have HAn := Lib.hid (show (ansA o').size = 17 from rfl)
  have HAe := Lib.hid (show ansA o' = #[.int .u64 o'.ac, .int .u64 o'.ar, .int .i64 o'.code, .int .i64 o'.r.code, .int .i64 o'.r.time, .int .u64 o'.r.t.id, .int .i64 o'.r.t.contract, .int .i64 o'.r.t.state, .int .i64 o'.r.t.level, .int .u64 o'.r.t.gen, .int .i64 o'.r.t.from_, .int .i64 o'.r.t.left, .int .i64 o'.r.t.due, .int .i64 o'.r.t.told, .slice o'.E o'.r.fired.length o'.e, .int .u64 o'.r.notice, .int .i64 o'.r.dead] from rfl)
  have HEr := Lib.hid o'.ex_r
  have HRn := Lib.hid (rpA_size o'.r o'.E o'.e)
  have HRe := Lib.hid (show rpA o'.r o'.E o'.e = #[.int .i64 o'.r.code, .int .i64 o'.r.time, .int .u64 o'.r.t.id, .int .i64 o'.r.t.contract, .int .i64 o'.r.t.state, .int .i64 o'.r.t.level, .int .u64 o'.r.t.gen, .int .i64 o'.r.t.from_, .int .i64 o'.r.t.left, .int .i64 o'.r.t.due, .int .i64 o'.r.t.told, .slice o'.E o'.r.fired.length o'.e, .int .u64 o'.r.notice, .int .i64 o'.r.dead] from rfl)
  have HX31 := Lib.hid (show (o'.arr[14]? = some (.int .u64 o'.ac) ∧ o'.arr[15]? = some (.int .u64 o'.ar)) ∧ o'.arr[16]? = some (.int .i64 o'.code) from ⟨⟨o'.k14, o'.k15⟩, o'.k16⟩)
  generalize hBB : c.hearB o'.ac o'.ar o'.code = BB at *
  generalize hBR : cr.hearB o'.ac o'.ar o'.code = BR at *
  obtain ⟨X0, hX0⟩ : ∃ X0, X0 = rfC cr Mr := ⟨_, rfl⟩
  obtain ⟨R14, hR14⟩ : ∃ X, X = rpA o'.r o'.E o'.e := ⟨_, rfl⟩
  obtain ⟨A17, hA17⟩ : ∃ X, X = ansA o' := ⟨_, rfl⟩
  rw [← hX0] at k0 k31 HT HB HY HR HXn HHf HA ⊢
  rw [← hR14] at HEr HRn HRe
  rw [← hA17] at HHf HCh HEa HAn HAe
  obtain ⟨OF, hOF⟩ : ∃ X, X = o'.arr := ⟨_, rfl⟩
  rw [← hOF] at HEa HEr HX31
  have HAr := Lib.hid (fun (hw : o.own = false) => (show o.arr = OF by rw [hOF, ho']; unfold opC; rw [if_neg (by rw [hw]; simp)]))
  have HAs := Lib.hid (fun (hw : o.own = true) => (show (o.arr.setIfInBounds 14 (.int .u64 cr.number)).setIfInBounds 15 (.int .u64 cr.req) = OF by rw [hOF, ho']; unfold opC; rw [if_pos hw]; exact o.set_own _ _))
  have HX00 := Lib.hid (show X0[0]? = some (.int .u64 cr.number) by rw [hX0, rfC_lo cr Mr (by omega)]; rfl)
  have HX02 := Lib.hid (show X0[2]? = some (.int .u64 cr.req) by rw [hX0, rfC_lo cr Mr (by omega)]; rfl)
  obtain ⟨WB, hWB⟩ : ∃ WB, WB = (((w.alloc (.cells X0 38)).alloc (.cells o.arr 49)).alloc (.cells #[.int .u64 0, .int .i64 0, .int .u64 0, .int .i64 0, .int .i64 0, .bool false, .int .i64 0, .int .u64 0, .int .u64 0, .int .u64 0, .int .i64 0, .int .i64 0, .int .i64 0, .slice none 0 0, .slice none 0 0, .int .i64 0, .slice none 0 0, .int .i64 0, .int .i64 0, .slice none 0 0] 38)) := ⟨_, rfl⟩
  have HWB := Lib.hid hWB
  rw [← hWB] at HT HB HY HR HA
  have hzB : w.heap.size + 3 ≤ WB.heap.size := by have := HR.out.lt; omega
  cases hw : o.own
  · rw [hw] at k31
    clear h hok hZ' oo hlk hl hrp hfl e1 e2 e3 e4 ho' hBB hBR okr hX0 hR14 hA17 hOF hWB
    have HTw := Lib.hid HT.out
    have HB1 := Lib.hid HB.out
    have HR1 := Lib.hid HR.out
    have HY1 := Lib.hid (show Blk WB (w.heap.size + 1) 49 OF from HAr.out hw ▸ HY.out)
    have HA1 := Lib.hid HA.out
    have hz1 : WB.heap.size ≤ WB.heap.size := Nat.le_refl _
    clear hw
    generalize o.arr = OA at *
    go_enter Try.func10, Try.ntmps10
    go_upto_if 17 with fail
    rw [← HWB.out]
    generalize hW1 : WB = W1 at *
    clear k0 k31
    have p14 := HY1.out.cell 14
    have p15 := HY1.out.cell 15
    have p16 := HY1.out.cell 16
    rw [HX31.out.1.1] at p14
    rw [HX31.out.1.2] at p15
    rw [HX31.out.2] at p16
    go_wp2_with (first
      | ((with_reducible apply HB1.out.ld rowRf HXn.out); exact rfl; exact rfl; exact rfl)
      | ((with_reducible apply HY1.out.lp (k := 17) rowRy HRn.out HEr.out); exact rfl; exact rfl; exact rfl; rw [HRe.out])
      | (go_at_call 25; rw [← HAe.out]; go_must (refine (HHf.out _ (by exact HTw.out)).mono ?_); rintro e w2 ⟨Mr1, rfl, hr2, t2⟩
         have HT2 := Lib.hid t2
         have HN2 := Lib.hid (Blk.new w2 38 #[.int .u64 0, .int .i64 0, .int .u64 0, .int .i64 0, .int .i64 0, .bool false, .int .i64 0, .int .u64 0, .int .u64 0, .int .u64 0, .int .i64 0, .int .i64 0, .int .i64 0, .slice none 0 0, .slice none 0 0, .int .i64 0, .slice none 0 0, .int .i64 0, .int .i64 0, .slice none 0 0])
         have HRf := Lib.hid hr2
         have HX1n := Lib.hid (rfC_size (c := cr') hr2.dn)
         have HX11 := Lib.hid (rfC_one (c := cr') hr2.d1 hr2.dv1)
         obtain ⟨X1, hX1⟩ : ∃ X1, X1 = rfC cr' Mr1 := ⟨_, rfl⟩
         rw [← hX1] at HX1n HX11 ⊢
         have HX1 := Lib.hid hX1
         clear t2 hr2 hX1)
      | ((with_reducible apply HN2.out.st rowRf HZn.out HX1n.out HX11.out); exact rfl; exact rfl; exact rfl; exact rfl
         intro w3 hb3 t3
         have HN3 := Lib.hid hb3
         have HT3 := Lib.hid (show Touch (fun _ => False) w2 w3 from ((Touch.refl (fun _ => False) w2).alloc (.cells #[.int .u64 0, .int .i64 0, .int .u64 0, .int .i64 0, .int .i64 0, .bool false, .int .i64 0, .int .u64 0, .int .u64 0, .int .u64 0, .int .i64 0, .int .i64 0, .int .i64 0, .slice none 0 0, .slice none 0 0, .int .i64 0, .slice none 0 0, .int .i64 0, .int .i64 0, .slice none 0 0] 38)).trans t3 (fun k hk e => by omega))
         clear hb3 t3))
    clear p14 p15 p16
    have hz2 : w.heap.size + 3 ≤ w2.heap.size := by have := HT2.out.size; omega
    have hz3 := HT3.out.size
    obtain ⟨W4, hW4⟩ : ∃ W4, W4 = w3.drew := ⟨_, rfl⟩
    have HTB := Lib.hid (show Touch (fun _ => False) W1 W4 from hW4 ▸ (HT2.out.trans HT3.out (fun _ _ e => e)).drew)
    have HT24 := Lib.hid (show Touch (fun _ => False) w2 W4 from hW4 ▸ HT3.out.drew)
    have HN4 := Lib.hid (show Blk W4 w2.heap.size 38 X1 from hW4 ▸ (Touch.refl (fun _ => False) w3).drew.blk HN3.out (fun e => e))
    have HY4 := Lib.hid (HTB.out.blk HY1.out (fun e => e))
    have HR4 := Lib.hid (HTB.out.blk HR1.out (fun e => e))
    have hz4 : W4.heap.size = w3.heap.size := by rw [hW4]; rfl
    refine wp_region_plan [(0, 1), (0, 2), (1, 3), (1, 0), (1, 5), (2, 4), (1, 6), (2, 7), (0, 8)] (fun k => (k = g ∨ M.q = some k) ∨ k = w.heap.size + 2) (by kernel_rfl) (by kernel_rfl) (fun c a d v w h => by cases d <;> exact h) ?_
    rw [← hW4]
    clear hW4
    iterate 2
      refine plan_s1 rfl (by rfl) (fun Kc hKc => ?_)
      go_simp
      first
        | (refine hKc _ ?_)
      clear hKc Kc
    refine plan_hC rowAns rfl _ rfl rfl (w.heap.size + 1) 14 rfl A17 HAn.out (fun wh hT => by
      have := (hT.blk HY4.out (fun e => by rcases e with (e | e) | e; omega; have := HQl.out _ e; omega; omega)).range 14 17
      rw [HEa.out] at this; exact this) ?_
    go_simp
    refine plan_hC rowRf rfl _ rfl rfl w2.heap.size 0 rfl X1 HX1n.out (fun wh hT => (hT.blk HN4.out (fun e => by rcases e with (e | e) | e; omega; have := HQl.out _ e; omega; omega)).whole) ?_
    go_simp
    iterate 1
      apply plan_h
      · rfl
      · rfl
      · intro wh hT
        go_simp
        try rfl
      go_frame
    refine plan_a1 rfl (by rfl) (fun Kc hKc => ?_)
    go_simp
    refine (HCh.out _ (by exact (HA1.out.far HTB.out).cv.at_) (by exact (HA1.out.far HTB.out).cv.lt) (by exact HTw.out.trans HTB.out (fun _ _ e => e))).mono ?_
    intro e w5 hp
    obtain ⟨M5, F5, rfl, hb5, t5⟩ := HA1.out.go HTB.out (HRf.out.touch HT24.out (fun _ _ e => e)) (fun k hk => by
      have := HTw.out.size; have := HT2.out.size; have := HTB.out.size; have := HT24.out.size
      rcases hk with hk | hk | hk
      · have := HFr.out k hk; exact ⟨by omega, .inl hk⟩
      · exact ⟨by omega, .inr (.inl hk)⟩
      · exact ⟨by omega, .inr (.inr hk.1)⟩) hp
    refine hKc _ _ ⟨t5.mono (fun k _ e => .inl e), ?_⟩
    clear hKc Kc
    clear hp
    have HR5 := Lib.hid (t5.blk HR4.out (fun e => by rcases e with e | e; omega; have := HQl.out _ e; omega))
    have HA5 := Lib.hid hb5
    have HT5 := Lib.hid (((HTw.out.trans HTB.out (fun _ _ e => e)).mono (S' := fun k => w0.heap.size ≤ k ∧ ¬ Z k) (fun _ _ e => e.elim)).trans (HZt.out _ _ t5) (fun _ _ e => e))
    clear hb5 t5
    go_simp
    iterate 1
      apply plan_h
      · rfl
      · rfl
      · intro wh hT
        go_simp
        try rfl
      go_frame
    refine plan_aM rowRf rfl rfl _ _ rfl (w.heap.size + 2) 0 rfl X1 rfl _ _ HR5.out (by rw [HZn.out]; omega) HX1n.out HX11.out (.inr rfl) ?_
    intro w6 hb6 t6 _
    rw [whole_set HZn.out HX1n.out] at hb6
    have HB6 := Lib.hid hb6
    have HT6 := Lib.hid t6
    clear hb6 t6
    go_frame
    iterate 1
      refine plan_s1 rfl (by rfl) (fun Kc hKc => ?_)
      go_simp
      first
        | (refine hKc _ ?_)
      clear hKc Kc
    refine plan_done ?_
    go_wp2_with fail
    refine bodyPost_ret (results_cell2 6 7 rowRf HX1n.out (HB6.out.whole) rfl rfl) rfl ?_
    have hf := BoL.fin HZl.out hz0 HZZ.out (HZs.out _ (by omega) (by omega)) HA5.out HT5.out HT6.out
    exact ⟨M5, F5, Mr1, _, by rw [HX1.out]; simp, hf.1, hf.2⟩
  · rw [hw] at k31
    clear h hok hZ' oo hlk hl hrp hfl e1 e2 e3 e4 ho' hBB hBR okr hX0 hR14 hA17 hOF hWB
    have x14 := HY.out.cell 14
    have x15 := HY.out.cell 15
    rw [o.k14] at x14
    rw [o.k15] at x15
    have g14 := HY.out.frozen 14
    have g15 := HY.out.frozen 15
    have ts := ((Touch.refl (fun k => k = w.heap.size + 1) WB).set (b := w.heap.size + 1) (o := 14) (fun _ => rfl) (.int .u64 cr.number)).set (b := w.heap.size + 1) (o := 15) (fun _ => rfl) (.int .u64 cr.req)
    have hbo := (HY.out.set_ 14 (.int .u64 cr.number)).set_ 15 (.int .u64 cr.req)
    rw [HAs.out hw] at hbo
    obtain ⟨W1, hW1⟩ : ∃ W1, W1 = ((WB.setCell ⟨w.heap.size + 1, 14, none⟩ (.int .u64 cr.number)).setCell ⟨w.heap.size + 1, 15, none⟩ (.int .u64 cr.req)).drew := ⟨_, rfl⟩
    have tw1 : Touch (fun k => k = w.heap.size + 1) WB W1 := hW1 ▸ ts.drew
    have HTw := Lib.hid (show Touch (fun _ => False) w W1 from HT.out.trans tw1 (fun k hk e => by omega))
    have HB1 := Lib.hid (tw1.blk HB.out (by omega))
    have HR1 := Lib.hid (tw1.blk HR.out (by omega))
    have HY1 := Lib.hid (show Blk W1 (w.heap.size + 1) 49 OF from hW1 ▸ (Touch.refl (fun _ => False) _).drew.blk hbo (fun e => e))
    have HA1 := Lib.hid (HA.out.zset tw1 (fun k e => by subst e; exact HZs.out _ (by omega) (by omega)))
    have hz1 : WB.heap.size ≤ W1.heap.size := tw1.size
    clear hbo ts tw1 hw
    generalize o.arr = OA at *
    go_enter Try.func10, Try.ntmps10
    go_wp2_with fail
    rw [← HWB.out]
    have q0 := HB.out.cell 0
    have q2 := HB.out.cell 2
    rw [HX00.out] at q0
    rw [HX02.out] at q2
    refine wp_region_plan [(0, 0), (0, 1), (0, 4), (0, 5), (1, 2), (1, 3), (2, 6), (0, 7), (0, 8), (2, 9)] (fun k => k = w.heap.size + 1) (by kernel_rfl) (by kernel_rfl) (fun c a d v w h => by cases d <;> exact h) ?_
    iterate 4
      refine plan_s1 rfl (by rfl) (fun Kc hKc => ?_)
      go_simp
      first
        | (refine hKc _ ?_)
      clear hKc Kc
    iterate 1
      apply plan_h
      · rfl
      · rfl
      · intro wh hT
        go_simp
        try rfl
      go_frame
    iterate 1
      apply plan_h
      · rfl
      · rfl
      · intro wh hT
        have hf0 := show wh.cell? ⟨w.heap.size, 2, none⟩ = some (.int .u64 cr.req) from (hT.cell (p := ⟨w.heap.size, 2, none⟩) (by simp; omega) (by simp)).trans q2
        go_simp
        try rfl
      go_frame
    refine plan_a1 rfl (by rfl) (fun Kc hKc => ?_)
    go_simp
    refine hKc _ _ ⟨(Touch.refl (fun q => q = w.heap.size + 1) _).set (b := w.heap.size + 1) (o := 14) (fun _ => rfl) _, ?_⟩
    clear hKc Kc
    iterate 2
      refine plan_s1 rfl (by rfl) (fun Kc hKc => ?_)
      go_simp
      first
        | (refine hKc _ ?_)
      clear hKc Kc
    refine plan_a1 rfl (by rfl) (fun Kc hKc => ?_)
    go_simp
    refine hKc _ _ ⟨(Touch.refl (fun q => q = w.heap.size + 1) _).set (b := w.heap.size + 1) (o := 15) (fun _ => rfl) _, ?_⟩
    clear hKc Kc
    refine plan_done ?_
    rw [← hW1]
    clear hW1 q0 q2 x14 x15 g14 g15 k0 k31
    have p14 := HY1.out.cell 14
    have p15 := HY1.out.cell 15
    have p16 := HY1.out.cell 16
    rw [HX31.out.1.1] at p14
    rw [HX31.out.1.2] at p15
    rw [HX31.out.2] at p16
    go_wp2_with (first
      | ((with_reducible apply HB1.out.ld rowRf HXn.out); exact rfl; exact rfl; exact rfl)
      | ((with_reducible apply HY1.out.lp (k := 17) rowRy HRn.out HEr.out); exact rfl; exact rfl; exact rfl; rw [HRe.out])
      | (go_at_call 25; rw [← HAe.out]; go_must (refine (HHf.out _ (by exact HTw.out)).mono ?_); rintro e w2 ⟨Mr1, rfl, hr2, t2⟩
         have HT2 := Lib.hid t2
         have HN2 := Lib.hid (Blk.new w2 38 #[.int .u64 0, .int .i64 0, .int .u64 0, .int .i64 0, .int .i64 0, .bool false, .int .i64 0, .int .u64 0, .int .u64 0, .int .u64 0, .int .i64 0, .int .i64 0, .int .i64 0, .slice none 0 0, .slice none 0 0, .int .i64 0, .slice none 0 0, .int .i64 0, .int .i64 0, .slice none 0 0])
         have HRf := Lib.hid hr2
         have HX1n := Lib.hid (rfC_size (c := cr') hr2.dn)
         have HX11 := Lib.hid (rfC_one (c := cr') hr2.d1 hr2.dv1)
         obtain ⟨X1, hX1⟩ : ∃ X1, X1 = rfC cr' Mr1 := ⟨_, rfl⟩
         rw [← hX1] at HX1n HX11 ⊢
         have HX1 := Lib.hid hX1
         clear t2 hr2 hX1)
      | ((with_reducible apply HN2.out.st rowRf HZn.out HX1n.out HX11.out); exact rfl; exact rfl; exact rfl; exact rfl
         intro w3 hb3 t3
         have HN3 := Lib.hid hb3
         have HT3 := Lib.hid (show Touch (fun _ => False) w2 w3 from ((Touch.refl (fun _ => False) w2).alloc (.cells #[.int .u64 0, .int .i64 0, .int .u64 0, .int .i64 0, .int .i64 0, .bool false, .int .i64 0, .int .u64 0, .int .u64 0, .int .u64 0, .int .i64 0, .int .i64 0, .int .i64 0, .slice none 0 0, .slice none 0 0, .int .i64 0, .slice none 0 0, .int .i64 0, .int .i64 0, .slice none 0 0] 38)).trans t3 (fun k hk e => by omega))
         clear hb3 t3))
    clear p14 p15 p16
    have hz2 : w.heap.size + 3 ≤ w2.heap.size := by have := HT2.out.size; omega
    have hz3 := HT3.out.size
    obtain ⟨W4, hW4⟩ : ∃ W4, W4 = w3.drew := ⟨_, rfl⟩
    have HTB := Lib.hid (show Touch (fun _ => False) W1 W4 from hW4 ▸ (HT2.out.trans HT3.out (fun _ _ e => e)).drew)
    have HT24 := Lib.hid (show Touch (fun _ => False) w2 W4 from hW4 ▸ HT3.out.drew)
    have HN4 := Lib.hid (show Blk W4 w2.heap.size 38 X1 from hW4 ▸ (Touch.refl (fun _ => False) w3).drew.blk HN3.out (fun e => e))
    have HY4 := Lib.hid (HTB.out.blk HY1.out (fun e => e))
    have HR4 := Lib.hid (HTB.out.blk HR1.out (fun e => e))
    have hz4 : W4.heap.size = w3.heap.size := by rw [hW4]; rfl
    refine wp_region_plan [(0, 1), (0, 2), (1, 3), (1, 0), (1, 5), (2, 4), (1, 6), (2, 7), (0, 8)] (fun k => (k = g ∨ M.q = some k) ∨ k = w.heap.size + 2) (by kernel_rfl) (by kernel_rfl) (fun c a d v w h => by cases d <;> exact h) ?_
    rw [← hW4]
    clear hW4
    iterate 2
      refine plan_s1 rfl (by rfl) (fun Kc hKc => ?_)
      go_simp
      first
        | (refine hKc _ ?_)
      clear hKc Kc
    refine plan_hC rowAns rfl _ rfl rfl (w.heap.size + 1) 14 rfl A17 HAn.out (fun wh hT => by
      have := (hT.blk HY4.out (fun e => by rcases e with (e | e) | e; omega; have := HQl.out _ e; omega; omega)).range 14 17
      rw [HEa.out] at this; exact this) ?_
    go_simp
    refine plan_hC rowRf rfl _ rfl rfl w2.heap.size 0 rfl X1 HX1n.out (fun wh hT => (hT.blk HN4.out (fun e => by rcases e with (e | e) | e; omega; have := HQl.out _ e; omega; omega)).whole) ?_
    go_simp
    iterate 1
      apply plan_h
      · rfl
      · rfl
      · intro wh hT
        go_simp
        try rfl
      go_frame
    refine plan_a1 rfl (by rfl) (fun Kc hKc => ?_)
    go_simp
    refine (HCh.out _ (by exact (HA1.out.far HTB.out).cv.at_) (by exact (HA1.out.far HTB.out).cv.lt) (by exact HTw.out.trans HTB.out (fun _ _ e => e))).mono ?_
    intro e w5 hp
    obtain ⟨M5, F5, rfl, hb5, t5⟩ := HA1.out.go HTB.out (HRf.out.touch HT24.out (fun _ _ e => e)) (fun k hk => by
      have := HTw.out.size; have := HT2.out.size; have := HTB.out.size; have := HT24.out.size
      rcases hk with hk | hk | hk
      · have := HFr.out k hk; exact ⟨by omega, .inl hk⟩
      · exact ⟨by omega, .inr (.inl hk)⟩
      · exact ⟨by omega, .inr (.inr hk.1)⟩) hp
    refine hKc _ _ ⟨t5.mono (fun k _ e => .inl e), ?_⟩
    clear hKc Kc
    clear hp
    have HR5 := Lib.hid (t5.blk HR4.out (fun e => by rcases e with e | e; omega; have := HQl.out _ e; omega))
    have HA5 := Lib.hid hb5
    have HT5 := Lib.hid (((HTw.out.trans HTB.out (fun _ _ e => e)).mono (S' := fun k => w0.heap.size ≤ k ∧ ¬ Z k) (fun _ _ e => e.elim)).trans (HZt.out _ _ t5) (fun _ _ e => e))
    clear hb5 t5
    go_simp
    iterate 1
      apply plan_h
      · rfl
      · rfl
      · intro wh hT
        go_simp
        try rfl
      go_frame
    refine plan_aM rowRf rfl rfl _ _ rfl (w.heap.size + 2) 0 rfl X1 rfl _ _ HR5.out (by rw [HZn.out]; omega) HX1n.out HX11.out (.inr rfl) ?_
    intro w6 hb6 t6 _
    rw [whole_set HZn.out HX1n.out] at hb6
    have HB6 := Lib.hid hb6
    have HT6 := Lib.hid t6
    clear hb6 t6
    go_frame
    iterate 1
      refine plan_s1 rfl (by rfl) (fun Kc hKc => ?_)
      go_simp
      first
        | (refine hKc _ ?_)
      clear hKc Kc
    refine plan_done ?_
    go_wp2_with fail
    refine bodyPost_ret (results_cell2 6 7 rowRf HX1n.out (HB6.out.whole) rfl rfl) rfl ?_
    have hf := BoL.fin HZl.out hz0 HZZ.out (HZs.out _ (by omega) (by omega)) HA5.out HT5.out HT6.out
    exact ⟨M5, F5, Mr1, _, by rw [HX1.out]; simp, hf.1, hf.2⟩
end Go.Proofs.Ytlcefchbfjfifaa
