/- disk.Disk: Crash. (written by genDkM.py) -/
import Derived.Test.YtpgakkpmpnebnaaVDkK
import Derived.Test.YtpgakkpmpnebnaaVDkI
import Derived.Test.YtpgakkpmpnebnaaVDkL
namespace Go.Proofs.Ytpgakkpmpnebnaa
open Go.RowKit Go.Maps
set_option maxHeartbeats 4000000
set_option maxRecDepth 100000
set_option linter.unusedVariables false
attribute [local irreducible] wpPlan

/-- A crash half done. -/
def CrM (w0 w1 wr : World) (g b m tb : Nat) (D : Dk) (F G : Nat → Prop) (ts : List Tr) (i : Nat) : Prop :=
  ∃ (done : List Fi) (tsi : List Tr) (Fr : Nat → Prop), DkAt wr g b m { D with down := true, armed := -1, fs := done ++ D.fs.drop i } Fr ∧
    (∃ A' c', Blk wr tb 69 #[.slice A' tsi.length c'] ∧ TrR wr G A' tsi.length tsi ∧ tsi.length ≤ c' ∧ c' ≤ maxLen) ∧
    crashF D.fs ts = done ++ crashF (D.fs.drop i) tsi ∧ Touch (fun q => q = g ∨ q = b ∨ q = tb) w1 wr ∧
    (∀ q, Fr q → F q ∨ (w0.heap.size < q ∧ q < wr.heap.size)) ∧ (∀ t ∈ tsi, t.keep < 65536 ∧ t.turn < 4294967296)
theorem wp_full_append {P : Program} {w : World} {o : Oper} {a : Act} {K : Act → World → Prop} {Q : Exit → Act → World → Prop} (s x : Operand) (t tx : TypeId)
    (ho : o.op = .call { callee := .builtin .append, args := #[s, x], argTypes := #[t, tx] })
    (e : TypeId) (i : TypeInfo) (z : Value) (bytes : Nat) (ht : P.underlying t = some (.slice e)) (hi : P.info? e = some i) (hz : i.zero = some z)
    (hsize : i.size = 1) (hby : i.bytes = bytes) (hzs : z.cells.size = 1)
    (A : Option Addr) (n : Nat) (xs : List Value) (hsv : a.eval s = .slice A n n) (F : Nat → Prop) (hrd : Rd w F A n xs)
    (xv : Value) (m : Nat) (news : List Value) (hx : a.eval x = xv) (hs : Src P 1 tx xv m news w)
    (h63 : n + m ≤ maxLen) (hbytes : (n + m) * bytes ≤ 140737488355328)
    (h : ∀ A' c w', Rd w' (fun q => F q ∨ (w.heap.size ≤ q ∧ q < w'.heap.size)) A' (n + m) (xs ++ news) → n + m ≤ c → c ≤ maxLen → Touch (fun _ => False) w w' → K (a.put o.dst (.slice A' (n + m) c)) w') : o.wp P a w K Q := by
  obtain ⟨A', c, w', hr, h2, h3, h4, h5⟩ := run_full_append (P := P) (w := w) t tx o.type e i z bytes ht hi hz hsize hby hzs hrd xv hs h63 hbytes
  unfold Oper.wp execOp
  simp only [ho, resolve, invoke, builtin, Sem.run_bind, Sem.run_pure, Result.andThen_ok, List.map_toArray, List.map_cons, List.map_nil, hsv, hx, hr]
  exact h A' c w' h2 h3 h4 h5
theorem mem_mid {done rest : List Fi} {f x : Fi} (h : x ∈ done ++ rest) : x ∈ done ++ f :: rest := by
  rcases List.mem_append.1 h with h | h
  · exact List.mem_append.2 (.inl h)
  · exact List.mem_append.2 (.inr (List.mem_cons_of_mem _ h))
theorem headD_ok {ts : List Tr} (h : ∀ t ∈ ts, t.keep < 65536 ∧ t.turn < 4294967296) : (ts.headD ⟨0, 0⟩).keep < 65536 ∧ (ts.headD ⟨0, 0⟩).turn < 4294967296 := by
  cases ts with
  | nil => simp
  | cons t r => exact h t (by simp)
theorem dcrash_any {w : World} {g b m : Nat} {D : Dk} {F : Nat → Prop} (h : DkAt w g b m D F) {G : Nat → Prop} {TA : Option Addr} {tc : Nat} (ts : List Tr) (hT : TrR w G TA ts.length ts) (hG : ∀ q, G q → q < w.heap.size ∧ q ≠ g ∧ q ≠ b ∧ q ≠ m) (htc : ts.length ≤ tc ∧ tc ≤ maxLen) (hok : ∀ t ∈ ts, t.keep < 65536 ∧ t.turn < 4294967296) :
    Calls Try.prog 43 #[.pointer (some ⟨g, 0, none⟩), .slice TA ts.length tc] w (DkC g b m (D.crash ts, 0) F w) := by
  obtain ⟨tb, htb⟩ : ∃ tb, tb = w.heap.size := ⟨_, rfl⟩
  obtain ⟨wa, hwa⟩ : ∃ wa, wa = w.alloc (.cells #[.slice TA ts.length tc] 69) := ⟨_, rfl⟩
  have ta : Touch (fun _ => False) w wa := hwa ▸ (Touch.refl (fun _ => False) w).alloc _
  have hba : Blk wa tb 69 #[.slice TA ts.length tc] := by rw [hwa, htb]; exact Blk.new w _ _
  have hlt := h.lt
  have hne := h.ne
  have hda := h.far ta
  have HN := Lib.hid (dnone_any hda)
  have q2 := hda.blk.cell 2
  have q3 := hda.blk.cell 3
  have f2 := hda.blk.frozen 2
  have f3 := hda.blk.frozen 3
  simp [dkA] at q2 q3
  obtain ⟨w1, hw1⟩ : ∃ w1, w1 = (wa.setCell ⟨g, 2, none⟩ (.bool true)).setCell ⟨g, 3, none⟩ (.int .i64 (-1)) := ⟨_, rfl⟩
  have t1 : Touch (fun q => q = g) wa w1 := hw1 ▸ ((Touch.refl (fun q => q = g) wa).set (b := g) (o := 2) (fun _ => rfl) (.bool true)).set (b := g) (o := 3) (fun _ => rfl) (.int .i64 (-1))
  have hb1 : Blk w1 g 102 (dkA b D.room true (-1) m) := by
    have := (hda.blk.set_ 2 (.bool true)).set_ 3 (.int .i64 (-1))
    rw [hw1]
    simpa [dkA] using this
  have hd1 := hda.own (room := D.room) (down := true) (armed := -1) h.ok.room (by omega) hb1 t1
  have HNm := Lib.hid (dnames_any hd1)
  unfold NmsP at HNm
  have hb0 := t1.blk hba (by omega)
  have hT1 := (hT.touch ta (fun _ _ e => e)).touch t1 (fun q hq e => (hG q hq).2.1 e)
  have hs1 := t1.size
  have hsa := ta.size
  have hsz : wa.heap.size = tb + 1 := by rw [hwa, htb]; simp
  have hFl := h.fl
  have hnF := h.nF
  have HC0 := Lib.hid (show CrM w w1 w1 g b m tb D F G ts 0 from ⟨[], ts, F, by simpa using hd1, ⟨TA, tc, hb0, hT1, htc⟩, by simp, Touch.refl _ _, fun q hq => .inl hq, hok⟩)
  have HTa := Lib.hid ((ta.mono (S' := fun q => q = g) (fun _ _ e => e.elim)).trans t1 (fun _ _ e => e))
  have HOk := Lib.hid h.ok
  have HG := Lib.hid hG
  have HFl := Lib.hid hFl
  have hn128 := h.ok.n
  subst htb
  have HWa := Lib.hid hwa
  have HW1 := Lib.hid hw1
  clear hwa hw1
  clear h hT hok ta t1 hba hda hd1 hb0 hb1 hT1 hG
  go_enter Try.func43, Try.ntmps43
  go_wp2_with (first
    | (go_at_call 87; rw [← HWa.out]; go_must (refine HN.out.mono ?_); rintro e wx ⟨rfl, rfl⟩)
    | (go_at_call 35; rw [← HW1.out]; go_must (refine HNm.out.mono ?_); rintro e w2 ⟨NA, nc, rfl, hrn, t2⟩
       have HRn := Lib.hid hrn
       have HT2 := Lib.hid t2
       have hs2 := t2.size
       clear hrn t2))
  clear q2 q3 f2 f3
  go_loopw [21] (fun s wr => ∃ i : Nat, i ≤ D.fs.length ∧ s = .int .i64 i ∧ CrM w w2 wr g b m w.heap.size D F G ts i) (fun s _ => D.fs.length - (intOf s).toNat)
  case atStart =>
    obtain ⟨done, tsi, Fr, hd, ⟨A1, c1, hb, hr, hc⟩, hcr, -, hF, hok⟩ := HC0.out
    have t := HT2.out
    exact ⟨0, by omega, rfl, done, tsi, Fr, hd.far t, ⟨A1, c1, t.blk hb (fun e => e), hr.touch t (fun _ _ e => e), hc⟩, hcr, Touch.refl _ _, fun q hq => (hF q hq).imp id (fun ⟨e1, e2⟩ => ⟨e1, by omega⟩), hok⟩
  case round =>
    clear HC0 HNm HN htc
    obtain ⟨i, hi, rfl, done, tsi, Fr, hd, ⟨A1, c1, hbx, htr, hc1⟩, hcr, hT, hFr, hokr⟩ := hrel
    have hTs := hT.size
    by_cases hin : i < D.fs.length
    · obtain ⟨f, hf⟩ : ∃ f, D.fs[i]? = some f := ⟨_, List.getElem?_eq_getElem hin⟩
      have hdr : D.fs.drop i = f :: D.fs.drop (i + 1) := by rw [List.drop_eq_getElem_cons hin]; congr 1; rw [List.getElem?_eq_getElem hin] at hf; exact Option.some.inj hf
      obtain ⟨rest, hrest⟩ : ∃ rest, rest = D.fs.drop (i + 1) := ⟨_, rfl⟩
      rw [hdr, ← hrest] at hd hcr
      obtain ⟨gn, on, rfl, hgl, hgR, hgc⟩ := HRn.out.2 (by omega)
      have hnm := (hT.cell (p := ⟨gn, on + i, none⟩) hgl (by simp; omega)).trans (hgc i (St f.nm) (by simp [namesOf, hf]))
      have hfm : f ∈ D.fs := List.mem_of_getElem? hf
      have hfo := HOk.out.nm f hfm
      have hmp : FlM wr b (done ++ f :: rest) Fr := hd.mp
      have hso : Sorted (done ++ f :: rest) := hd.ok.so
      have hto : totF (done ++ f :: rest) ≤ 1048576 := hd.ok.tot
      have hln : (done ++ f :: rest).length ≤ 128 := hd.ok.n
      have hno : ∀ x ∈ done ++ f :: rest, 1 ≤ x.nm.length ∧ x.nm.length ≤ 16 ∧ x.kp ≤ x.al.length := hd.ok.nm
      have hinS : ∀ x ∈ done ++ f :: rest, inS x.nm := hd.ok.inS
      have hal : f.al.length ≤ 1048576 := by rw [totF_mid] at hto; omega
      obtain ⟨Af, cf, hlk, hbr⟩ := hmp.look (hinS f (by simp)) (mid_get hso)
      have hcf := hbr.2
      have q0 := hd.blk.cell 0
      simp [dkA] at q0
      obtain ⟨wp, hwp⟩ : ∃ wp, wp = wr.alloc (.cells #[.slice Af f.al.length cf, .int .i64 (f.kp : Int)] 149) := ⟨_, rfl⟩
      have HWp := Lib.hid hwp
      have HTp := Lib.hid (show Touch (fun _ => False) wr wp from hwp ▸ (Touch.refl (fun _ => False) wr).alloc _)
      have hbp : Blk wp wr.heap.size 149 #[.slice Af f.al.length cf, .int .i64 (f.kp : Int)] := hwp ▸ Blk.new wr _ _
      have hsp : wp.heap.size = wr.heap.size + 1 := by rw [hwp]; simp
      have HBp := Lib.hid hbp
      have HD := Lib.hid hd
      have HBx := Lib.hid hbx
      have HTr := Lib.hid htr
      have HCr := Lib.hid hcr
      have HT := Lib.hid hT
      have HFr := Lib.hid hFr
      have HOr := Lib.hid hokr
      have HSo := Lib.hid hso
      have HNo := Lib.hid hno
      have HIn := Lib.hid hinS
      have HBr := Lib.hid hbr
      have hdl := hd.lt
      have hdn := hd.nF
      unfold ctA at hlk
      clear hd hbx htr hcr hT hFr hokr hso hno hinS hbr hmp hwp hbp hdr hf hfm
      by_cases hk : f.kp < f.al.length
      · have hki : (f.kp : Int) < (f.al.length : Int) := by omega
        have hsl := slice_hm 88 Try.underlying88 size8 Af f.al.length cf f.kp (by omega)
        have hsm := slice_l 88 Try.underlying88 size8 Af f.al.length cf f.kp (by omega)
        obtain ⟨W, hW⟩ : ∃ W, W = wp.drew := ⟨_, rfl⟩
        have HTW := Lib.hid (show Touch (fun _ => False) wr W from HTp.out.trans (show Touch (fun _ => False) wp W from hW ▸ (Touch.refl _ _).drew) (fun _ _ e => e))
        have hpW : Blk W wr.heap.size 149 #[.slice Af f.al.length cf, .int .i64 (f.kp : Int)] := (show Touch (fun _ => False) wp W from hW ▸ (Touch.refl _ _).drew).blk HBp.out (fun e => e)
        have x0 := hpW.cell 0
        have x1 := hpW.cell 1
        simp at x0 x1
        have hpl := hpW.lt
        have hpt : ¬ wr.heap.size = w.heap.size := by omega
        have HPW := Lib.hid hpW
        clear hpW
        go_wp2_with fail
        rw [← HWp.out]
        refine wp_region_plan [(0, 12), (1, 0), (1, 1), (1, 2), (1, 3), (1, 4), (1, 5), (1, 6), (1, 7), (1, 8), (1, 9), (1, 10), (1, 11), (2, 13), (2, 14), (2, 15), (0, 16), (3, 17)] (fun q => q = w.heap.size) (by kernel_rfl) (by kernel_rfl) (fun c a d v w h => by cases d <;> exact h) ?_
        rw [← hW]
        clear hW
        iterate 1
          refine plan_s1 rfl (by rfl) (fun Kc hKc => ?_)
          go_simp
          first
            | (refine hKc _ ?_)
          clear hKc Kc
        iterate 12
          apply plan_h
          · rfl
          · rfl
          · intro wh hT
            have hf0 := (hT.cell (p := ⟨wr.heap.size, 0, none⟩) hpl hpt).trans x0
            have hf1 := (hT.cell (p := ⟨wr.heap.size, 1, none⟩) hpl hpt).trans x1
            go_simp
            try rfl
          go_frame
        refine plan_a1 rfl (by rfl) (fun Kc hKc => ?_)
        go_simp
        refine (dnext_any tsi (by exact HTW.out.blk HBx.out (fun e => e)) (by exact HTr.out.touch HTW.out (fun _ _ e => e)) (fun e => by have := (HG.out _ e).1; omega) hc1).mono ?_
        rintro e w3 ⟨rfl, ⟨A3, c3, hb3, hr3, hc3⟩, t3⟩
        obtain ⟨t, htd⟩ : ∃ t, t = tsi.headD ⟨0, 0⟩ := ⟨_, rfl⟩
        rw [← htd]
        refine hKc _ _ ⟨t3, ?_⟩
        clear hKc Kc
        have htk : t.keep < 65536 ∧ t.turn < 4294967296 := htd ▸ headD_ok HOr.out
        have HB3 := Lib.hid hb3
        have HR3 := Lib.hid hr3
        have HT3 := Lib.hid t3
        have hs3 := t3.size
        have hsW := HTW.out.size
        have HTd := Lib.hid htd
        clear hb3 hr3 t3 htd x0 x1
        have HBf3 := Lib.hid ((HBr.out.touch HTW.out (fun _ _ e => e)).touch HT3.out (fun q hq e => by rcases HFr.out q hq with h | h; have := HFl.out q h; omega; omega))
        have HTo := dtorn_any Fr (baseA Af f.kp cf) (cf - f.kp) (f.al.drop f.kp) t htk.1 htk.2 w3 (by have := HBf3.out.1.lm (k := f.kp) (c := cf) (by omega) (by omega); rw [List.length_drop, List.map_drop]; exact this) (by simp; omega) (by simp; omega)
        unfold TornP at HTo
        obtain ⟨L, hL⟩ : ∃ L, L = tornF (f.al.drop f.kp) t := ⟨_, rfl⟩
        rw [← hL, List.length_drop] at HTo
        have HLt := Lib.hid hL
        have hLl : L.length ≤ f.al.length - f.kp := by have := tornF_len (f.al.drop f.kp) t; rw [← hL] at this; simpa using this
        have HTo := Lib.hid HTo
        clear hL
        refine plan_a1 rfl (by rfl) (fun Kc hKc => ?_)
        go_simp
        refine (HTo.out).mono ?_
        rintro e w4 ⟨A4, c4, rfl, hr4, t4⟩
        refine hKc _ _ ⟨t4.mono (fun _ _ e => e.elim), ?_⟩
        clear hKc Kc
        have HR4 := Lib.hid hr4
        have HT4 := Lib.hid t4
        have hs4 := t4.size
        clear hr4 t4
        have HBf4 := Lib.hid (HBf3.out.touch HT4.out (fun _ _ e => e))
        obtain ⟨i0, hi', hi0, hi1, hi2⟩ := infoB8
        have HRk := Lib.hid (show Rd w4 Fr (baseA Af 0 f.kp) f.kp ((f.al.take f.kp).map B8) from by rw [List.map_take]; exact HBf4.out.1.hm (by omega))
        refine plan_a1 rfl (by rfl) (fun Kc hKc => ?_)
        refine wp_full_append _ _ 88 88 rfl 5 i0 (.int .u8 0) 1 Try.underlying88 hi' hi0 hi1 hi2 rfl (baseA Af 0 f.kp) f.kp ((f.al.take f.kp).map B8) rfl Fr (by exact HRk.out) (.slice A4 L.length c4) L.length (L.map B8) rfl (Rd.src Try.underlying88 HR4.out.1 (fun u hu => by obtain ⟨y, -, rfl⟩ := List.mem_map.1 hu; rfl) c4) (by simp only [maxLen]; omega) (by omega) ?_
        intro A5 c5 w5 hr5 hle5 hcm5 t5
        refine hKc _ _ ⟨t5.mono (fun _ _ e => e.elim), ?_⟩
        clear hKc Kc
        have HR5 := Lib.hid hr5
        have HT5 := Lib.hid t5
        have hs5 := t5.size
        have HP5 := Lib.hid (t5.blk (HT4.out.blk (HT3.out.blk HPW.out (by omega)) (fun e => e)) (fun e => e))
        have y0 := HP5.out.cell 0
        have y1 := HP5.out.cell 1
        have z0 := HP5.out.frozen 0
        have z1 := HP5.out.frozen 1
        simp at y0 y1
        clear hr5 t5 hsl hsm
        iterate 1
          refine plan_s1 rfl (by rfl) (fun Kc hKc => ?_)
          go_simp
          first
            | (refine hKc _ ?_)
          clear hKc Kc
        refine plan_b1 rfl (by rfl) (fun Kc hKc => ?_)
        go_simp
        refine hKc _ _ ?_
        clear hKc Kc
        refine plan_done ?_
        go_wp2_with fail
        clear y0 y1 z0 z1
        obtain ⟨w6, hw6⟩ : ∃ w6, w6 = (w5.setCell ⟨wr.heap.size, 0, none⟩ (.slice A5 (f.kp + L.length) c5)).setCell ⟨wr.heap.size, 1, none⟩ (.int .i64 ((f.kp : Int) + (L.length : Int))) := ⟨_, rfl⟩
        rw [← hw6]
        have t6 : Touch (fun q => q = wr.heap.size) w5 w6 := hw6 ▸ ((Touch.refl (fun q => q = wr.heap.size) w5).set (b := wr.heap.size) (o := 0) (fun _ => rfl) _).set (b := wr.heap.size) (o := 1) (fun _ => rfl) _
        have hp6 : Blk w6 wr.heap.size 149 #[.slice A5 (f.kp + L.length) c5, .int .i64 ((f.kp : Int) + (L.length : Int))] := by
          have := (HP5.out.set_ 0 (.slice A5 (f.kp + L.length) c5)).set_ 1 (.int .i64 ((f.kp : Int) + (L.length : Int)))
          rw [hw6]
          simpa using this
        clear hw6
        obtain ⟨W7, hW7⟩ : ∃ W7, W7 = w6.drew := ⟨_, rfl⟩
        have tW7 : Touch (fun _ => False) w6 W7 := hW7 ▸ (Touch.refl _ _).drew
        have hp7 := tW7.blk hp6 (fun e => e)
        have x0 := hp7.cell 0
        have x1 := hp7.cell 1
        simp at x0 x1
        have hrW := (((HTW.out.mono (S' := fun q => q = w.heap.size) (fun _ _ e => e.elim)).trans HT3.out (fun _ _ e => e)).trans HT4.out (fun _ _ e => e.elim)).trans HT5.out (fun _ _ e => e.elim)
        have hr7 := ((hrW.mono (S' := fun q => q = w.heap.size ∨ q = wr.heap.size) (fun _ _ e => .inl e)).trans t6 (fun q _ e => .inr e)).trans tW7 (fun _ _ e => e.elim)
        have hd7 := HD.out.touch hr7 (by omega) (by omega) (by omega) (fun q hq e => by have := HD.out.fl q hq; rcases HFr.out q hq with h | h; have := HFl.out q h; omega; omega)
        have q0 := hd7.blk.cell 0
        simp [dkA] at q0
        have hr57 := t6.trans tW7 (fun _ _ e => e.elim)
        have hs6 := t6.size
        have hs7 := tW7.size
        have hbr : BtR W7 (fun q => Fr q ∨ (w4.heap.size ≤ q ∧ q < w5.heap.size)) A5 c5 (f.al.take f.kp ++ L) := by
          have hl : (f.al.take f.kp ++ L).length = f.kp + L.length := by simp; omega
          refine ⟨?_, by rw [hl]; exact hle5, hcm5⟩
          rw [hl, List.map_append]
          exact HR5.out.touch hr57 (fun q hq e => by rcases hq with hq | hq; have := HD.out.fl q hq; omega; omega)
        have hmp7 : FlM W7 b (done ++ f :: rest) Fr := hd7.mp
        have hl : (f.al.take f.kp ++ L).length = f.kp + L.length := by simp; omega
        obtain ⟨hput, hso7⟩ := mid_put (f' := ⟨f.nm, f.al.take f.kp ++ L, f.kp + L.length⟩) HSo.out rfl
        obtain ⟨w8, hrun, hm8, t8⟩ := hmp7.store HSo.out HIn.out ⟨f.nm, f.al.take f.kp ++ L, f.kp + L.length⟩ (HIn.out f (by simp)) (by rw [hput]; simpa using hln) A5 c5 (fun q => Fr q ∨ (w4.heap.size ≤ q ∧ q < w5.heap.size)) (fun q hq => .inl hq) (fun q hq e => by rcases hq with hq | hq; exact HD.out.nF.2.1 (e ▸ hq); omega) hbr
        rw [hput] at hm8
        have hFn : ∀ q, (Fr q ∨ (w4.heap.size ≤ q ∧ q < w5.heap.size)) → Fr q ∨ (w4.heap.size ≤ q ∧ q < w8.heap.size) := fun q hq => hq.imp id (fun h => ⟨h.1, by have := t8.size; omega⟩)
        have hto8 : totF (done ++ (⟨f.nm, f.al.take f.kp ++ L, f.kp + L.length⟩ : Fi) :: rest) ≤ 1048576 := by rw [totF_mid] at hto ⊢; simp only [hl]; omega
        have hno8 : ∀ x ∈ done ++ (⟨f.nm, f.al.take f.kp ++ L, f.kp + L.length⟩ : Fi) :: rest, 1 ≤ x.nm.length ∧ x.nm.length ≤ 16 ∧ x.kp ≤ x.al.length := fun x hx => by
          rcases List.mem_append.1 hx with h | h
          · exact HNo.out x (by simp [h])
          · rcases List.mem_cons.1 h with rfl | h
            · exact ⟨hfo.1, hfo.2.1, by show f.kp + L.length ≤ (f.al.take f.kp ++ L).length; rw [hl]; omega⟩
            · exact HNo.out x (by simp [h])
        have hlo : g < w4.heap.size ∧ b < w4.heap.size ∧ m < w4.heap.size := by have := HD.out.lt; omega
        have hd8 := hd7.remap hm8 t8 (lo := w4.heap.size) hlo hFn hso7 hno8 (by simpa using hln) hto8
        simp only at hd8
        unfold ctA at hrun
        simp only [hl, Int.natCast_add] at hrun
        have hs8 := t8.size
        have HD8 := Lib.hid hd8
        have HM8 := Lib.hid hm8
        have HSo8 := Lib.hid hso7
        have HP8 := Lib.hid (t8.blk hp7 (by omega))
        have HR78 := Lib.hid ((hr7.mono (S' := fun q => q = b ∨ q = w.heap.size ∨ q = wr.heap.size) (fun _ _ e => .inr e)).trans t8 (fun q _ e => .inl e))
        have HT78 := Lib.hid t8
        have HT38 := Lib.hid (((((HT4.out.trans HT5.out (fun _ _ e => e)).mono (S' := fun q => q = wr.heap.size ∨ q = b) (fun _ _ e => e.elim)).trans t6 (fun q _ e => .inl e)).trans tW7 (fun _ _ e => e.elim)).trans t8 (fun q _ e => .inr e))
        clear hm8 hd8 hso7 t8 hput hbr hmp7 hd7 hr7 hrW hr57 hp7 t6 tW7 hp6 hno8 hFn
        refine wp_region_plan [(0, 0), (0, 1), (0, 2), (0, 3), (0, 4), (0, 5), (2, 6)] (fun q => q = b) (by kernel_rfl) (by kernel_rfl) (fun c a d v w h => by cases d <;> exact h) ?_
        rw [← hW7]
        clear hW7
        iterate 6
          refine plan_s1 rfl (by rfl) (fun Kc hKc => ?_)
          go_simp
          first
            | (refine hKc _ ?_)
          clear hKc Kc
        refine plan_a1 rfl (by rfl) (fun Kc hKc => ?_)
        go_simp
        refine hKc _ _ ⟨HT78.out, ?_⟩
        clear hKc Kc
        refine plan_done ?_
        clear hrun q0 x0 x1
        have x0 := HP8.out.cell 0
        simp at x0
        have q0 := HD8.out.blk.cell 0
        simp [dkA] at q0
        have hcut : cutA f (tsi.headD ⟨0, 0⟩) = f.al.take f.kp ++ L := by unfold cutA; rw [← HTd.out, ← HLt.out]
        have HCut := Lib.hid hcut
        have hbn : Blk w8 w.heap.size 69 #[.slice A3 tsi.tail.length c3] := HT38.out.blk HB3.out (by omega)
        have hrn : TrR w8 G A3 tsi.tail.length tsi.tail := HR3.out.touch HT38.out (fun q hq e => by have := HG.out q hq; rcases e with e | e; omega; exact this.2.2.1 e)
        have HBn := Lib.hid hbn
        have HRn8 := Lib.hid hrn
        have HTz := Lib.hid (HT.out.trans HR78.out (S := fun q => q = g ∨ q = b ∨ q = w.heap.size) (fun q hq e => by rcases e with e | e | e; exact .inr (.inl e); exact .inr (.inr e); omega))
        clear hcut hbn hrn
        by_cases ha : f.kp + L.length = 0
        · have hze : (f.kp : Int) + (L.length : Int) = 0 := by omega
          have HV := Lib.hid (show crashF D.fs ts = done ++ crashF rest tsi.tail by rw [HCr.out, crash_torn hk, HCut.out, if_neg (by rw [hl]; omega)]; rfl)
          go_wp2_with (first
            | (at_delete; refine HM8.out.drop HSo8.out (fun q hq e => by rcases hq with hq | hq; exact HD.out.nF.2.1 (e ▸ hq); omega) f.nm (HIn.out f (by simp)) rfl _ _ rfl rfl rfl ?_; intro w9 hm9 t9
               rw [mid_out (f := ⟨f.nm, f.al.take f.kp ++ L, f.kp + L.length⟩) HSo8.out] at hm9
               have hd9 := HD8.out.remap hm9 t9 (lo := w4.heap.size) (by have := HD.out.lt; omega) (fun q hq => .inl hq) (mid_sub HSo8.out) (fun x hx => HNo.out x (mem_mid hx)) (by simp at hln ⊢; omega) (by rw [totF_mid] at hto; rw [totF_app]; omega)
               have HD9 := Lib.hid hd9
               have HT9 := Lib.hid t9
               have hs9 := t9.size
               clear hm9 hd9 t9; go_frame))
          go_roundw
          case rel =>
            refine ⟨i + 1, by omega, by simp, done, tsi.tail, _, by rw [← hrest]; exact HD9.out, ⟨A3, c3, HT9.out.blk HBn.out (by omega), HRn8.out.touch HT9.out (fun q hq e => (HG.out q hq).2.2.1 e), hc3⟩, by rw [HV.out, ← hrest], HTz.out.trans HT9.out (fun q _ e => .inr (.inl e)), fun q hq => ?_, fun x hx => HOr.out x (List.mem_of_mem_tail hx)⟩
            rcases hq with hq | hq
            · rcases HFr.out q hq with h | h
              · exact .inl h
              · exact .inr (by omega)
            · exact .inr (by omega)
          case measure => simp [intOf]; omega
        · have hze : ¬ (f.kp : Int) + (L.length : Int) = 0 := by omega
          have hzb : ((f.kp : Int) + (L.length : Int) == 0) = false := by simp only [beq_eq_false_iff_ne]; exact hze
          have HV := Lib.hid (show crashF D.fs ts = (done ++ [(⟨f.nm, f.al.take f.kp ++ L, f.kp + L.length⟩ : Fi)]) ++ crashF rest tsi.tail by rw [HCr.out, crash_torn hk, HCut.out, if_pos (by rw [hl]; omega), hl]; simp)
          go_wp2
          go_roundw
          case rel =>
            refine ⟨i + 1, by omega, by simp, done ++ [⟨f.nm, f.al.take f.kp ++ L, f.kp + L.length⟩], tsi.tail, _, by rw [← hrest, List.append_assoc]; exact HD8.out, ⟨A3, c3, HBn.out, HRn8.out, hc3⟩, by rw [HV.out, ← hrest], HTz.out, fun q hq => ?_, fun x hx => HOr.out x (List.mem_of_mem_tail hx)⟩
            rcases hq with hq | hq
            · rcases HFr.out q hq with h | h
              · exact .inl h
              · exact .inr (by omega)
            · exact .inr (by omega)
          case measure => simp [intOf]; omega
      · have hki : ¬ (f.kp : Int) < (f.al.length : Int) := by omega
        have hke : ((f.al.length : Int) > (f.kp : Int)) = False := by simp; omega
        have x0 := HBp.out.cell 0
        simp at x0
        have HTz := Lib.hid (HT.out.trans HTp.out (fun _ _ e => e.elim))
        have hd8 := HD.out.far HTp.out
        have HD8 := Lib.hid hd8
        have hm8 : FlM wp b (done ++ f :: rest) Fr := hd8.mp
        have HM8 := Lib.hid hm8
        have q8 := hd8.blk.cell 0
        simp [dkA] at q8
        have HBn := Lib.hid (HTp.out.blk HBx.out (fun e => e))
        have HRn8 := Lib.hid (HTr.out.touch HTp.out (fun _ _ e => e))
        clear hd8 hm8
        by_cases ha : f.al.length = 0
        · have hze : (f.al.length : Int) = 0 := by omega
          have HV := Lib.hid (show crashF D.fs ts = done ++ crashF rest tsi by rw [HCr.out, crash_whole hk, if_neg (by omega)]; rfl)
          clear ha
          go_wp2_with (first
            | (at_delete; rw [← HWp.out]; refine HM8.out.drop HSo.out (fun q hq e => HD.out.nF.2.1 (e ▸ hq)) f.nm (HIn.out f (by simp)) rfl _ _ rfl rfl rfl ?_; intro w9 hm9 t9
               rw [mid_out HSo.out] at hm9
               have hd9 := HD8.out.remap hm9 t9 (lo := w.heap.size) hlt (fun q hq => .inl hq) (mid_sub HSo.out) (fun x hx => HNo.out x (mem_mid hx)) (by simp at hln ⊢; omega) (by rw [totF_mid] at hto; rw [totF_app]; omega)
               have HD9 := Lib.hid hd9
               have HT9 := Lib.hid t9
               have hs9 := t9.size
               clear hm9 hd9 t9; go_frame))
          go_roundw
          case rel =>
            refine ⟨i + 1, by omega, by simp, done, tsi, Fr, by rw [← hrest]; exact HD9.out, ⟨A1, c1, HT9.out.blk HBn.out (by omega), HRn8.out.touch HT9.out (fun q hq e => (HG.out q hq).2.2.1 e), hc1⟩, by rw [HV.out, ← hrest], HTz.out.trans HT9.out (fun q _ e => .inr (.inl e)), fun q hq => (HFr.out q hq).imp id (fun h => ⟨h.1, by omega⟩), HOr.out⟩
          case measure => simp [intOf]; omega
        · have hze : ¬ (f.al.length : Int) = 0 := by omega
          have HV := Lib.hid (show crashF D.fs ts = (done ++ [f]) ++ crashF rest tsi by rw [HCr.out, crash_whole hk, if_pos (by omega)]; simp)
          go_wp2
          go_roundw
          case rel =>
            rw [← HWp.out]
            refine ⟨i + 1, by omega, by simp, done ++ [f], tsi, Fr, by rw [← hrest, List.append_assoc]; exact HD8.out, ⟨A1, c1, HBn.out, HRn8.out, hc1⟩, by rw [HV.out, ← hrest], HTz.out, fun q hq => (HFr.out q hq).imp id (fun h => ⟨h.1, by omega⟩), HOr.out⟩
          case measure => simp [intOf]; omega
    · obtain rfl : i = D.fs.length := by omega
      rw [List.drop_length] at hd hcr
      rw [List.append_nil] at hd
      rw [show crashF [] tsi = [] from rfl, List.append_nil] at hcr
      rw [← hcr] at hd
      have HD := Lib.hid hd
      have HT := Lib.hid hT
      have HFr := Lib.hid hFr
      clear hd hbx htr hcr hT hFr hokr
      go_wp2
      go_ret
      refine ⟨rfl, Fr, HD.out, fun q hq => ?_, ?_⟩
      · rcases HFr.out q hq with h | h
        · exact .inl h
        · exact .inr (by omega)
      · exact ((HTa.out.mono (S' := fun q => q = g ∨ q = b ∨ q = m) (fun _ _ e => .inl e)).trans HT2.out (fun _ _ e => e.elim)).trans HT.out (fun q hq e => by rcases e with e | e | e; exact .inl e; exact .inr (.inl e); omega)
end Go.Proofs.Ytpgakkpmpnebnaa
