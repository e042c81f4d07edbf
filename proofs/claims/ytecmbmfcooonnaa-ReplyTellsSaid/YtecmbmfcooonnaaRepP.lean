/- The walk of ReplyReads. -/
import Derived.Test.YtecmbmfcooonnaaRepL
import Derived.Test.YtecmbmfcooonnaaRepN
namespace Go.Proofs.Ytecmbmfcooonnaa
open Go.RowKit
set_option maxHeartbeats 4000000
set_option maxRecDepth 100000
set_option linter.unusedVariables false

def RdOut (code : Nat) (time : Int) (t : TkN) (fired : List Nat) (notice dead : Nat) (ok bd : Bool) (l' : List UInt8) (w : World) (g : Nat) (F : Nat → Prop) (e : Ending) (w' : World) : Prop :=
  ∃ A c, e = .returned (.tuple #[.agg #[.int .i64 code, .int .i64 time, .int .u64 t.id, .int .i64 t.contract, .int .i64 t.state, .int .i64 t.level, .int .u64 t.gen, .int .i64 t.from_, .int .i64 t.left, .int .i64 t.due, .int .i64 t.told, .slice A fired.length c, .int .u64 notice, .int .i64 dead], .bool ok]) ∧ Rd w' (fun k => w.heap.size ≤ k ∧ k < w'.heap.size) A fired.length (fired.map U64) ∧ RdAt w' g F l' bd ∧ Touch (fun k => k = g) w w'
theorem RdOut.of {l l' : List UInt8} {b bd ok : Bool} {code : Nat} {time : Int} {t : TkN} {fired : List Nat} {notice dead : Nat} (hR : rpRes (rdRep (b, l)) = (⟨code, time, t, fired, notice, dead⟩, bd, l')) (hok : rpGood (rdRep (b, l)) = ok)
    (g : Nat) (F : Nat → Prop) (w : World) (h : RdAt w g F l b) (hg : g < w.heap.size) (hF : ∀ k, F k → k < w.heap.size) :
    Calls Try.prog 45 #[.pointer (some ⟨g, 0, none⟩)] w (RdOut code time t fired notice dead ok bd l' w g F) := by
  refine (rrread_any g F b l w h hg hF).mono fun e w' ⟨⟨v, he, hu⟩, hr, ht⟩ => ?_
  rw [hR] at he hu hr
  rw [hok] at he
  obtain ⟨q, ho, hq⟩ := hu
  obtain ⟨A, c, hv, -, -, -, hrd⟩ := ho.rd
  subst hv
  exact ⟨A, c, he, hrd.inside.mono (fun k hk => ⟨hq k hk.1, hk.2⟩), hr, ht⟩

def RfOut (code : Nat) (time : Int) (t : TkN) (fired : List Nat) (notice dead : Nat) (ok bd : Bool) (l' : List UInt8) (w : World) (g : Nat) (F : Nat → Prop) (e : Ending) (w' : World) : Prop :=
  ∃ A c, e = .returned (.tuple #[.agg #[.int .i64 code, .int .i64 time, .int .u64 t.id, .int .i64 t.contract, .int .i64 t.state, .int .i64 t.level, .int .u64 t.gen, .int .i64 t.from_, .int .i64 t.left, .int .i64 t.due, .int .i64 t.told, .slice A fired.length c, .int .u64 notice, .int .i64 dead], .bool ok]) ∧ Rd w' (fun k => w.heap.size ≤ k ∧ k < w'.heap.size) A fired.length (fired.map U64) ∧ RfAt w' g F l' bd ∧ Touch (fun k => k = g) w w'
theorem RfOut.of {l l' : List UInt8} {b bd ok : Bool} {code : Nat} {time : Int} {t : TkN} {fired : List Nat} {notice dead : Nat} (hR : rpRes (rdRep (b, l)) = (⟨code, time, t, fired, notice, dead⟩, bd, l')) (hok : rpGood (rdRep (b, l)) = ok)
    (g : Nat) (F : Nat → Prop) (w : World) (h : RfAt w g F l b) (hg : g < w.heap.size) (hF : ∀ k, F k → k < w.heap.size) :
    Calls Try.prog 50 #[.pointer (some ⟨g, 0, none⟩)] w (RfOut code time t fired notice dead ok bd l' w g F) := by
  refine (rrreadR_any g F b l w h hg hF).mono fun e w' ⟨⟨v, he, hu⟩, hr, ht⟩ => ?_
  rw [hR] at he hu hr
  rw [hok] at he
  obtain ⟨q, ho, hq⟩ := hu
  obtain ⟨A, c, hv, -, -, -, hrd⟩ := ho.rd
  subst hv
  exact ⟨A, c, he, hrd.inside.mono (fun k hk => ⟨hq k hk.1, hk.2⟩), hr, ht⟩

theorem left_st (g : Nat) (F : Nat → Prop) (l : List UInt8) (bad : Bool) (w : World) (h : RdAt w g F l bad) :
    Calls Try.prog 49 #[.pointer (some ⟨g, 0, none⟩)] w fun e w' => e = .returned (.int .i64 l.length) ∧ w = w' := by
  obtain ⟨_, A, cap, _, _, hb, _⟩ := h
  exact left_any g A l.length cap bad w hb
theorem bad_st (g : Nat) (F : Nat → Prop) (l : List UInt8) (bad : Bool) (w : World) (h : RdAt w g F l bad) :
    Calls Try.prog 51 #[.pointer (some ⟨g, 0, none⟩)] w fun e w' => e = .returned (.bool bad) ∧ w = w' := by
  obtain ⟨_, A, cap, _, _, hb, _⟩ := h
  exact bad_any g A l.length cap bad w hb
/-- What a reply that is read can be. -/
theorem read_what (l : List UInt8) : ∃ (code : Nat) (time : Int) (t : TkN) (fired : List Nat) (notice dead : Nat) (bd : Bool) (l' : List UInt8) (ok : Bool), rpRes (rdRep (false, l)) = (⟨code, time, t, fired, notice, dead⟩, bd, l') ∧ rpGood (rdRep (false, l)) = ok ∧ fired.length ≤ 64 ∧ l'.length ≤ l.length ∧
    (ok = true → bd = false ∧ ∃ tm : Nat, time = tm ∧ (RepN.mk code tm t fired notice dead).Ok tm ∧ l = encR code tm t fired notice dead ++ l') := by
  obtain ⟨r, hr⟩ : ∃ r, r = rdRep (false, l) := ⟨_, rfl⟩
  cases hok : rpGood r
  · refine ⟨0, 0, tkZero, [], 0, 0, true, [], false, ?_, by rw [← hr]; exact hok, by simp, by simp, fun h => by cases h⟩
    rw [← hr, rpRes, hok]; rfl
  · have hg := hok
    rw [hr] at hg
    obtain ⟨h1, h2⟩ := rpGood_ok hg
    rw [← hr] at h1 h2
    obtain ⟨⟨code, time, t, fired, notice, dead⟩, bd, l'⟩ := r
    simp only at h1 h2
    subst h1
    have ht := h2.time
    simp only at ht
    have hsp := rdRep_split hr.symm (by simp only; rw [ht]; omega)
    have h2' := h2
    rw [RepN.bytes] at hsp
    simp only at hsp
    refine ⟨code, time, t, fired, notice, dead, false, l', true, by rw [← hr, rpRes, if_pos hok], by rw [← hr]; exact hok, h2.fl, by rw [hsp]; simp, fun _ => ⟨rfl, time.toNat, ht, ?_, hsp⟩⟩
    rw [← ht]; exact h2
theorem walk_ReplyReads {w : World} (A0 : Option Addr) (n0 c0 : Nat) (l0 : List UInt8) (e0 : l0.length = n0) (g0 : A0 = none → c0 = 0) (u0 : n0 ≤ c0) (m0 : c0 ≤ maxLen) (s0 : Rd w (fun k => k < w.heap.size) A0 n0 (l0.map B8)) :
    Calls Try.prog 8 #[.slice A0 n0 c0] w fun e w' => e = .returned (.bool true) ∧ Below w.heap.size w w' := by
  subst e0
  by_cases hbig : 3000 < l0.length
  · have hbig' : (3000 : Int) < l0.length := by omega
    clear s0
    go_enter Try.func8, Try.ntmps8
    go_wp2_with (go_at_call 40; go_must (refine (lives19_any _).mono ?_); rintro e w1 ⟨rfl, t1⟩; have HT := Lib.hid t1; clear t1)
    go_ret
    exact ⟨rfl, HT.out.below⟩
  have hbig' : ¬ (3000 : Int) < l0.length := by omega
  clear hbig
  obtain ⟨code, time, t, fired, notice, dead, bd, l', ok, hR, hok, hfl, hll, hgood⟩ := read_what l0
  have HRD := Lib.hid (fun g F w h hg hF => RdOut.of hR hok g F w h hg hF)
  have HRF := Lib.hid (fun g F w h hg hF => RfOut.of hR hok g F w h hg hF)
  have HG := Lib.hid hgood
  have HS0 := Lib.hid s0
  clear hR hok hgood s0
  obtain ⟨wa, hwa⟩ : ∃ wa, wa = (w.alloc (.cells #[.slice A0 l0.length c0, .bool false] 129)).alloc (.cells #[.slice A0 l0.length c0, .bool false] 69) := ⟨_, rfl⟩
  have HTa := Lib.hid (show Touch (fun _ => False) w wa from hwa ▸ ((Touch.refl _ w).alloc _).alloc _)
  have hza : wa.heap.size = w.heap.size + 2 := by rw [hwa]; simp
  have HD := Lib.hid (show RdAt wa w.heap.size (fun k => k < w.heap.size) l0 false from ⟨by omega, A0, c0, u0, m0, hwa ▸ (Blk.new w 129 #[.slice A0 l0.length c0, .bool false]).alloc _, HS0.out.touch HTa.out (fun _ _ e => e)⟩)
  have HE := Lib.hid (show RfAt wa (w.heap.size + 1) (fun k => k < w.heap.size) l0 false from ⟨by omega, A0, c0, u0, m0, hwa ▸ (by simpa using Blk.new (w.alloc (.cells #[.slice A0 l0.length c0, .bool false] 129)) 69 #[.slice A0 l0.length c0, .bool false]), HS0.out.touch HTa.out (fun _ _ e => e)⟩)
  have HWA := Lib.hid hwa
  have hza' : w.heap.size + 2 ≤ wa.heap.size := by omega
  clear hwa hza
  go_enter Try.func8, Try.ntmps8
  go_wp2_with (go_at_call 44; go_must (refine (open_any _ _ _ _).mono ?_); rintro e w1 ⟨rfl, rfl⟩)
  rw [← HWA.out]
  refine (HRD.out w.heap.size (fun k => k < w.heap.size) wa (by exact HD.out) (by omega) (by intro k hk; omega)).mono ?_
  rintro e wb ⟨Ab, cb, rfl, hrb, hdb, tb⟩
  have HEb := Lib.hid (rfAt_touch HE.out tb (by omega) (by intro k hk e; omega))
  have HDb := Lib.hid hdb
  have HRb := Lib.hid hrb
  have hzb : w.heap.size + 2 ≤ wb.heap.size := by have := tb.size; omega
  have HTb := Lib.hid (show Touch (fun _ => False) w wb from (HTa.out.trans (S := fun _ => False) (tb.mono (S' := fun k => w.heap.size ≤ k) (by intro k hk e; omega)) (by intro k hk e; omega)))
  have hzab := tb.size
  clear hrb hdb tb
  go_wp2_with fail
  have HAl := Lib.hid ((Touch.refl (fun _ => False) wb).alloc (.cells #[.int .i64 code, .int .i64 time, .int .u64 t.id, .int .i64 t.contract, .int .i64 t.state, .int .i64 t.level, .int .u64 t.gen, .int .i64 t.from_, .int .i64 t.left, .int .i64 t.due, .int .i64 t.told, .slice Ab fired.length cb, .int .u64 notice, .int .i64 dead] 51))
  refine (HRF.out (w.heap.size + 1) (fun k => k < w.heap.size) _ (by exact rfAt_touch HEb.out HAl.out (fun e => e) (fun _ _ e => e)) (by simp; omega) (by intro k hk; simp; omega)).mono ?_
  rintro e wc ⟨Ac, cc, rfl, hrc, hec, tc⟩
  have hzc : wb.heap.size + 1 ≤ wc.heap.size := by have := tc.size; simpa using this
  have HBb := Lib.hid (tc.blk (Blk.new wb 51 #[.int .i64 code, .int .i64 time, .int .u64 t.id, .int .i64 t.contract, .int .i64 t.state, .int .i64 t.level, .int .u64 t.gen, .int .i64 t.from_, .int .i64 t.left, .int .i64 t.due, .int .i64 t.told, .slice Ab fired.length cb, .int .u64 notice, .int .i64 dead]) (by omega))
  have HDc := Lib.hid (rdAt_touch (rdAt_touch HDb.out HAl.out (fun e => e) (fun _ _ e => e)) tc (by omega) (by intro k hk e; omega))
  have HRb := Lib.hid ((HRb.out.touch HAl.out (fun _ _ e => e)).touch tc (by intro k hk e; omega))
  have HTc := Lib.hid (show Touch (fun _ => False) w wc from (HTb.out.trans HAl.out (fun _ _ e => e)).trans (S := fun _ => False) (tc.mono (S' := fun k => w.heap.size ≤ k) (by intro k hk e; omega)) (by intro k hk e; omega))
  have HRc := Lib.hid hrc
  have HEc := Lib.hid hec
  clear hrc hec tc HAl HDb HEb HTb
  obtain ⟨wd, hwd⟩ : ∃ wd, wd = wc.alloc (.cells #[.int .i64 code, .int .i64 time, .int .u64 t.id, .int .i64 t.contract, .int .i64 t.state, .int .i64 t.level, .int .u64 t.gen, .int .i64 t.from_, .int .i64 t.left, .int .i64 t.due, .int .i64 t.told, .slice Ac fired.length cc, .int .u64 notice, .int .i64 dead] 51) := ⟨_, rfl⟩
  have HAl := Lib.hid (show Touch (fun _ => False) wc wd from hwd ▸ ((Touch.refl (fun _ => False) wc).alloc (.cells #[.int .i64 code, .int .i64 time, .int .u64 t.id, .int .i64 t.contract, .int .i64 t.state, .int .i64 t.level, .int .u64 t.gen, .int .i64 t.from_, .int .i64 t.left, .int .i64 t.due, .int .i64 t.told, .slice Ac fired.length cc, .int .u64 notice, .int .i64 dead] 51)))
  have HBc := Lib.hid (show Blk wd wc.heap.size 51 #[.int .i64 code, .int .i64 time, .int .u64 t.id, .int .i64 t.contract, .int .i64 t.state, .int .i64 t.level, .int .u64 t.gen, .int .i64 t.from_, .int .i64 t.left, .int .i64 t.due, .int .i64 t.told, .slice Ac fired.length cc, .int .u64 notice, .int .i64 dead] from hwd ▸ Blk.new wc 51 _)
  have HWD := Lib.hid hwd
  clear hwd
  go_wp2_with fail
  rw [← HWD.out]
  clear HWD
  have HBb := Lib.hid (HAl.out.blk HBb.out (fun e => e))
  have HDd := Lib.hid (rdAt_touch HDc.out HAl.out (fun e => e) (fun _ _ e => e))
  have HEd := Lib.hid (rfAt_touch HEc.out HAl.out (fun e => e) (fun _ _ e => e))
  have HRb := Lib.hid (HRb.out.touch HAl.out (fun _ _ e => e))
  have HRc := Lib.hid (HRc.out.touch HAl.out (fun _ _ e => e))
  have HTd := Lib.hid (HTc.out.trans HAl.out (fun _ _ e => e))
  have q0 := HBb.out.cell 0; have q1 := HBb.out.cell 1; have q2 := HBb.out.cell 2; have q3 := HBb.out.cell 3; have q4 := HBb.out.cell 4; have q5 := HBb.out.cell 5; have q6 := HBb.out.cell 6; have q7 := HBb.out.cell 7; have q8 := HBb.out.cell 8; have q9 := HBb.out.cell 9; have q10 := HBb.out.cell 10; have q11 := HBb.out.cell 11; have q12 := HBb.out.cell 12; have q13 := HBb.out.cell 13; simp at q0 q1 q2 q3 q4 q5 q6 q7 q8 q9 q10 q11 q12 q13
  have p0 := HBc.out.cell 0; have p1 := HBc.out.cell 1; have p2 := HBc.out.cell 2; have p3 := HBc.out.cell 3; have p4 := HBc.out.cell 4; have p5 := HBc.out.cell 5; have p6 := HBc.out.cell 6; have p7 := HBc.out.cell 7; have p8 := HBc.out.cell 8; have p9 := HBc.out.cell 9; have p10 := HBc.out.cell 10; have p11 := HBc.out.cell 11; have p12 := HBc.out.cell 12; have p13 := HBc.out.cell 13; simp at p0 p1 p2 p3 p4 p5 p6 p7 p8 p9 p10 p11 p12 p13
  refine wp_region_plan [(0, 0), (0, 1), (0, 2), (0, 3), (0, 4), (0, 5), (2, 6), (0, 7), (0, 8), (0, 9), (0, 10), (0, 11), (0, 12), (0, 13), (0, 14), (0, 15), (0, 16), (0, 17), (0, 18), (0, 19), (0, 20), (0, 21), (0, 22), (0, 23), (0, 24), (0, 25), (0, 26), (0, 27)] (fun _ => False) (by kernel_rfl) (by kernel_rfl) (fun c a d v w h => by cases d <;> exact h) ?_
  iterate 6
    first
      | (refine plan_s1 rfl (by rfl) (fun Kc hKc => ?_)
         go_simp
         first
           | (refine hKc _ ?_)
         clear hKc Kc)
      | (refine plan_s0 rfl (by rfl) ?_; go_frame)
  refine plan_a1 rfl (by rfl) (fun Kc hKc => ?_)
  go_simp
  refine (rsameR_any _ _ Ab Ac cb cc ⟨code, time, t.v, fired, notice, dead⟩ ⟨code, time, t.v, fired, notice, dead⟩ _ (by exact HRb.out.touch (Touch.refl (fun _ => False) wd).drew (fun _ _ e => e)) (by exact HRc.out.touch (Touch.refl (fun _ => False) wd).drew (fun _ _ e => e)) (by simp only; omega)).mono ?_
  rintro e wf ⟨rfl, tf⟩
  rw [rpSame_refl]
  refine hKc _ _ ⟨tf, ?_⟩
  clear hKc Kc
  have HTf := Lib.hid (HTd.out.drew.trans tf (fun _ _ e => e))
  have HTdf := Lib.hid ((Touch.refl (fun _ => False) wd).drew.trans tf (fun _ _ e => e))
  have HDf := Lib.hid (rdAt_touch HDd.out HTdf.out (fun e => e) (fun _ _ e => e))
  obtain ⟨_, Ae, ce, hle, hme, hbe, _⟩ := rfAt_touch HEd.out HTdf.out (fun e => e) (fun _ _ e => e)
  have y0 := hbe.cell 0; have y1 := hbe.cell 1
  simp at y0 y1
  clear tf hbe hle hme q0 p0 q1 p1 q2 p2 q3 p3 q4 p4 q5 p5 q6 p6 q7 p7 q8 p8 q9 p9 q10 p10 q11 p11 q12 p12 q13 p13
  iterate 21
    first
      | (refine plan_s1 rfl (by rfl) (fun Kc hKc => ?_)
         go_simp
         first
           | (refine hKc _ ?_)
           | (refine ⟨_, calls_flip (left_st w.heap.size (fun k => k < w.heap.size) l' bd _ (by exact HDf.out)), hKc _ ?_⟩)
           | (refine ⟨_, calls_flip (bad_st w.heap.size (fun k => k < w.heap.size) l' bd _ (by exact HDf.out)), hKc _ ?_⟩)
         clear hKc Kc)
      | (refine plan_s0 rfl (by rfl) ?_; go_frame)
  refine plan_done ?_
  cases ok
  · go_wp2_with (go_at_call 40; go_must (refine (lives19_any _).mono ?_); rintro e w1 ⟨rfl, t1⟩; have HT := Lib.hid (HTf.out.trans t1 (fun _ _ e => e)); clear t1)
    go_ret
    exact ⟨rfl, HT.out.below⟩
  · obtain ⟨rfl, tm, rfl, hOk, hl⟩ := HG.out rfl
    have HOk := Lib.hid hOk
    have HL := Lib.hid hl
    have HBf := Lib.hid (HTdf.out.blk HBb.out (fun e => e))
    have HRf := Lib.hid (HRb.out.touch HTdf.out (fun _ _ e => e))
    clear hOk hl
    have q0 := HBf.out.cell 0; have q1 := HBf.out.cell 1; have q2 := HBf.out.cell 2; have q3 := HBf.out.cell 3; have q4 := HBf.out.cell 4; have q5 := HBf.out.cell 5; have q6 := HBf.out.cell 6; have q7 := HBf.out.cell 7; have q8 := HBf.out.cell 8; have q9 := HBf.out.cell 9; have q10 := HBf.out.cell 10; have q11 := HBf.out.cell 11; have q12 := HBf.out.cell 12; have q13 := HBf.out.cell 13; simp at q0 q1 q2 q3 q4 q5 q6 q7 q8 q9 q10 q11 q12 q13
    go_wp2_with fail
    refine (rbytes_yes code tm t fired notice dead _ Ab cb _ HOk.out (by exact HRf.out) (by intro k hk; have := HTdf.out.size; have := HAl.out.size; omega)).mono ?_
    rintro e wg ⟨Ag, cg, rfl, ug1, ug2, hrg, tg⟩
    have hel : (encR code tm t fired notice dead).length + l'.length = l0.length := by rw [HL.out]; simp
    have HRg := Lib.hid hrg
    have HTg := Lib.hid (HTf.out.trans tg (fun _ _ e => e))
    have HDg := Lib.hid (rdAt_touch HDf.out tg (fun e => e) (fun _ _ e => e))
    have HTk := Lib.hid (show l0.take (encR code tm t fired notice dead).length = encR code tm t fired notice dead from by rw [HL.out]; simp)
    generalize encR code tm t fired notice dead = E at *
    clear hrg tg ug1 ug2 q0 q1 q2 q3 q4 q5 q6 q7 q8 q9 q10 q11 q12 q13
    go_wp2_with fail
    have hs1 := Rd.str (n := E.length) (by simpa using HRg.out.touch (Touch.refl (fun _ => False) wg).drew (fun _ _ e => e)) cg
    have hsub : (l0.length : Int) - l'.length = (E.length : Nat) := by omega
    have hs2 := Rd.str (n := E.length) (l := E) (w := wg.drew) (F := fun k => k < w.heap.size) (A := A0) (by have := (HS0.out.touch HTg.out (fun _ _ e => e)).take (k := E.length) (by omega); rw [← List.map_take, HTk.out] at this; exact this) c0
    have hec : (E.length : Int) ≤ c0 := by omega
    have hwr : IntKind.i64.wrap (E.length : Int) = E.length := IntWalk.i64_in _ (by omega)
    refine wp_region_plan [(0, 0), (0, 1), (0, 2), (0, 3), (0, 4), (0, 5), (0, 6), (0, 7), (0, 8), (0, 9), (0, 10), (0, 11), (0, 12), (0, 13), (0, 14), (0, 15), (2, 16), (0, 17), (0, 18)] (fun _ => False) (by kernel_rfl) (by kernel_rfl) (fun c a d v w h => by cases d <;> exact h) ?_
    iterate 16
      first
        | (refine plan_s1 rfl (by rfl) (fun Kc hKc => ?_)
           go_simp
           first
             | (refine hKc _ ?_)
             | (refine ⟨_, calls_flip (left_st w.heap.size (fun k => k < w.heap.size) l' false _ (by exact rdAt_touch HDg.out (Touch.refl (fun _ => False) wg).drew (fun e => e) (fun _ _ e => e))), hKc _ ?_⟩)
           clear hKc Kc)
        | (refine plan_s0 rfl (by rfl) ?_; go_frame)
    refine plan_a1 rfl (by rfl) (fun Kc hKc => ?_)
    go_simp
    refine (lives19_any _).mono ?_
    rintro e wh ⟨rfl, th⟩
    refine hKc _ _ ⟨th, ?_⟩
    clear hKc Kc
    have HTh := Lib.hid (HTg.out.drew.trans th (fun _ _ e => e))
    clear th
    iterate 2
      first
        | (refine plan_s1 rfl (by rfl) (fun Kc hKc => ?_)
           go_simp
           first
             | (refine hKc _ ?_)
           clear hKc Kc)
        | (refine plan_s0 rfl (by rfl) ?_; go_frame)
    refine plan_done ?_
    go_wp2
    go_ret
    exact ⟨rfl, HTh.out.below⟩
end Go.Proofs.Ytecmbmfcooonnaa
