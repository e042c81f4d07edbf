/- client.copied, Doing. -/
import Derived.Test.YtlcefchbfjfifaaVCdD
import Derived.Test.YtlcefchbfjfifaaVCdK
import Derived.Test.YtlcefchbfjfifaaVCalJ
namespace Go.Proofs.Ytlcefchbfjfifaa
open Go.RowKit Cal
set_option maxHeartbeats 4000000
set_option maxRecDepth 100000
set_option linter.unusedVariables false
attribute [local irreducible] wpPlan

section
variable {ops : Array Oper} {rest : List Oper} {o : Oper} {a : Act} {w : World} {Q : Exit → Act → World → Prop}
theorem Blk.lp {T t : TypeId} {n b k : Nat} {C L : Array Value} (hb : Blk w b T C) (R : RowT t n) (hL : L.size = n) (hE : C.extract k (k + n) = L) (x : Operand) (ho : o.op = .load t x) (hw : Region.wanted o (yielded ops a.tmps) = true) (hx : a.eval x = .pointer (some ⟨b, k, none⟩))
    (h : wpList Try.prog ops Q rest (a.put o.dst (.agg L)) w) : wpList Try.prog ops Q (o :: rest) a w := loadC R x ho hw b k hx L hL (hE ▸ hb.range k n) h
end
theorem CmR.nearN {w : World} {F : Nat → Prop} {c : Cm} {A B D : Option Addr} (h : CmR w F c A B D) : CmR w (fun q => F q ∧ q < w.heap.size) c A B D := ⟨⟨h.cal.wk.near, h.cal.cl.near⟩, h.tm.near⟩
theorem rdAns_inN (l : List UInt8) : (rdAns l).1.in64 ∧ (rdAns l).1.cal.wk.length ≤ 32 ∧ (rdAns l).1.cal.cl.length ≤ 32 ∧ (rdAns l).1.tm.lv.length ≤ 6 := by
  have hz : cmZ.in64 ∧ cmZ.cal.wk.length ≤ 32 ∧ cmZ.cal.cl.length ≤ 32 ∧ cmZ.tm.lv.length ≤ 6 := ⟨⟨⟨by decide, by decide⟩, ⟨by decide, by decide⟩, ⟨by decide, by decide⟩⟩, by decide, by decide, by decide⟩
  have hb : ∀ (kd cl rq : Nat) (s : Bool × List UInt8), rq < 256 ^ 8 → (rdBody kd cl rq s).1.in64 ∧ (rdBody kd cl rq s).1.cal.wk.length ≤ 32 ∧ (rdBody kd cl rq s).1.cal.cl.length ≤ 32 ∧ (rdBody kd cl rq s).1.tm.lv.length ≤ 6 := by
    intro kd cl rq s hrq
    have hi : (bif fid kd then rd3 18446744073709551615 s else (0, s)).1 < 256 ^ 8 := by
      cases fid (kd : Int)
      · show (0 : Nat) < 256 ^ 8; decide
      · have := rd3_le 18446744073709551615 s
        show (rd3 18446744073709551615 s).1 < 256 ^ 8; omega
    simp only [rdBody]
    generalize (bif fid kd then rd3 18446744073709551615 s else (0, s)) = i at *
    have z0 : -9223372036854775808 ≤ (0 : Int) ∧ (0 : Int) ≤ 9223372036854775807 := ⟨by decide, by decide⟩
    cases fcal (kd : Int)
    · cases ftm (kd : Int)
      · cases fcon (kd : Int)
        · cases fat (kd : Int)
          · exact ⟨⟨z0, z0, hrq, hi⟩, Nat.zero_le _, Nat.zero_le _, Nat.zero_le _⟩
          · exact ⟨⟨rdInt_in _ _, z0, hrq, hi⟩, Nat.zero_le _, Nat.zero_le _, Nat.zero_le _⟩
        · exact ⟨⟨z0, z0, hrq, hi⟩, Nat.zero_le _, Nat.zero_le _, Nat.zero_le _⟩
      · exact ⟨⟨z0, z0, hrq, hi⟩, Nat.zero_le _, Nat.zero_le _, conRes_in _⟩
    · have h := rdRes_in i.2.1 i.2.2
      refine ⟨⟨z0, ?_, hrq, hi⟩, h.1, h.2, Nat.zero_le _⟩
      show -9223372036854775808 ≤ (rdRes i.2.1 i.2.2).c.off ∧ (rdRes i.2.1 i.2.2).c.off ≤ 9223372036854775807
      rw [rdRes]
      cases rdOkC i.2.1 i.2.2
      · exact z0
      · exact rdInt_in _ _
  unfold rdAns
  split
  · exact hz
  · cases cmGood (rdCmd (false, l))
    · exact hz
    · refine hb _ _ _ _ ?_
      have := rd3_le 18446744073709551615 (rd3 8 (rd3 12 (false, l)).2).2
      omega
theorem cmFit_back {x : Cm} (h : cmFit x) : rdAns (encC x) = (x, 0) := rdAns_back h.1 h.2.2.2 h.2.1
theorem cmFit_in {x : Cm} (h : cmFit x) : x.cal.wk.length ≤ 32 ∧ x.cal.cl.length ≤ 32 ∧ x.tm.lv.length ≤ 6 := by
  have := (rdAns_inN (encC x)).2
  rw [cmFit_back h] at this
  exact this
def CopP (x : Cm) (w : World) (e : Ending) (w' : World) : Prop :=
  ∃ A B D k m n, e = .returned (.agg (cmA x A B D k m n)) ∧ CmR w' (fun q => w.heap.size ≤ q ∧ q < w'.heap.size) x A B D ∧ Touch (fun _ => False) w w'
theorem copied_any (F : Nat → Prop) (A B D : Option Addr) (k m n : Nat) (x : Cm) (hx : cmFit x) (w : World) (hr : CmR w F x A B D) (hF : ∀ q, F q → q < w.heap.size) :
    Calls Try.prog 24 #[.agg (cmA x A B D k m n)] w (CopP x w) := by
  obtain ⟨h1, h2, h3⟩ := cmFit_in hx
  obtain ⟨W, hW⟩ : ∃ W, W = (w.alloc (.cells (cmA x A B D k m n) 35)).alloc (.cells cmZA 35) := ⟨_, rfl⟩
  have HW := Lib.hid (show W = (w.alloc (.cells (cmA x A B D k m n) 35)).alloc (.cells #[.int .i64 0, .int .u64 0, .int .u64 0, .int .u64 0, .int .i64 0, .int .i64 0, .int .i64 0, .slice none 0 0, .slice none 0 0, .int .i64 0, .slice none 0 0, .int .i64 0, .int .i64 0] 35) from hW)
  have HT0 := Lib.hid (show Touch (fun _ => False) w W from hW ▸ ((Touch.refl _ w).alloc _).alloc _)
  have HB1 := Lib.hid (show Blk W w.heap.size 35 (cmA x A B D k m n) from hW ▸ (Blk.new w _ _).alloc _)
  have HB2 := Lib.hid (show Blk W (w.heap.size + 1) 35 cmZA from hW ▸ (by simpa using Blk.new (w.alloc (.cells (cmA x A B D k m n) 35)) 35 cmZA))
  have hz : W.heap.size = w.heap.size + 2 := by rw [hW]; simp
  have HBy := Lib.hid (cmbytes_any F A B D k m n x W (hr.touch HT0.out (fun _ _ e => e)) (fun q hq => by have := hF q hq; omega) (by omega) (by omega) (by omega) hx.2.1 hx.2.2.1 hx.2.2.2)
  have HRb := Lib.hid (cmFit_back hx)
  have HSd := Lib.hid (show bytesC x = encC x ∧ bytesCE x = 0 by rw [bytesC, bytesCE, hx.1]; exact ⟨rfl, rfl⟩)
  unfold CbPost at HBy
  rw [HSd.out.1, HSd.out.2] at HBy
  have HCn := Lib.hid (cmA_size x A B D k m n)
  rw [show (#[.int .i64 x.kind, .int .u64 x.client, .int .u64 x.req, .int .u64 x.id, .int .i64 x.con, .int .i64 x.at_, .int .i64 x.cal.off, .slice A x.cal.wk.length k, .slice B x.cal.cl.length m, .int .i64 x.tm.cal, .slice D x.tm.lv.length n, .int .i64 x.tm.rt, .int .i64 x.tm.bk] : Array Value) = cmA x A B D k m n from rfl] at HBy
  obtain ⟨C, hC⟩ : ∃ C, C = cmA x A B D k m n := ⟨_, rfl⟩
  rw [← hC] at HBy HCn HB1 hW ⊢
  rw [← hC] at HW
  have HL := Lib.hid (encC_len hx.1)
  obtain ⟨L, hL⟩ : ∃ L, L = encC x := ⟨_, rfl⟩
  rw [← hL] at HBy HRb HL
  have hLl := HL.out
  have HB1l := Lib.hid (show Blk ((w.alloc (.cells C 35)).alloc (.cells #[.int .i64 0, .int .u64 0, .int .u64 0, .int .u64 0, .int .i64 0, .int .i64 0, .int .i64 0, .slice none 0 0, .slice none 0 0, .int .i64 0, .slice none 0 0, .int .i64 0, .int .i64 0] 35)) w.heap.size 35 C from HW.out ▸ HB1.out)
  clear hr hW hC hL h1 h2 h3 HSd
  go_enter Try.func24, Try.ntmps24
  go_wp2_with (first
    | ((with_reducible apply HB1l.out.ld rowCm HCn.out); exact rfl; exact rfl; exact rfl)
    | (go_at_call 23; rw [← HW.out]
       go_must (refine HBy.out.mono ?_)
       rintro e w1 ⟨E, cap, rfl, hrd, hc1, hc2, t1⟩
       have HT1 := Lib.hid (HT0.out.trans t1 (fun _ _ e => e))
       have HB11 := Lib.hid (t1.blk HB1.out (fun e => e))
       have HB21 := Lib.hid (t1.blk HB2.out (fun e => e))
       have HRd := Lib.hid (cmread_any (fun k => W.heap.size ≤ k ∧ k < w1.heap.size) E cap L w1 ⟨hrd.1, fun hn => by obtain ⟨g, o, h1, h2, h3, h4⟩ := hrd.2 hn; exact ⟨g, o, h1, h2, ⟨h3, h2⟩, h4⟩⟩ (fun k hk => hk.2) hc1 hc2)
       unfold CmPost at HRd
       rw [HRb.out] at HRd
       have hz1 := t1.size
       clear hrd t1)
    | (go_at_call 49
       go_must (refine HRd.out.mono ?_)
       rintro e w2 ⟨A2, B2, D2, k2, m2, n2, rfl, hr2, t2⟩
       have HR2 := Lib.hid (hr2.nearN.mono (F' := fun q => w.heap.size + 2 ≤ q ∧ q < w2.heap.size) (fun q hq => ⟨by have := hq.1; omega, hq.2⟩))
       have HT2 := Lib.hid (HT1.out.trans t2 (fun _ _ e => e))
       have HB12 := Lib.hid (t2.blk HB11.out (fun e => e))
       have HB22 := Lib.hid (t2.blk HB21.out (fun e => e))
       have HC2n := Lib.hid (cmA_size x A2 B2 D2 k2 m2 n2)
       have HC21 := Lib.hid (cmA_one x A2 B2 D2 k2 m2 n2)
       have hz2 := t2.size
       simp only
       rw [show (#[.int .i64 x.kind, .int .u64 x.client, .int .u64 x.req, .int .u64 x.id, .int .i64 x.con, .int .i64 x.at_, .int .i64 x.cal.off, .slice A2 x.cal.wk.length k2, .slice B2 x.cal.cl.length m2, .int .i64 x.tm.cal, .slice D2 x.tm.lv.length n2, .int .i64 x.tm.rt, .int .i64 x.tm.bk] : Array Value) = cmA x A2 B2 D2 k2 m2 n2 from rfl]
       obtain ⟨C2, hC2⟩ : ∃ C2, C2 = cmA x A2 B2 D2 k2 m2 n2 := ⟨_, rfl⟩
       have HE2 := Lib.hid hC2
       rw [← hC2] at HC2n HC21 ⊢
       clear hr2 t2 hC2)
    | ((with_reducible apply HB12.out.st rowCm HCn.out HC2n.out HC21.out); exact rfl; exact rfl; exact rfl; exact rfl
       intro w3 hb3 t3
       have HB3 := Lib.hid hb3
       have HB32 := Lib.hid (t3.blk HB22.out (by omega))
       have HT3 := Lib.hid (HT2.out.trans t3 (S := fun _ => False) (fun k hk e => by omega))
       have HR3 := Lib.hid (t3)
       clear hb3 t3)
    | ((with_reducible apply HB3.out.ld rowCm HC2n.out); exact rfl; exact rfl; exact rfl)
    | ((with_reducible apply HB32.out.st rowCm rfl HC2n.out HC21.out); exact rfl; exact rfl; exact rfl; exact rfl
       intro w4 hb4 t4
       have HB4 := Lib.hid hb4
       have HT4 := Lib.hid (HT3.out.trans t4 (S := fun _ => False) (fun k hk e => by omega))
       have HR4 := Lib.hid t4
       clear hb4 t4))
  refine bodyPost_ret (results_cell1 2 rowCm HC2n.out (HB4.out.whole) rfl rfl) rfl ?_
  refine ⟨A2, B2, D2, k2, m2, n2, by rw [HE2.out], ?_, HT4.out⟩
  have h4 := (HR2.out.touch HR3.out (fun q hq e => by omega)).touch HR4.out (fun q hq e => by omega)
  have z3 := HR3.out.size
  have z4 := HR4.out.size
  exact h4.mono (fun q hq => by omega)
/-- What Doing tells. -/
def DoingP (c : Cl) (w : World) (e : Ending) (w' : World) : Prop :=
  ∃ x A B D k m n, x = c.busy.getD cmZ ∧ e = .returned (.tuple #[.agg (cmA x A B D k m n), .bool c.busy.isSome]) ∧ CmR w' (fun q => w.heap.size ≤ q ∧ q < w'.heap.size) x A B D ∧ Touch (fun _ => False) w w'
theorem builtCm : Try.prog.built 35 [] = some cmZA := by kernel_rfl
theorem cldoing_any {w : World} {g : Nat} {c : Cl} {M : ClM} {F : Nat → Prop} (h : ClAt w g c M F) (hF : ∀ k, F k → k < w.heap.size) : Calls Try.prog 17 #[.pointer (some ⟨g, 0, none⟩)] w (DoingP c w) := by
  have ht := (Touch.refl (fun _ => False) w).alloc (.cells cmZA 35)
  have HT0 := Lib.hid ht
  have HB := Lib.hid (clbusy_any (h.far ht))
  have HR0 := Lib.hid (Blk.new w 35 cmZA)
  have hA := h.far ht
  have hgl := h.blk.lt
  cases hb : c.busy with
  | none =>
    rw [hb] at HB
    have HE := Lib.hid hb
    clear h hA ht hb
    generalize hz : cmZA = Z at *
    have HZ := Lib.hid hz
    have HZl := Lib.hid (show (#[.int .i64 0, .int .u64 0, .int .u64 0, .int .u64 0, .int .i64 0, .int .i64 0, .int .i64 0, .slice none 0 0, .slice none 0 0, .int .i64 0, .slice none 0 0, .int .i64 0, .int .i64 0] : Array Value) = Z from hz)
    have HZn := Lib.hid (show Z.size = 13 from hz ▸ rfl)
    have HZ1 := Lib.hid (show Z.all (·.oneCell') = true from hz ▸ cmA_one _ _ _ _ _ _ _)
    have HZb := Lib.hid (show Try.prog.built 35 [] = some Z from hz ▸ builtCm)
    clear hz
    go_enter Try.func17, Try.ntmps17
    go_wp2_with (first
      | (go_at_call 22; rw [HZl.out]; go_must (refine HB.out.mono ?_); rintro e w1 ⟨rfl, rfl⟩)
      | (refine buildZ HZb.out rfl rfl ?_)
      | ((with_reducible apply HR0.out.st rowCm HZn.out HZn.out HZ1.out); exact rfl; exact rfl; exact rfl; exact rfl
         intro w4 hb4 t4
         have HB4 := Lib.hid hb4
         have HT4 := Lib.hid (HT0.out.trans t4 (S := fun _ => False) (fun k hk e => by omega))
         clear hb4 t4))
    refine bodyPost_ret (results_cell2 2 3 rowCm HZn.out (HB4.out.whole) rfl rfl) rfl ?_
    exact ⟨cmZ, none, none, none, 0, 0, 0, by rw [HE.out]; rfl, by rw [HE.out, ← HZ.out]; rfl, CmR.zero _ _, HT4.out⟩
  | some x =>
    rw [hb] at HB
    have HE := Lib.hid hb
    have hbu := hA.bu
    rw [hb] at hbu
    obtain ⟨-, A, B, D, k, m, n, hDC, hrow⟩ := hbu
    have HX := Lib.hid (clC_DC c M h.dn)
    have HBl := Lib.hid hA.blk
    have HCo := Lib.hid (copied_any F A B D k m n x (h.ok.bu x hb) _ hrow (fun q hq => by have := hF q hq; simp; omega))
    have HCn := Lib.hid h.dn
    rw [← hDC] at HCo
    generalize M.DC = DC at *
    generalize clC c M = C at *
    clear h hA ht hb hrow hDC
    generalize hz : cmZA = Z at *
    have HZ := Lib.hid hz
    have HZl := Lib.hid (show (#[.int .i64 0, .int .u64 0, .int .u64 0, .int .u64 0, .int .i64 0, .int .i64 0, .int .i64 0, .slice none 0 0, .slice none 0 0, .int .i64 0, .slice none 0 0, .int .i64 0, .int .i64 0] : Array Value) = Z from hz)
    have HZn := Lib.hid (show Z.size = 13 from hz ▸ rfl)
    clear hz
    go_enter Try.func17, Try.ntmps17
    go_wp2_with (first
      | (go_at_call 22; rw [HZl.out]; go_must (refine HB.out.mono ?_); rintro e w1 ⟨rfl, rfl⟩)
      | ((with_reducible apply HBl.out.lp (k := 6) rowCm HCn.out HX.out); exact rfl; exact rfl; exact rfl)
      | (go_at_call 24
         go_must (refine HCo.out.mono ?_)
         rintro e w2 ⟨A2, B2, D2, k2, m2, n2, rfl, hr2, t2⟩
         have HR2 := Lib.hid hr2
         have HT2 := Lib.hid (HT0.out.trans t2 (fun _ _ e => e))
         have HB2 := Lib.hid (t2.blk HR0.out (fun e => e))
         have HC2n := Lib.hid (cmA_size x A2 B2 D2 k2 m2 n2)
         have HC21 := Lib.hid (cmA_one x A2 B2 D2 k2 m2 n2)
         obtain ⟨C2, hC2⟩ : ∃ C2, C2 = cmA x A2 B2 D2 k2 m2 n2 := ⟨_, rfl⟩
         have HE2 := Lib.hid hC2
         rw [← hC2] at HC2n HC21 ⊢
         clear hr2 t2 hC2)
      | ((with_reducible apply HB2.out.st rowCm HZn.out HC2n.out HC21.out); exact rfl; exact rfl; exact rfl; exact rfl
         intro w4 hb4 t4
         have HB4 := Lib.hid hb4
         have HT4 := Lib.hid (HT2.out.trans t4 (S := fun _ => False) (fun k hk e => by omega))
         have HR4 := Lib.hid t4
         clear hb4 t4))
    refine bodyPost_ret (results_cell2 2 3 rowCm HC2n.out (HB4.out.whole) rfl rfl) rfl ?_
    have z4 := HR4.out.size
    refine ⟨x, A2, B2, D2, k2, m2, n2, by rw [HE.out]; rfl, by rw [HE.out, HE2.out]; rfl, ?_, HT4.out⟩
    have h5 := HR2.out.touch HR4.out (fun q hq e => by have := hq.1; simp at this; omega)
    exact h5.mono (fun q hq => ⟨by have := hq.1; simp at this; omega, by have := hq.2; omega⟩)
end Go.Proofs.Ytlcefchbfjfifaa
