/- The reference's shelf: Terms, Clock. (written by gensr.py) -/
import Derived.Test.YtlcefchbfjfifaaGreatVShR
namespace Go.Proofs.YtlcefchbfjfifaaGreat
open Go.RowKit Cal Go.Maps
set_option maxHeartbeats 4000000
set_option maxRecDepth 100000
set_option linter.unusedVariables false
attribute [local irreducible] wpPlan

def FtP (F : Nat → Prop) (S : Shl) (n : Int) (w : World) (e : Ending) (w' : World) : Prop := ∃ A k, e = .returned (.tuple #[.agg (conA (termsV S n) A k), .bool (S.con n).isSome]) ∧ SpR w' F A (termsV S n).lv.length (termsV S n).lv ∧ Touch (fun _ => False) w w'
theorem builtCo : Tryz.prog.built 24 [] = some #[.int .i64 0, .slice none 0 0, .int .i64 0, .int .i64 0] := by kernel_rfl
theorem builtCa : Tryz.prog.built 51 [] = some #[.int .i64 0, .slice none 0 0, .slice none 0 0] := by kernel_rfl
theorem termsV_none {S : Shl} {n : Int} (h : (S.con n).isSome = false) : termsV S n = conZ := by
  unfold termsV; cases hc : S.con n with
  | none => rfl
  | some c => rw [hc] at h; cases h
theorem plainV_none {S : Shl} {n : Int} (h : (S.cal n).isSome = false) : plainV S n = caN := by
  unfold plainV; cases hc : S.cal n with
  | none => rfl
  | some c => rw [hc] at h; cases h
theorem con_out {S : Shl} (ok : S.Ok) {n : Int} (h : ¬ (0 ≤ n ∧ n < 16)) : (S.con n).isSome = false := by
  cases hc : S.con n with
  | none => rfl
  | some c => exact absurd (ok.con n c hc).1 h
theorem cal_out {S : Shl} (ok : S.Ok) {n : Int} (h : ¬ (0 ≤ n ∧ n < 8)) : (S.cal n).isSome = false := by
  cases hc : S.cal n with
  | none => rfl
  | some c => exact absurd (ok.cal n c hc).1 h
theorem fterms_any (F : Nat → Prop) (S : Shl) (ok : S.Ok) (C : Array Value) (w : World) (h : RfS w F S C) (n : Int) (hn : inN n) :
    Calls Tryz.prog 66 #[.agg C, .int .i64 n] w (FtP F S n w) := by
  have HT := Lib.hid (((Touch.refl (fun _ => False) w).alloc (.cells C 62)).alloc (.cells #[.int .i64 0, .slice none 0 0, .int .i64 0, .int .i64 0] 24))
  have HB := Lib.hid ((Blk.new w 62 C).alloc (.cells #[.int .i64 0, .slice none 0 0, .int .i64 0, .int .i64 0] 24))
  have HZ := Lib.hid (show Blk ((w.alloc (.cells C 62)).alloc (.cells #[.int .i64 0, .slice none 0 0, .int .i64 0, .int .i64 0] 24)) (w.heap.size + 1) 24 #[.int .i64 0, .slice none 0 0, .int .i64 0, .int .i64 0] by simpa using Blk.new (w.alloc (.cells C 62)) 24 #[.int .i64 0, .slice none 0 0, .int .i64 0, .int .i64 0])
  have HZ1 := Lib.hid (show (#[.int .i64 0, .slice none 0 0, .int .i64 0, .int .i64 0] : Array Value).all (·.oneCell') = true by simp [Value.oneCell'])
  cases hs : (S.con n).isSome
  · have HV := Lib.hid (termsV_none hs)
    have HO : ∀ i : Nat, (i : Int) = n → i < 16 → C[32 + i]? = some (.bool false) := fun i e hi => by have := h.sb i hi; rw [e, hs] at this; exact this
    have HOh := Lib.hid HO
    have HSn := Lib.hid hs
    clear hs HO h ok
    by_cases h0 : n < 0
    · go_enter Tryz.func66, Tryz.ntmps66
      go_wp2_with (first
        | (refine buildZ builtCo rfl rfl ?_)
        | ((with_reducible apply HZ.out.st rowCo rfl rfl HZ1.out); exact rfl; exact rfl; exact rfl; exact rfl; intro w9 hb9 t9; have HB9 := Lib.hid hb9; have HT9 := Lib.hid (HT.out.trans t9 (S := fun _ => False) (fun q hq e => by omega)); clear hb9 t9))
      exact bodyPost_ret (results_cell2 4 5 rowCo rfl (HB9.out.whole) rfl rfl) rfl (by rw [FtP, HV.out, HSn.out]; exact ⟨none, 0, rfl, SpR.nil _ _ _, HT9.out⟩)
    · obtain ⟨i, rfl⟩ := Int.eq_ofNat_of_zero_le (by omega : 0 ≤ n)
      by_cases h15 : 15 < i
      · have h15' : (15 : Int) < (i : Int) := by omega
        go_enter Tryz.func66, Tryz.ntmps66
        go_wp2_with (first
          | (refine buildZ builtCo rfl rfl ?_)
          | ((with_reducible apply HZ.out.st rowCo rfl rfl HZ1.out); exact rfl; exact rfl; exact rfl; exact rfl; intro w9 hb9 t9; have HB9 := Lib.hid hb9; have HT9 := Lib.hid (HT.out.trans t9 (S := fun _ => False) (fun q hq e => by omega)); clear hb9 t9))
        exact bodyPost_ret (results_cell2 4 5 rowCo rfl (HB9.out.whole) rfl rfl) rfl (by rw [FtP, HV.out, HSn.out]; exact ⟨none, 0, rfl, SpR.nil _ _ _, HT9.out⟩)
      · have h15' : ¬ (15 : Int) < (i : Int) := by omega
        have c1 := HB.out.cell (32 + i)
        rw [HOh.out i rfl (by omega)] at c1
        go_enter Tryz.func66, Tryz.ntmps66
        go_wp2_with (first
          | (refine buildZ builtCo rfl rfl ?_)
          | ((with_reducible apply HZ.out.st rowCo rfl rfl HZ1.out); exact rfl; exact rfl; exact rfl; exact rfl; intro w9 hb9 t9; have HB9 := Lib.hid hb9; have HT9 := Lib.hid (HT.out.trans t9 (S := fun _ => False) (fun q hq e => by omega)); clear hb9 t9))
        exact bodyPost_ret (results_cell2 4 5 rowCo rfl (HB9.out.whole) rfl rfl) rfl (by rw [FtP, HV.out, HSn.out]; exact ⟨none, 0, rfl, SpR.nil _ _ _, HT9.out⟩)
  · have hr : 0 ≤ n ∧ n < 16 := by
      by_cases hr : 0 ≤ n ∧ n < 16
      · exact hr
      · rw [con_out ok hr] at hs; cases hs
    obtain ⟨i, rfl⟩ := Int.eq_ofNat_of_zero_le hr.1
    have hi : i < 16 := by omega
    have h15' : ¬ (15 : Int) < (i : Int) := by omega
    obtain ⟨A, k, hE, hR⟩ := h.con hi
    have HE := Lib.hid hE
    have HR := Lib.hid hR
    have HN := Lib.hid (show (conA (termsV S i) A k).size = 4 from rfl)
    have H1 := Lib.hid (conA_one (termsV S i) A k)
    have c1 := HB.out.cell (32 + i)
    rw [h.sb i hi, hs] at c1
    obtain ⟨L, hL⟩ : ∃ L, L = conA (termsV S i) A k := ⟨_, rfl⟩
    have HL := Lib.hid hL
    have HSn := Lib.hid hs
    rw [← hL] at HE HN H1
    clear hE hR hL h ok hs hr
    go_enter Tryz.func66, Tryz.ntmps66
    go_wp2_with (first
      | ((with_reducible apply HB.out.lpS (k := 48 + i * 4) rowCo HN.out HE.out); exact rfl; exact rfl; exact rfl)
      | ((with_reducible apply HZ.out.st rowCo rfl HN.out H1.out); exact rfl; exact rfl; exact rfl; exact rfl; intro w9 hb9 t9; have HB9 := Lib.hid hb9; have HT9 := Lib.hid (HT.out.trans t9 (S := fun _ => False) (fun q hq e => by omega)); clear hb9 t9))
    exact bodyPost_ret (results_cell2 4 5 rowCo HN.out (HB9.out.whole) rfl rfl) rfl (by rw [FtP, HSn.out]; exact ⟨A, k, by rw [← HL.out]; rfl, HR.out.touch HT9.out (fun _ _ e => e), HT9.out⟩)
/-- The calendar of a contract. -/
def clkV (S : Shl) (n : Int) : Ca := if (S.con n).isSome = true then plainV S (termsV S n).cal else caN
def FcP (F : Nat → Prop) (S : Shl) (n : Int) (w : World) (e : Ending) (w' : World) : Prop := ∃ A B k m, e = .returned (.tuple #[.agg (caA (clkV S n) A B k m), .bool (S.con n).isSome]) ∧ CaR w' F (clkV S n) A B ∧ Touch (fun _ => False) w w'
theorem fclock_any (F : Nat → Prop) (S : Shl) (ok : S.Ok) (C : Array Value) (w : World) (h : RfS w F S C) (n : Int) (hn : inN n) :
    Calls Tryz.prog 68 #[.agg C, .int .i64 n] w (FcP F S n w) := by
  have HT := Lib.hid (((Touch.refl (fun _ => False) w).alloc (.cells C 62)).alloc (.cells #[.int .i64 0, .slice none 0 0, .slice none 0 0] 51))
  have HB := Lib.hid ((Blk.new w 62 C).alloc (.cells #[.int .i64 0, .slice none 0 0, .slice none 0 0] 51))
  have HZ := Lib.hid (show Blk ((w.alloc (.cells C 62)).alloc (.cells #[.int .i64 0, .slice none 0 0, .slice none 0 0] 51)) (w.heap.size + 1) 51 #[.int .i64 0, .slice none 0 0, .slice none 0 0] by simpa using Blk.new (w.alloc (.cells C 62)) 51 #[.int .i64 0, .slice none 0 0, .slice none 0 0])
  have HZ1 := Lib.hid (show (#[.int .i64 0, .slice none 0 0, .slice none 0 0] : Array Value).all (·.oneCell') = true by simp [Value.oneCell'])
  have HTe := Lib.hid (fun w1 (t : Touch (fun _ => False) w w1) => fterms_any F S ok C w1 (h.far t) n hn)
  have HCN := Lib.hid h.n
  have HC4 := Lib.hid (fun A k => (show (conA (termsV S n) A k).size = 4 from rfl))
  have HC1 := Lib.hid (fun A k => conA_one (termsV S n) A k)
  have HC0 := Lib.hid (fun A k => (show (conA (termsV S n) A k)[0]? = some (.int .i64 (termsV S n).cal) from rfl))
  unfold FtP at HTe
  cases hs : (S.con n).isSome
  · have HV := Lib.hid (show clkV S n = caN by rw [clkV, hs]; rfl)
    have HSn := Lib.hid hs
    rw [hs] at HTe
    generalize conA (termsV S n) = CN at *
    clear hs h ok
    go_enter Tryz.func68, Tryz.ntmps68
    go_wp2_with (first
      | ((with_reducible apply HB.out.ld rowSf HCN.out); exact rfl; exact rfl; exact rfl)
      | (go_at_call 66; go_must (refine (HTe.out _ (by exact HT.out)).mono ?_); rintro e w1 ⟨A1, k1, rfl, -, t1⟩
         have HT1 := Lib.hid (HT.out.trans t1 (fun _ _ e => e))
         have HZa := Lib.hid (t1.blk HZ.out (fun e => e))
         have HNb := Lib.hid (Blk.new w1 24 #[.int .i64 0, .slice none 0 0, .int .i64 0, .int .i64 0])
         have HN4 := Lib.hid (HC4.out A1 k1)
         have HN1 := Lib.hid (HC1.out A1 k1)
         clear t1)
      | ((with_reducible apply HNb.out.st rowCo rfl HN4.out HN1.out); exact rfl; exact rfl; exact rfl; exact rfl; intro w2 hb2 t2
         have HT2 := Lib.hid ((HT1.out.alloc (.cells #[.int .i64 0, .slice none 0 0, .int .i64 0, .int .i64 0] 24)).trans t2 (S := fun _ => False) (fun q hq e => by have := HT1.out.size; omega))
         have HZb := Lib.hid (t2.blk (HZa.out.alloc _) (by have := HZa.out.lt; omega))
         clear hb2 t2)
      | (refine buildZ builtCa rfl rfl ?_)
      | ((with_reducible apply HZb.out.st rowCa rfl rfl HZ1.out); exact rfl; exact rfl; exact rfl; exact rfl; intro w9 hb9 t9; have HB9 := Lib.hid hb9; have HT9 := Lib.hid (HT2.out.trans t9 (S := fun _ => False) (fun q hq e => by omega)); clear hb9 t9))
    exact bodyPost_ret (results_cell2 4 5 rowCa rfl (HB9.out.whole) rfl rfl) rfl (by rw [FcP, HV.out, HSn.out]; exact ⟨none, none, 0, 0, rfl, ⟨SpR.nil _ _ _, SpR.nil _ _ _⟩, HT9.out⟩)
  · have HV := Lib.hid (show clkV S n = plainV S (termsV S n).cal by rw [clkV, hs]; rfl)
    have HSn := Lib.hid hs
    have hcal : 0 ≤ (termsV S n).cal ∧ (termsV S n).cal ≤ 7 := by
      cases hc : S.con n with
      | none => rw [hc] at hs; cases hs
      | some c => have := good_hd (ok.con n c hc).2.1; simp only [termsV, hc, Option.getD_some]; omega
    obtain ⟨z, hz⟩ : ∃ z : Nat, (termsV S n).cal = (z : Int) := ⟨(termsV S n).cal.toNat, by omega⟩
    have hz8 : z < 8 := by omega
    rw [hz] at HC0 HV
    obtain ⟨A, B, k, m, hE, hR⟩ := h.cal hz8
    have HE := Lib.hid hE
    have HR := Lib.hid hR
    have HN := Lib.hid (show (caA (plainV S z) A B k m).size = 3 from rfl)
    have H1 := Lib.hid (caA_one (plainV S z) A B k m)
    obtain ⟨L, hL⟩ : ∃ L, L = caA (plainV S z) A B k m := ⟨_, rfl⟩
    have HL := Lib.hid hL
    rw [← hL] at HE HN H1
    rw [hs] at HTe
    generalize conA (termsV S n) = CN at *
    clear hE hR hL h ok hs hz hcal
    go_enter Tryz.func68, Tryz.ntmps68
    go_wp2_with (first
      | ((with_reducible apply HB.out.ld rowSf HCN.out); exact rfl; exact rfl; exact rfl)
      | (go_at_call 66; go_must (refine (HTe.out _ (by exact HT.out)).mono ?_); rintro e w1 ⟨A1, k1, rfl, -, t1⟩
         have HT1 := Lib.hid (HT.out.trans t1 (fun _ _ e => e))
         have HZa := Lib.hid (t1.blk HZ.out (fun e => e))
         have HBa := Lib.hid (t1.blk HB.out (fun e => e))
         have HNb := Lib.hid (Blk.new w1 24 #[.int .i64 0, .slice none 0 0, .int .i64 0, .int .i64 0])
         have HN4 := Lib.hid (HC4.out A1 k1)
         have HN1 := Lib.hid (HC1.out A1 k1)
         have HN0 := Lib.hid (HC0.out A1 k1)
         clear t1)
      | ((with_reducible apply HNb.out.st rowCo rfl HN4.out HN1.out); exact rfl; exact rfl; exact rfl; exact rfl; intro w2 hb2 t2
         have HT2 := Lib.hid ((HT1.out.alloc (.cells #[.int .i64 0, .slice none 0 0, .int .i64 0, .int .i64 0] 24)).trans t2 (S := fun _ => False) (fun q hq e => by have := HT1.out.size; omega))
         have HZb := Lib.hid (t2.blk (HZa.out.alloc _) (by have := HZa.out.lt; omega))
         have HBb := Lib.hid (t2.blk (HBa.out.alloc _) (by have := HBa.out.lt; omega))
         have c2 := hb2.cell 0
         rw [HN0.out] at c2
         clear hb2 t2)
      | ((with_reducible apply HBb.out.lpS (k := 8 + z * 3) rowCa HN.out HE.out); exact rfl; exact rfl; exact rfl)
      | ((with_reducible apply HZb.out.st rowCa rfl HN.out H1.out); exact rfl; exact rfl; exact rfl; exact rfl; intro w9 hb9 t9; have HB9 := Lib.hid hb9; have HT9 := Lib.hid (HT2.out.trans t9 (S := fun _ => False) (fun q hq e => by omega)); clear hb9 t9))
    exact bodyPost_ret (results_cell2 4 5 rowCa HN.out (HB9.out.whole) rfl rfl) rfl (by rw [FcP, HV.out, HSn.out]; exact ⟨A, B, k, m, by rw [← HL.out]; rfl, CaR.touch HR.out HT9.out (fun _ _ e => e), HT9.out⟩)
end Go.Proofs.YtlcefchbfjfifaaGreat
