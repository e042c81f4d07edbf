/- The reference's progress: is, Get. The reference's progress: Get. -/
import Derived.Test.YtpgakkpmpnebnaaVPrR
import Derived.Test.YtpgakkpmpnebnaaVRowE
import Derived.Test.YtpgakkpmpnebnaaVPrD
section
namespace Go.Proofs.Ytpgakkpmpnebnaa
open Go.RowKit Prg
set_option maxHeartbeats 4000000
set_option maxRecDepth 100000
set_option linter.unusedVariables false
attribute [local irreducible] wpPlan

theorem rowTb : RowT 37 35 := ⟨⟨_, Try.underlying37, rfl⟩, by kernel_rfl⟩
theorem rowLn : RowT 34 4 := ⟨⟨_, Try.underlying34, rfl⟩, by kernel_rfl⟩
theorem refT_size (t : Tb) : (refT t).size = 35 := rfl
theorem refT_one (t : Tb) : (refT t).all (·.oneCell') = true := refA_one _ _
theorem refT_has (t : Tb) {k : Nat} (hk : k < 7) : (refT t)[k]? = some (.bool (t k).isSome) := refA_h _ _ hk
theorem fis_any (t : Tb) (ok : t.Ok) (n : Int) (hn : inI n) (w : World) :
    Calls Try.prog 98 #[.agg (refT t), .int .i64 n] w fun e w' => e = .returned (.bool (t n).isSome) ∧ Touch (fun _ => False) w w' := by
  have hT := (Touch.refl (fun _ => False) w).alloc (.cells (refT t) 37)
  have HT := Lib.hid hT
  have HB := Lib.hid (Blk.new w 37 (refT t))
  have HC := Lib.hid (fun k (hk : k < 7) => refT_has t hk)
  have HO := Lib.hid ok
  generalize refT t = C at *
  clear hT ok
  by_cases h0 : 0 ≤ n
  · obtain ⟨k, rfl⟩ := Int.eq_ofNat_of_zero_le h0
    by_cases h7 : k < 7
    · have hc := HB.out.cell k
      rw [HC.out k h7] at hc
      have g1 : decide ((k : Int) ≤ 6) = true := by simp; omega
      have g0 : decide (0 ≤ (k : Int)) = true := by simp
      go_enter Try.func98, Try.ntmps98
      go_wp2
      go_ret
      exact ⟨rfl, HT.out⟩
    · have hk : t (k : Int) = none := by
        cases ht : t (k : Int) with
        | none => rfl
        | some x => have := HO.out _ _ ht; omega
      have HK := Lib.hid hk
      have h8 : ¬ (k : Int) ≤ 6 := by omega
      clear hk
      go_enter Try.func98, Try.ntmps98
      go_wp2
      go_ret
      exact ⟨by rw [HK.out]; rfl, HT.out⟩
  · have hk : t n = none := by
      cases ht : t n with
      | none => rfl
      | some x => have := HO.out _ _ ht; omega
    have HK := Lib.hid hk
    clear hk
    go_enter Try.func98, Try.ntmps98
    go_wp2
    go_ret
    exact ⟨by rw [HK.out]; rfl, HT.out⟩
end Go.Proofs.Ytpgakkpmpnebnaa
end

section
namespace Go.Proofs.Ytpgakkpmpnebnaa
open Go.RowKit Prg
set_option maxHeartbeats 4000000
set_option maxRecDepth 100000
set_option linter.unusedVariables false
attribute [local irreducible] wpPlan

theorem builtLn : Try.prog.built 34 [] = some #[.int .u64 0, .int .u64 0, .int .u64 0, .bool false] := by kernel_rfl
theorem zLn_one : (#[.int .u64 0, .int .u64 0, .int .u64 0, .bool false] : Array Value).all (·.oneCell') = true := by simp [Value.oneCell']
theorem refT_line (t : Tb) {k : Nat} (hk : k < 7) : ((refT t).extract (7 + k * 4) (7 + k * 4 + 4)) = lnC (lineV t k) := by
  rcases lt7 hk with rfl | rfl | rfl | rfl | rfl | rfl | rfl <;> rfl
theorem fget_any (t : Tb) (ok : t.Ok) (n : Int) (hn : inI n) (w : World) :
    Calls Try.prog 64 #[.agg (refT t), .int .i64 n] w fun e w' => e = .returned (.tuple #[.agg (lnC (lineV t n)), .bool (t n).isSome]) ∧ Touch (fun _ => False) w w' := by
  have HT := Lib.hid (((Touch.refl (fun _ => False) w).alloc (.cells (refT t) 37)).alloc (.cells (lnC Ln.z) 34))
  have HB := Lib.hid ((Blk.new w 37 (refT t)).alloc (.cells (lnC Ln.z) 34))
  have HL := Lib.hid (show Blk ((w.alloc (.cells (refT t) 37)).alloc (.cells (lnC Ln.z) 34)) (w.heap.size + 1) 34 (lnC Ln.z) by simpa using Blk.new (w.alloc (.cells (refT t) 37)) 34 (lnC Ln.z))
  have HI := Lib.hid (fun w1 => fis_any t ok n hn w1)
  have HE := Lib.hid (fun k (hk : k < 7) => refT_line t hk)
  have HN := Lib.hid (refT_size t)
  have HV := Lib.hid (show (t n).isSome = false → lineV t n = Ln.z by intro h; cases ht : t n with | none => rw [lineV, ht]; rfl | some x => rw [ht] at h; cases h)
  have HO := Lib.hid (show (t n).isSome = true → 0 ≤ n ∧ n ≤ 6 by intro h; cases ht : t n with | none => rw [ht] at h; cases h | some x => have := ok n x ht; omega)
  simp only [lnC, Ln.z] at HT HB HL
  cases hs : (t n).isSome
  · rw [hs] at HI HV
    generalize refT t = C at *
    clear ok HO hs
    go_enter Try.func64, Try.ntmps64
    go_wp2_with (first
      | (refine loadC rowTb _ rfl rfl w.heap.size 0 rfl C HN.out HB.out.whole ?_)
      | (go_at_call 98; go_must (refine (HI.out _).mono ?_); rintro e w1 ⟨rfl, t1⟩
         have HT1 := Lib.hid (HT.out.trans t1 (fun _ _ e => e))
         have HL1 := Lib.hid (t1.blk HL.out (fun e => e))
         clear t1)
      | (refine buildZ builtLn rfl rfl ?_)
      | (refine storeM rowLn _ _ rfl rfl (w.heap.size + 1) rfl #[.int .u64 0, .int .u64 0, .int .u64 0, .bool false] rfl _ _ HL1.out rfl rfl zLn_one ?_
         intro w2 hb2 t2
         have HB2 := Lib.hid hb2
         have HT2 := Lib.hid (HT1.out.trans t2 (fun q hq e => by omega))
         clear hb2 t2))
    refine bodyPost_ret (results_cell2 4 5 rowLn rfl (HB2.out.whole) rfl rfl) rfl ⟨?_, HT2.out⟩
    rw [HV.out (by simp)]; rfl
  · rw [hs] at HI HO
    obtain ⟨h0, h6⟩ := HO.out rfl
    obtain ⟨k, rfl⟩ := Int.eq_ofNat_of_zero_le h0
    have HR := Lib.hid (HE.out k (by omega))
    generalize refT t = C at *
    clear ok hs h0 HV HE HO
    have hk : k < 7 := by omega
    obtain ⟨L, hL⟩ : ∃ L, L = lnC (lineV t k) := ⟨_, rfl⟩
    rw [← hL] at HR ⊢
    have HLn := Lib.hid (show L.size = 4 by rw [hL]; rfl)
    have HL1' := Lib.hid (show L.all (·.oneCell') = true by rw [hL]; simp [Value.oneCell'])
    clear hL
    go_enter Try.func64, Try.ntmps64
    go_wp2_with (first
      | (refine loadC rowTb _ rfl rfl w.heap.size 0 rfl C HN.out HB.out.whole ?_)
      | (go_at_call 98; go_must (refine (HI.out _).mono ?_); rintro e w1 ⟨rfl, t1⟩
         have HT1 := Lib.hid (HT.out.trans t1 (fun _ _ e => e))
         have HL1 := Lib.hid (t1.blk HL.out (fun e => e))
         have HC1 := Lib.hid (HR.out ▸ (t1.blk HB.out (fun e => e)).range (7 + k * 4) 4)
         clear t1)
      | (refine loadC rowLn _ rfl rfl w.heap.size (7 + k * 4) rfl L HLn.out HC1.out ?_)
      | (refine storeM rowLn _ _ rfl rfl (w.heap.size + 1) rfl L rfl _ _ HL1.out rfl HLn.out HL1'.out ?_
         intro w2 hb2 t2
         have HB2 := Lib.hid hb2
         have HT2 := Lib.hid (HT1.out.trans t2 (fun q hq e => by omega))
         clear hb2 t2))
    refine bodyPost_ret (results_cell2 4 5 rowLn HLn.out (HB2.out.whole) rfl rfl) rfl ⟨?_, HT2.out⟩
    rfl
end Go.Proofs.Ytpgakkpmpnebnaa
end
