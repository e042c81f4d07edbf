/- The reference's progress: Heard. (written by genpr.py) -/
import Derived.Test.YtpgakkpmpnebnaaVPrU
namespace Go.Proofs.Ytpgakkpmpnebnaa
open Go.RowKit Prg
set_option maxHeartbeats 4000000
set_option maxRecDepth 100000
set_option linter.unusedVariables false
attribute [local irreducible] wpPlan

theorem refT_cell (t : Tb) {k : Nat} (hk : k < 7) : (refT t)[7 + k * 4 + 2]? = some (.int .u64 (lineV t k).r) ∧ (refT t)[7 + k * 4 + 3]? = some (.bool (lineV t k).a) := ⟨refA_r _ _ hk, refA_a _ _ hk⟩
theorem refT_heard (t : Tb) {k : Nat} (hk : k < 7) (hs : (t k).isSome = true) (r : Nat) : (refT t).setIfInBounds (7 + k * 4 + 3) (.bool true) = refT (putT t k { lineV t k with a := true }) ∧ ((refT t).setIfInBounds (7 + k * 4 + 3) (.bool true)).setIfInBounds (7 + k * 4 + 2) (.int .u64 r) = refT (putT t k { lineV t k with a := true, r := r }) := by
  rw [← refT_put hs, ← refT_put hs]
  rcases lt7 hk with rfl | rfl | rfl | rfl | rfl | rfl | rfl <;> exact ⟨rfl, rfl⟩
theorem fheard_any (t : Tb) (ok : t.Ok) (n : Int) (hn : inI n) (i : Nat) (hi : i < 18446744073709551616) (w : World) :
    Calls Try.prog 55 #[.agg (refT t), .int .i64 n, .int .u64 i] w (ROp (heardT t n i) (t n).isSome w) := by
  have HW := Lib.hid (TbW.new w (refT t))
  have HI := Lib.hid (fun w1 => fis_any t ok n hn w1)
  have HN := Lib.hid (refT_size t)
  have H1 := Lib.hid (refT_one t)
  cases ht : t n with
  | none =>
    have HV := Lib.hid (show heardT t n i = t by rw [heardT, ht])
    rw [HV.out]
    rw [show (t n).isSome = false by rw [ht]; rfl] at HI
    clear HV ok
    unfold ROp
    generalize refT t = C at *
    go_enter Try.func55, Try.ntmps55
    go_wp2_with (first
      | ((with_reducible apply HW.out.load HN.out); exact rfl; exact rfl; exact rfl)
      | (go_at_call 98; go_must (refine (HI.out _).mono ?_); rintro e w1 ⟨rfl, t1⟩
         have HW1 := Lib.hid (HW.out.none_ t1)
         clear t1)
      | ((with_reducible apply HW1.out.load HN.out); exact rfl; exact rfl; exact rfl)
      | ((with_reducible apply HW1.out.store HN.out H1.out); exact rfl; exact rfl; exact rfl; exact rfl; intro w2 hb2 t2; have HB2 := Lib.hid hb2; have HT2 := Lib.hid t2; clear hb2 t2))
    refine bodyPost_ret (results_cell2 6 7 rowTb HN.out (HB2.out.whole) rfl rfl) rfl ⟨?_, HT2.out⟩
    rfl
  | some x =>
    have hk := ok n x ht
    obtain ⟨k, rfl⟩ := Int.eq_ofNat_of_zero_le hk.1
    have hk7 : k < 7 := by omega
    have hxo := hk.2.2
    have hsm : (t (k : Int)).isSome = true := by rw [ht]; rfl
    have hl : lineV t (k : Int) = x := by rw [lineV, ht]; rfl
    have hR := refT_line t hk7
    rw [hl] at hR
    rw [hsm] at HI
    have HV := Lib.hid (show heardT t (k : Int) i = putT t k (heard x i) by rw [heardT, ht])
    rw [HV.out]
    unfold ROp
    have hc := refT_cell t hk7
    have hh := refT_heard t hk7 hsm i
    rw [hl] at hc hh
    have HN2 := Lib.hid (refT_size (putT t k (heard x i)))
    have H12 := Lib.hid (refT_one (putT t k (heard x i)))
    clear HV ok hl hR hn
    obtain ⟨m, q, r, a⟩ := x
    simp only at hc hh
    obtain ⟨D, hD⟩ : ∃ D, D = refT (putT t k (heard ⟨m, q, r, a⟩ i)) := ⟨_, rfl⟩
    rw [← hD] at HN2 H12 ⊢
    clear hsm ht hxo
    rcases Nat.lt_or_ge r i with hm | hm
    · have HP := Lib.hid (show ((refT t).setIfInBounds (7 + k * 4 + 3) (.bool true)).setIfInBounds (7 + k * 4 + 2) (.int .u64 (i : Int)) = D by
        rw [hD, heard, show max r i = i by omega]; exact hh.2)
      have hm' : (r : Int) < i := by omega
      clear hh hD
      generalize refT t = C at *
      have HC2 := Lib.hid hc.1
      have HC3 := Lib.hid hc.2
      clear hc
      have hne : ¬ 7 + k * 4 + 3 = 7 + k * 4 + 2 := by omega
      go_enter Try.func55, Try.ntmps55
      go_wp2_with (first
      | ((with_reducible apply HW.out.load HN.out); exact rfl; exact rfl; exact rfl)
      | (go_at_call 98; go_must (refine (HI.out _).mono ?_); rintro e w1 ⟨rfl, t1⟩
         have HW1 := Lib.hid (HW.out.none_ t1)
         have c2 := HW1.out.b.cell (7 + k * 4 + 2); have c3 := HW1.out.b.cell (7 + k * 4 + 3)
         rw [HC2.out] at c2; rw [HC3.out] at c3
         have f2 := HW1.out.b.frozen (7 + k * 4 + 2); have f3 := HW1.out.b.frozen (7 + k * 4 + 3)
         clear t1)
      | ((with_reducible apply (TbW.own HW1.out (((Touch.refl (fun q => q = w.heap.size) w1).set (fun _ => rfl) _).set (fun _ => rfl) _) (HP.out ▸ ((HW1.out.b.set_ (7 + k * 4 + 3) (.bool true)).set_ (7 + k * 4 + 2) (.int .u64 (i : Int))))).load HN2.out); exact rfl; exact rfl; exact rfl)
      | ((with_reducible apply (TbW.own HW1.out (((Touch.refl (fun q => q = w.heap.size) w1).set (fun _ => rfl) _).set (fun _ => rfl) _) (HP.out ▸ ((HW1.out.b.set_ (7 + k * 4 + 3) (.bool true)).set_ (7 + k * 4 + 2) (.int .u64 (i : Int))))).store HN2.out H12.out); exact rfl; exact rfl; exact rfl; exact rfl; intro w2 hb2 t2; have HB2 := Lib.hid hb2; have HT2 := Lib.hid t2; clear hb2 t2))
      refine bodyPost_ret (results_cell2 6 7 rowTb HN2.out (HB2.out.whole) rfl rfl) rfl ⟨?_, HT2.out⟩
      rfl
    · have HP := Lib.hid (show (refT t).setIfInBounds (7 + k * 4 + 3) (.bool true) = D by
        rw [hD, heard, show max r i = r by omega]; exact hh.1)
      have hm' : ¬ (r : Int) < i := by omega
      clear hh hD
      generalize refT t = C at *
      have HC2 := Lib.hid hc.1
      have HC3 := Lib.hid hc.2
      clear hc
      have hne : ¬ 7 + k * 4 + 3 = 7 + k * 4 + 2 := by omega
      go_enter Try.func55, Try.ntmps55
      go_wp2_with (first
      | ((with_reducible apply HW.out.load HN.out); exact rfl; exact rfl; exact rfl)
      | (go_at_call 98; go_must (refine (HI.out _).mono ?_); rintro e w1 ⟨rfl, t1⟩
         have HW1 := Lib.hid (HW.out.none_ t1)
         have c2 := HW1.out.b.cell (7 + k * 4 + 2); have c3 := HW1.out.b.cell (7 + k * 4 + 3)
         rw [HC2.out] at c2; rw [HC3.out] at c3
         have f2 := HW1.out.b.frozen (7 + k * 4 + 2); have f3 := HW1.out.b.frozen (7 + k * 4 + 3)
         clear t1)
      | ((with_reducible apply (TbW.own HW1.out ((Touch.refl (fun q => q = w.heap.size) w1).set (fun _ => rfl) _) (HP.out ▸ (HW1.out.b.set_ (7 + k * 4 + 3) (.bool true)))).load HN2.out); exact rfl; exact rfl; exact rfl)
      | ((with_reducible apply (TbW.own HW1.out ((Touch.refl (fun q => q = w.heap.size) w1).set (fun _ => rfl) _) (HP.out ▸ (HW1.out.b.set_ (7 + k * 4 + 3) (.bool true)))).store HN2.out H12.out); exact rfl; exact rfl; exact rfl; exact rfl; intro w2 hb2 t2; have HB2 := Lib.hid hb2; have HT2 := Lib.hid t2; clear hb2 t2))
      refine bodyPost_ret (results_cell2 6 7 rowTb HN2.out (HB2.out.whole) rfl rfl) rfl ⟨?_, HT2.out⟩
      rfl
end Go.Proofs.Ytpgakkpmpnebnaa
