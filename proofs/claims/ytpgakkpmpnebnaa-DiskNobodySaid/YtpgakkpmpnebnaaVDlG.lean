/- The walk of DiskNobody. (written by genDlG.py) -/
import Derived.Test.YtpgakkpmpnebnaaVDlB
import Derived.Test.YtpgakkpmpnebnaaVDkO
import Derived.Test.YtpgakkpmpnebnaaVArgsD
namespace Go.Proofs.Ytpgakkpmpnebnaa
open Go.RowKit Go.Maps
set_option maxHeartbeats 4000000
set_option maxRecDepth 100000
set_option linter.unusedVariables false
attribute [local irreducible] wpPlan

theorem light_one {o : Op23} (h : light23 [o] = true) : o.lt := by simpa [light23] using h
theorem walk_DiskNobody {w : World} (o : Op23) (ho : o.okA w) :
    Calls Try.prog 10 #[.agg o.cells.toArray] w fun e w' => e = .returned (.bool true) ∧ Below w.heap.size w w' := by
  obtain ⟨wa, hwa⟩ : ∃ wa, wa = (w.alloc (.cells #[.int .i64 o.k, .int .i64 o.n, St o.nm, St o.to_, St o.tx, .slice o.A o.ts.length o.c] 71)).alloc (.cells #[.int .i64 o.k, .int .i64 o.n, St o.nm, St o.to_, St o.tx, .slice o.A o.ts.length o.c] 71) := ⟨_, rfl⟩
  have HWa := Lib.hid hwa
  have HTa := Lib.hid (show Touch (fun _ => False) w wa from hwa ▸ T2 w _ _)
  have HBa := Lib.hid (show Blk wa w.heap.size 71 #[.int .i64 o.k, .int .i64 o.n, St o.nm, St o.to_, St o.tx, .slice o.A o.ts.length o.c] from hwa ▸ bk11 w _ _ _ _)
  have hb2 : Blk wa (w.heap.size + 1) 71 #[.int .i64 o.k, .int .i64 o.n, St o.nm, St o.to_, St o.tx, .slice o.A o.ts.length o.c] := hwa ▸ bk12 w _ _ _ _
  have hsa : wa.heap.size = w.heap.size + 2 := by rw [hwa]; simp
  have HLi := Lib.hid (show Calls Try.prog 30 #[.slice (some ⟨w.heap.size + 1, 0, none⟩) 1 1] wa fun e w' => e = .returned (.bool (light23 [o])) ∧ Touch (fun _ => False) wa w' from
    light23_any (fun _ => True) (some ⟨w.heap.size + 1, 0, none⟩) 1 [o] wa ⟨by rfl, fun _ => ⟨_, 0, rfl, hb2.lt, trivial, fun j u hj => by rw [Nat.zero_add, hb2.cell]; simpa [Op23.cells] using hj⟩⟩ (by simp))
  clear hwa hb2 ho
  rw [show o.cells.toArray = #[.int .i64 o.k, .int .i64 o.n, St o.nm, St o.to_, St o.tx, .slice o.A o.ts.length o.c] from rfl]
  cases hl : light23 [o]
  · rw [hl] at HLi
    clear hl
    go_enter Try.func10, Try.ntmps10
    go_wp2_with (first
      | (go_at_call 30; rw [← HWa.out]; go_must (refine HLi.out.mono ?_); rintro e w0 ⟨rfl, t0⟩; have HT0 := Lib.hid (HTa.out.trans t0 (fun _ _ e => e)); have HB0 := Lib.hid (t0.blk HBa.out (fun e => e)); clear t0)
      | (go_at_call 32; go_must (refine (lives23_any _).mono ?_); rintro e w9 ⟨rfl, t9⟩; have HT9 := Lib.hid t9; clear t9))
    go_ret
    exact ⟨rfl, (HT0.out.trans HT9.out (fun _ _ e => e)).below⟩
  · rw [hl] at HLi
    have hlo := (light_one hl).1
    clear hl
    go_enter Try.func10, Try.ntmps10
    go_wp2_with (first
      | (go_at_call 30; rw [← HWa.out]; go_must (refine HLi.out.mono ?_); rintro e w0 ⟨rfl, t0⟩; have HT0 := Lib.hid (HTa.out.trans t0 (fun _ _ e => e)); have HB0 := Lib.hid (t0.blk HBa.out (fun e => e)); clear t0))
    obtain ⟨wb, hwb⟩ : ∃ wb, wb = (w0.alloc (.cells #[.map none, .int .i64 0, .bool false, .int .i64 0, .pointer none] 102)).alloc (.cells #[.pointer none, .pointer (some ⟨w0.heap.size, 0, none⟩)] 63) := ⟨_, rfl⟩
    have tb := (show Touch (fun _ => False) w0 wb from hwb ▸ T2 w0 _ _)
    have HTb := Lib.hid (HT0.out.trans tb (fun _ _ e => e))
    have HBb := Lib.hid (tb.blk HB0.out (fun e => e))
    have HZb := Lib.hid (show Blk wb w0.heap.size 102 #[.map none, .int .i64 0, .bool false, .int .i64 0, .pointer none] from hwb ▸ bk11 w0 _ _ _ _)
    have HLb := Lib.hid (show Blk wb (w0.heap.size + 1) 63 #[.pointer none, .pointer (some ⟨w0.heap.size, 0, none⟩)] from hwb ▸ bk12 w0 _ _ _ _)
    rw [← hwb]
    clear hwb tb HLi HT0 HB0 HTa HBa HWa hsa
    go_loopw [18] (fun i wr => ∃ j : Nat, j ≤ 2 ∧ i = .int .i64 j ∧ Touch (fun _ => False) wb wr) (fun i _ => 2 - (intOf i).toNat)
    case atStart => exact ⟨0, by omega, rfl, Touch.refl _ _⟩
    case round =>
      obtain ⟨j, hj, rfl, hT⟩ := hrel
      have HT10 := Lib.hid hT
      have HB10 := Lib.hid (hT.blk HBb.out (fun e => e))
      have HZ10 := Lib.hid (hT.blk HZb.out (fun e => e))
      have HL10 := Lib.hid (hT.blk HLb.out (fun e => e))
      have x0 := HB10.out.cell 0; have x1 := HB10.out.cell 1; have x2 := HB10.out.cell 2; have x3 := HB10.out.cell 3; have x4 := HB10.out.cell 4; have x5 := HB10.out.cell 5; simp at x0 x1 x2 x3 x4 x5
      by_cases hj2 : j < 2
      · obtain ⟨v, hv, hnv⟩ : ∃ v, wr.cell? ⟨w0.heap.size + 1, j, none⟩ = some v ∧ NoDk wr v := by
          rcases (by omega : j = 0 ∨ j = 1) with rfl | rfl
          · exact ⟨_, by simpa using HL10.out.cell 0, .inl rfl⟩
          · exact ⟨_, by simpa using HL10.out.cell 1, .inr ⟨_, rfl, HZ10.out⟩⟩
        have HN10 := Lib.hid hnv
        clear hnv hT
        go_wp2_with (first
          | (go_at_call 52; go_must (refine (dread_no (by exact HN10.out) o.nm).mono ?_); rintro e v11 ⟨rfl, t11⟩
             have HN11 := Lib.hid (HN10.out.far t11)
             have HB11 := Lib.hid (t11.blk HB10.out (fun e => e))
             have HT11 := Lib.hid (HT10.out.trans t11 (fun _ _ e => e))
             clear x0 x1 x2 x3 x4 x5
             have x0 := HB11.out.cell 0; have x1 := HB11.out.cell 1; have x2 := HB11.out.cell 2; have x3 := HB11.out.cell 3; have x4 := HB11.out.cell 4; have x5 := HB11.out.cell 5; simp at x0 x1 x2 x3 x4 x5
             obtain ⟨bc, bcs, v1c, hcv, t1c, -, -, -, -, -, -⟩ := conv_u o.tx v11 v11.heap.size rfl (by omega)
             have HN1c := Lib.hid (HN11.out.far t1c)
             have HB1c := Lib.hid (t1c.blk HB11.out (fun e => e))
             have HT1c := Lib.hid (HT11.out.trans t1c (fun _ _ e => e))
             clear x0 x1 x2 x3 x4 x5
             have x0 := HB11.out.cell 0; have x1 := HB11.out.cell 1; have x2 := HB11.out.cell 2; have x3 := HB11.out.cell 3; have x4 := HB11.out.cell 4; have x5 := HB11.out.cell 5; simp at x0 x1 x2 x3 x4 x5
             clear t11)
          | (go_at_call 45; go_must (refine (dappend_no (by exact HN1c.out) o.nm _ _ _).mono ?_); rintro e v12 ⟨rfl, t12⟩
             have HN12 := Lib.hid (HN1c.out.far t12)
             have HB12 := Lib.hid (t12.blk HB1c.out (fun e => e))
             have HT12 := Lib.hid (HT1c.out.trans t12 (fun _ _ e => e))
             clear x0 x1 x2 x3 x4 x5
             have x0 := HB12.out.cell 0; have x1 := HB12.out.cell 1; have x2 := HB12.out.cell 2; have x3 := HB12.out.cell 3; have x4 := HB12.out.cell 4; have x5 := HB12.out.cell 5; simp at x0 x1 x2 x3 x4 x5
             clear t12)
          | (go_at_call 46; go_must (refine (dsync_no (by exact HN12.out) o.nm).mono ?_); rintro e v13 ⟨rfl, t13⟩
             have HN13 := Lib.hid (HN12.out.far t13)
             have HB13 := Lib.hid (t13.blk HB12.out (fun e => e))
             have HT13 := Lib.hid (HT12.out.trans t13 (fun _ _ e => e))
             clear x0 x1 x2 x3 x4 x5
             have x0 := HB13.out.cell 0; have x1 := HB13.out.cell 1; have x2 := HB13.out.cell 2; have x3 := HB13.out.cell 3; have x4 := HB13.out.cell 4; have x5 := HB13.out.cell 5; simp at x0 x1 x2 x3 x4 x5
             clear t13)
          | (go_at_call 47; go_must (refine (dcut_no (by exact HN13.out) o.nm o.n).mono ?_); rintro e v14 ⟨rfl, t14⟩
             have HN14 := Lib.hid (HN13.out.far t14)
             have HB14 := Lib.hid (t14.blk HB13.out (fun e => e))
             have HT14 := Lib.hid (HT13.out.trans t14 (fun _ _ e => e))
             clear x0 x1 x2 x3 x4 x5
             have x0 := HB14.out.cell 0; have x1 := HB14.out.cell 1; have x2 := HB14.out.cell 2; have x3 := HB14.out.cell 3; have x4 := HB14.out.cell 4; have x5 := HB14.out.cell 5; simp at x0 x1 x2 x3 x4 x5
             clear t14)
          | (go_at_call 48; go_must (refine (dremove_no (by exact HN14.out) o.nm).mono ?_); rintro e v15 ⟨rfl, t15⟩
             have HN15 := Lib.hid (HN14.out.far t15)
             have HB15 := Lib.hid (t15.blk HB14.out (fun e => e))
             have HT15 := Lib.hid (HT14.out.trans t15 (fun _ _ e => e))
             clear x0 x1 x2 x3 x4 x5
             have x0 := HB15.out.cell 0; have x1 := HB15.out.cell 1; have x2 := HB15.out.cell 2; have x3 := HB15.out.cell 3; have x4 := HB15.out.cell 4; have x5 := HB15.out.cell 5; simp at x0 x1 x2 x3 x4 x5
             clear t15)
          | (go_at_call 49; go_must (refine (dmove_no (by exact HN15.out) o.nm o.to_).mono ?_); rintro e v16 ⟨rfl, t16⟩
             have HN16 := Lib.hid (HN15.out.far t16)
             have HB16 := Lib.hid (t16.blk HB15.out (fun e => e))
             have HT16 := Lib.hid (HT15.out.trans t16 (fun _ _ e => e))
             clear x0 x1 x2 x3 x4 x5
             have x0 := HB16.out.cell 0; have x1 := HB16.out.cell 1; have x2 := HB16.out.cell 2; have x3 := HB16.out.cell 3; have x4 := HB16.out.cell 4; have x5 := HB16.out.cell 5; simp at x0 x1 x2 x3 x4 x5
             clear t16)
          | (go_at_call 44; go_must (refine (darm_no (by exact HN16.out) o.n).mono ?_); rintro e wz ⟨rfl, rfl⟩)
          | (go_at_call 43; go_must (refine (dcrash_no (by exact HN16.out) _ _ _).mono ?_); rintro e v17 ⟨rfl, t17⟩
             have HN17 := Lib.hid (HN16.out.far t17)
             have HB17 := Lib.hid (t17.blk HB16.out (fun e => e))
             have HT17 := Lib.hid (HT16.out.trans t17 (fun _ _ e => e))
             clear x0 x1 x2 x3 x4 x5
             have x0 := HB17.out.cell 0; have x1 := HB17.out.cell 1; have x2 := HB17.out.cell 2; have x3 := HB17.out.cell 3; have x4 := HB17.out.cell 4; have x5 := HB17.out.cell 5; simp at x0 x1 x2 x3 x4 x5
             clear t17)
          | (go_at_call 51; go_must (refine (dboot_no (by exact HN17.out)).mono ?_); rintro e wz ⟨rfl, rfl⟩)
          | (go_at_call 50; go_must (refine (dresize_no (by exact HN17.out) o.n).mono ?_); rintro e wz ⟨rfl, rfl⟩)
          | (go_at_call 36; go_must (refine (ddown_no (by exact HN17.out)).mono ?_); rintro e wz ⟨rfl, rfl⟩)
          | (go_at_call 37; go_must (refine (dfree_no (by exact HN17.out)).mono ?_); rintro e wz ⟨rfl, rfl⟩)
          | (go_at_call 39; go_must (refine (dsteps_no (by exact HN17.out)).mono ?_); rintro e wz ⟨rfl, rfl⟩)
          | (go_at_call 35; go_must (refine (dnames_no (by exact HN17.out)).mono ?_); rintro e wz ⟨rfl, rfl⟩)
          | (go_at_call 42; go_must (refine (dfiles_no (by exact HN17.out)).mono ?_); rintro e v18 ⟨rfl, t18⟩
             have HN18 := Lib.hid (HN17.out.far t18)
             have HB18 := Lib.hid (t18.blk HB17.out (fun e => e))
             have HT18 := Lib.hid (HT17.out.trans t18 (fun _ _ e => e))
             clear x0 x1 x2 x3 x4 x5
             have x0 := HB18.out.cell 0; have x1 := HB18.out.cell 1; have x2 := HB18.out.cell 2; have x3 := HB18.out.cell 3; have x4 := HB18.out.cell 4; have x5 := HB18.out.cell 5; simp at x0 x1 x2 x3 x4 x5
             clear t18))
        go_roundw
        case rel => exact ⟨j + 1, by omega, by go_num, HT18.out⟩
        case measure => simp [intOf]; omega
      · obtain rfl : j = 2 := by omega
        go_wp2_with (first
          | (go_at_call 32; go_must (refine (lives23_any _).mono ?_); rintro e w9 ⟨rfl, t9⟩; have HT9 := Lib.hid t9; clear t9))
        go_ret
        exact ⟨rfl, ((HTb.out.trans HT10.out (fun _ _ e => e)).trans HT9.out (fun _ _ e => e)).below⟩
end Go.Proofs.Ytpgakkpmpnebnaa
