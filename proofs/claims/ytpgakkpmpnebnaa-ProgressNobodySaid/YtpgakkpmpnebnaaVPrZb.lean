/- The walk of ProgressNobody. -/
import Derived.Test.YtpgakkpmpnebnaaVPrZa
namespace Go.Proofs.Ytpgakkpmpnebnaa
open Go.RowKit Go.Maps Prg
set_option maxHeartbeats 4000000
set_option maxRecDepth 100000
set_option linter.unusedVariables false

theorem sound1 {s : Int} (h : 0 ≤ s ∧ s ≤ 6) : Row.soundB [s] = true := (Row.sound_iff _).2 ⟨by simp, by simp, by simp; omega⟩
theorem agreed1 (of : Ln → Nat) {s : Int} (h : 0 ≤ s ∧ s ≤ 6) (own : Nat) : agreedV noneT of [s] s own = own := by
  rw [agreedV, sound1 h]
  simp only [vals, List.map, if_true, great, List.length_cons, List.length_nil]
  by_cases h0 : 0 < own
  · rw [if_pos ⟨by simp [cntGe], h0⟩]
  · rw [if_neg (fun e => h0 e.2)]; omega
theorem live1 {s : Int} (h : 0 ≤ s ∧ s ≤ 6) : liveB noneT [s] s = true := by
  rw [liveB, sound1 h]; simp
theorem walk_ProgressNobody {w : World} (o0 : POpV) (k0 : o0.ok w) (a1 : Int) (k1 : -9223372036854775808 ≤ a1 ∧ a1 ≤ 9223372036854775807) (a2 : Int) (k2 : 0 ≤ a2 ∧ a2 ≤ 18446744073709551615) :
    Calls Try.prog 6 #[.agg o0.cells.toArray, .int .i64 a1, .int .u64 a2] w fun e w' => e = .returned (.bool true) ∧ Below w.heap.size w w' := by
  obtain ⟨own, rfl⟩ := Int.eq_ofNat_of_zero_le k2.1
  have hown : own < 18446744073709551616 := by omega
  clear k2
  obtain ⟨hnd, hn, hll, hrd⟩ := k0
  have HRd := Lib.hid hrd
  obtain ⟨kd, nd, m, ls, A, c⟩ := o0
  simp only [POpV.cells] at hnd hn hll HRd ⊢
  clear hrd
  have HB0 := Lib.hid (Blk.new w 31 #[.int .i64 kd, .int .i64 nd, .int .u64 m, .slice A ls.length c])
  have HLi := Lib.hid (light31_any (fun _ => True) (some ⟨w.heap.size + 1, 0, none⟩) 1 [⟨kd, nd, m, ls, A, c⟩] ((w.alloc (.cells #[.int .i64 kd, .int .i64 nd, .int .u64 m, .slice A ls.length c] 31)).alloc (.cells #[.int .i64 kd, .int .i64 nd, .int .u64 m, .slice A ls.length c] 31))
    ⟨rfl, fun _ => ⟨w.heap.size + 1, 0, rfl, by simp, trivial, fun j u hu => by
      have h := (Blk.new (w.alloc (.cells #[.int .i64 kd, .int .i64 nd, .int .u64 m, .slice A ls.length c] 31)) 31 #[.int .i64 kd, .int .i64 nd, .int .u64 m, .slice A ls.length c]).cell j
      simp only [POpV.cells, List.flatMap_cons, List.flatMap_nil, List.append_nil] at hu
      rw [Nat.zero_add]
      simp only [World.size_alloc] at h
      rw [h]; simpa using hu⟩⟩ (by simp))
  have HT0 := Lib.hid (((Touch.refl (fun _ => False) w).alloc (.cells #[.int .i64 kd, .int .i64 nd, .int .u64 m, .slice A ls.length c] 31)).alloc (.cells #[.int .i64 kd, .int .i64 nd, .int .u64 m, .slice A ls.length c] 31))
  have hlv : lightB31 [⟨kd, nd, m, ls, A, c⟩] = decide (ls.length ≤ 40) := by simp [lightB31, lightO31]
  rw [hlv] at HLi
  simp only [List.length_cons, List.length_nil, Nat.zero_add] at HLi
  clear hlv
  by_cases hlen : ls.length ≤ 40
  case neg =>
    rw [decide_eq_false hlen] at HLi
    clear hlen
    go_enter Try.func6, Try.ntmps6
    go_wp2_with (first
      | (go_at_call 11; go_must (refine HLi.out.mono ?_); rintro e w1 ⟨rfl, t1⟩; have HT := Lib.hid (HT0.out.trans t1 (fun _ _ e => e)); clear t1)
      | (go_at_call 13; go_must (refine (lives31_any _).mono ?_); rintro e w2 ⟨rfl, t2⟩; have HT := Lib.hid (HT.out.trans t2 (fun _ _ e => e)); clear t2))
    go_ret
    exact ⟨rfl, HT.out.below⟩
  rw [decide_eq_true hlen] at HLi
  by_cases h0 : a1 < 0
  · go_enter Try.func6, Try.ntmps6
    go_wp2_with (first
      | (go_at_call 11; go_must (refine HLi.out.mono ?_); rintro e w1 ⟨rfl, t1⟩; have HT := Lib.hid (HT0.out.trans t1 (fun _ _ e => e)); clear t1)
      | (go_at_call 13; go_must (refine (lives31_any _).mono ?_); rintro e w2 ⟨rfl, t2⟩; have HT := Lib.hid (HT.out.trans t2 (fun _ _ e => e)); clear t2))
    go_ret
    exact ⟨rfl, HT.out.below⟩
  by_cases h6 : 6 < a1
  · go_enter Try.func6, Try.ntmps6
    go_wp2_with (first
      | (go_at_call 11; go_must (refine HLi.out.mono ?_); rintro e w1 ⟨rfl, t1⟩; have HT := Lib.hid (HT0.out.trans t1 (fun _ _ e => e)); clear t1)
      | (go_at_call 13; go_must (refine (lives31_any _).mono ?_); rintro e w2 ⟨rfl, t2⟩; have HT := Lib.hid (HT.out.trans t2 (fun _ _ e => e)); clear t2))
    go_ret
    exact ⟨rfl, HT.out.below⟩
  have h06 : 0 ≤ a1 ∧ a1 ≤ 6 := by omega
  have HAm := Lib.hid (agreed1 Ln.m h06 own)
  have HAr := Lib.hid (agreed1 Ln.r h06 own)
  have HL1 := Lib.hid (live1 h06)
  go_enter Try.func6, Try.ntmps6
  go_wp2_with (go_at_call 11; go_must (refine HLi.out.mono ?_); rintro e w1 ⟨rfl, t1⟩; have HT1 := Lib.hid (HT0.out.trans t1 (fun _ _ e => e)); have HB1 := Lib.hid (t1.blk (HB0.out.alloc (.cells #[.int .i64 kd, .int .i64 nd, .int .u64 m, .slice A ls.length c] 31)) (fun e => e)); clear t1)
  have HG0 := Lib.hid ((Blk.new w1 54 #[.map none]).alloc (.cells #[.pointer none, .pointer (some ⟨w1.heap.size, 0, none⟩)] 28))
  have HS0 := Lib.hid (show Blk ((w1.alloc (.cells #[.map none] 54)).alloc (.cells #[.pointer none, .pointer (some ⟨w1.heap.size, 0, none⟩)] 28)) (w1.heap.size + 1) 28 #[.pointer none, .pointer (some ⟨w1.heap.size, 0, none⟩)] by simpa using Blk.new (w1.alloc (.cells #[.map none] 54)) 28 #[.pointer none, .pointer (some ⟨w1.heap.size, 0, none⟩)])
  have HTt := Lib.hid (((Touch.refl (fun _ => False) w1).alloc (.cells #[.map none] 54)).alloc (.cells #[.pointer none, .pointer (some ⟨w1.heap.size, 0, none⟩)] 28))
  go_loopw [9, 10, 11, 30] (fun _ _ _ i wr => ∃ j : Nat, j ≤ 2 ∧ i = .int .i64 j ∧ Touch (fun _ => False) w wr ∧ Blk wr w.heap.size 31 #[.int .i64 kd, .int .i64 nd, .int .u64 m, .slice A ls.length c] ∧ Blk wr w1.heap.size 54 #[.map none] ∧ Blk wr (w1.heap.size + 1) 28 #[.pointer none, .pointer (some ⟨w1.heap.size, 0, none⟩)]) (fun _ _ _ i _ => 2 - (intOf i).toNat)
  case atStart => exact ⟨0, by omega, rfl, HT1.out.trans HTt.out (fun _ _ e => e), HTt.out.blk HB1.out (fun e => e), HG0.out, HS0.out⟩
  case round =>
    clear HT1 HTt HB1 HG0 HS0 HT0 HB0 HLi
    obtain ⟨j, hj, rfl, hT, hB, hG, hS⟩ := hrel
    have HT := Lib.hid hT
    have HB := Lib.hid hB
    have HG := Lib.hid hG
    have HS := Lib.hid hS
    clear hT hB hG hS
    by_cases hj2 : j < 2
    · obtain ⟨v, hv, hnv⟩ : ∃ v, wr.cell? ⟨w1.heap.size + 1, j, none⟩ = some v ∧ NoTb v wr := by
        rw [HS.out.cell j]
        rcases (show j = 0 ∨ j = 1 by omega) with rfl | rfl
        · exact ⟨_, rfl, .inl rfl⟩
        · exact ⟨_, rfl, .inr ⟨_, rfl, HG.out⟩⟩
      have HV := Lib.hid hnv
      obtain ⟨p0a, p0b, p0c, p0d⟩ := HB.out.c4
      clear hnv
      go_wp2_with (first
            | (go_at_call 18; go_must (refine (noLine_any v nd _ HV.out hnd).mono ?_); rintro e w2 ⟨rfl, t2⟩
               have HT2 := Lib.hid (t2.alloc (.cells #[.int .u64 0, .int .u64 0, .int .u64 0, .bool false] 43))
               obtain ⟨p2a, p2b, p2c, p2d⟩ := (HT2.out.blk HB.out (fun e => e)).c4
               clear t2)
            | (go_at_call 24; go_must (refine (noNodes_any v _ (by exact HV.out.none_ HT2.out)).mono ?_); rintro e w3 ⟨⟨AN, cN, rfl⟩, t3⟩
               have HT3 := Lib.hid (HT2.out.trans t3 (fun _ _ e => e))
               obtain ⟨p3a, p3b, p3c, p3d⟩ := (HT3.out.blk HB.out (fun e => e)).c4
               clear t3)
            | (go_at_call 25; go_must (refine (noTook_any v nd m _ (by exact HV.out.none_ HT3.out) hnd).mono ?_); rintro e w4 ⟨rfl, t4⟩
               have HT4 := Lib.hid (HT3.out.trans t4 (fun _ _ e => e))
               obtain ⟨p4a, p4b, p4c, p4d⟩ := (HT4.out.blk HB.out (fun e => e)).c4
               clear t4)
            | (go_at_call 26; go_must (refine (noRefused_any v nd m _ (by exact HV.out.none_ HT4.out) hnd).mono ?_); rintro e w5 ⟨rfl, t5⟩
               have HT5 := Lib.hid (HT4.out.trans t5 (fun _ _ e => e))
               obtain ⟨p5a, p5b, p5c, p5d⟩ := (HT5.out.blk HB.out (fun e => e)).c4
               clear t5)
            | (go_at_call 27; go_must (refine (noHeard_any v nd m _ (by exact HV.out.none_ HT5.out) hnd).mono ?_); rintro e w6 ⟨rfl, t6⟩
               have HT6 := Lib.hid (HT5.out.trans t6 (fun _ _ e => e))
               obtain ⟨p6a, p6b, p6c, p6d⟩ := (HT6.out.blk HB.out (fun e => e)).c4
               clear t6)
            | (go_at_call 28; go_must (refine (noSet_any v A ls.length c m _ (by exact HV.out.none_ HT6.out)).mono ?_); rintro e w7 ⟨rfl, t7⟩
               have HT7 := Lib.hid (HT6.out.trans t7 (fun _ _ e => e))
               have HA7 := Lib.hid (HT7.out.alloc (.cells #[.int .i64 a1] 3))
               clear t7)
            | (go_at_call 16; have M9 := HT10; go_must (refine (pagreed_any (fun _ => True) none 0 [] v noneT noneT_ok a1 k1 own hown _ (Rd.nil _ _ _) (by simp) (by exact (HV.out.none_ HT10.out).lineC)).mono ?_); rintro e w11 ⟨rfl, t11⟩
               have HT11 := Lib.hid (HT10.out.trans t11 (fun _ _ e => e))
               clear t11)
            | (go_at_call 16; go_must (refine (pagreed_any _ _ 1 [a1] v noneT noneT_ok a1 k1 own hown _ (by exact Rd.lit4 w7 3 [I64 a1] 1 rfl) (by simp) (by exact (HV.out.none_ HA7.out).lineC)).mono ?_); rw [HAm.out]; rintro e w8 ⟨rfl, t8⟩
               have HT8 := Lib.hid (HA7.out.trans t8 (fun _ _ e => e))
               have HA8 := Lib.hid (HT8.out.alloc (.cells #[.int .i64 a1] 3))
               clear t8)
            | (go_at_call 22; go_must (refine (panswered_any _ _ 1 [a1] v noneT noneT_ok a1 k1 own hown _ (by exact Rd.lit4 w8 3 [I64 a1] 1 rfl) (by simp) (by exact (HV.out.none_ HA8.out).lineC)).mono ?_); rw [HAr.out]; rintro e w9 ⟨rfl, t9⟩
               have HT9 := Lib.hid (HA8.out.trans t9 (fun _ _ e => e))
               have HA9 := Lib.hid (HT9.out.alloc (.cells #[.int .i64 a1] 3))
               clear t9)
            | (go_at_call 29; have M9 := HT11; go_must (refine (noLive_any (fun _ => True) none 0 [] v a1 _ (by exact HV.out.none_ HT11.out) (Rd.nil _ _ _) (by simp)).mono ?_); rw [show liveB noneT [] a1 = false from rfl]; rintro e w12 ⟨rfl, t12⟩
               have HT12 := Lib.hid (HT11.out.trans t12 (fun _ _ e => e))
               clear t12)
            | (go_at_call 29; go_must (refine (noLive_any _ _ 1 [a1] v a1 _ (by exact HV.out.none_ HA9.out) (by exact Rd.lit4 w9 3 [I64 a1] 1 rfl) (by simp)).mono ?_); rw [HL1.out]; rintro e w10 ⟨rfl, t10⟩
               have HT10 := Lib.hid (HA9.out.trans t10 (fun _ _ e => e))
               clear t10))
      go_roundw
      case rel => exact ⟨j + 1, by omega, by go_num, HT.out.trans HT12.out (fun _ _ e => e), HT12.out.blk HB.out (fun e => e), HT12.out.blk HG.out (fun e => e), HT12.out.blk HS.out (fun e => e)⟩
      case measure => simp [intOf]; omega
    · obtain rfl : j = 2 := by omega
      go_wp2_with (go_at_call 13; go_must (refine (lives31_any _).mono ?_); rintro e w6 ⟨rfl, t6⟩; have HT6 := Lib.hid (HT.out.trans t6 (fun _ _ e => e)); clear t6)
      go_ret
      exact ⟨rfl, HT6.out.below⟩
end Go.Proofs.Ytpgakkpmpnebnaa
