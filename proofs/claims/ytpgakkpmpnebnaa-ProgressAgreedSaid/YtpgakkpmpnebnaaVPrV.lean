/- The reference's progress: Refused. (written by genpr.py) -/
import Derived.Test.YtpgakkpmpnebnaaVPrU
import Derived.Test.YtpgakkpmpnebnaaPlan
namespace Go.Proofs.Ytpgakkpmpnebnaa
open Go.RowKit Prg
set_option maxHeartbeats 4000000
set_option maxRecDepth 100000
set_option linter.unusedVariables false
attribute [local irreducible] wpPlan

theorem frefused_any (t : Tb) (ok : t.Ok) (n : Int) (hn : inI n) (i : Nat) (hi : i < 18446744073709551616) (w : World) :
    Calls Try.prog 54 #[.agg (refT t), .int .i64 n, .int .u64 i] w (ROp (refusedT t n i) (refusedR t n i) w) := by
  have HW := Lib.hid (TbW.new w (refT t))
  have HI := Lib.hid (fun w1 => fis_any t ok n hn w1)
  have HN := Lib.hid (refT_size t)
  have H1 := Lib.hid (refT_one t)
  cases ht : t n with
  | none =>
    have HV := Lib.hid (show refusedT t n i = t ∧ refusedR t n i = false by rw [refusedT, refusedR, ht]; exact ⟨rfl, rfl⟩)
    rw [HV.out.1, HV.out.2]
    rw [show (t n).isSome = false by rw [ht]; rfl] at HI
    clear HV ht ok
    unfold ROp
    generalize refT t = C at *
    go_enter Try.func54, Try.ntmps54
    go_wp2_with (first
      | ((with_reducible apply HW.out.load HN.out); exact rfl; exact rfl; exact rfl)
      | (go_at_call 98; go_must (refine (HI.out _).mono ?_); rintro e w1 ⟨rfl, t1⟩
         have HW1 := Lib.hid (HW.out.none_ t1)
         clear t1)
      | ((with_reducible apply HW1.out.load HN.out); exact rfl; exact rfl; exact rfl)
      | ((with_reducible apply HW1.out.store HN.out H1.out); exact rfl; exact rfl; exact rfl; exact rfl; intro w2 hb2 t2; have HB2 := Lib.hid hb2; have HT2 := Lib.hid t2; clear hb2 t2))
    refine bodyPost_ret (results_cell2 6 7 rowTb HN.out (HB2.out.whole) rfl rfl) rfl ⟨?_, HT2.out⟩
    rfl
  | some x =>
    have hk := ok n x ht
    obtain ⟨k, rfl⟩ := Int.eq_ofNat_of_zero_le hk.1
    have hk7 : k < 7 := by omega
    have hxo := hk.2.2
    have hsm : (t (k : Int)).isSome = true := by rw [ht]; rfl
    have hl : lineV t (k : Int) = x := by rw [lineV, ht]; rfl
    have hR := refT_line t hk7
    rw [hl] at hR
    rw [hsm] at HI
    have HV := Lib.hid (show refusedT t (k : Int) i = putT t k (refused x i) ∧ refusedR t (k : Int) i = refusedB x i by rw [refusedT, refusedR, ht]; exact ⟨rfl, rfl⟩)
    have hP := refT_set t hk7 (refused x i) hsm
    have HN2 := Lib.hid (refT_size (putT t k (refused x i)))
    have H12 := Lib.hid (refT_one (putT t k (refused x i)))
    rw [HV.out.1, HV.out.2]
    unfold ROp
    generalize refT (putT t k (refused x i)) = D at *
    generalize refT t = C at *
    clear HV ht hsm ok hl
    obtain ⟨m, q, r, a⟩ := x
    have h1 := hxo.m; have h2 := hxo.n; have h3 := hxo.up
    simp only at h1 h2 h3
    have HR := Lib.hid hR
    simp only [refusedB]
    clear hR hxo
    have hwr : IntKind.u64.wrap ((m : Int) + 1) = (m : Int) + 1 := IntWalk.u64_in _ (by omega)
    rcases Nat.lt_or_ge i q with hq | hq
    · rcases Nat.lt_or_ge i m with hm | hm
      · have hrn : refN ⟨m, q, r, a⟩ i = m + 1 := by unfold refN; split <;> simp only at * <;> omega
        rw [show refused ⟨m, q, r, a⟩ i = ⟨m, m + 1, r, a⟩ by simp only [refused, hrn]] at hP
        rw [hrn]
        have HP := Lib.hid (show setAll C (7 + k * 4) [.int .u64 (m : Int), .int .u64 ((m : Int) + 1), .int .u64 r, .bool a] = D from hP)
        have HX := Lib.hid (show (((m : Int) + 1) != (q : Int)) = ((m + 1 : Nat) != q) by rw [Bool.eq_iff_iff]; simp <;> omega)
        have hq' : (i : Int) < q := by omega
        have hm' : (i : Int) + 1 ≤ m := by omega
        have hwi : IntKind.u64.wrap ((i : Int) + 1) = (i : Int) + 1 := IntWalk.u64_in _ (by omega)
        clear hP hrn hi h1 h2 h3 hn
        go_enter Try.func54, Try.ntmps54
        go_wp2_with (first
            | ((with_reducible apply HW.out.load HN.out); exact rfl; exact rfl; exact rfl)
            | (go_at_call 98; go_must (refine (HI.out _).mono ?_); rintro e w1 ⟨rfl, t1⟩
               have HW1 := Lib.hid (HW.out.none_ t1)
               clear t1)
            | ((with_reducible apply HW1.out.line k rfl HR.out); exact rfl; exact rfl; exact rfl)
            | ((with_reducible apply TbW.put (L := #[.int .u64 (m : Int), .int .u64 ((m : Int) + 1), .int .u64 r, .bool a]) (HW1.out.none_ ((Touch.refl _ _).alloc _)) HN.out k hk7 rfl (lnC_one ⟨_, _, _, _⟩) HP.out); exact rfl; exact rfl; exact rfl; exact rfl; intro w3 hw3 t3; have HW3 := Lib.hid hw3; have HT3 := Lib.hid t3; clear hw3 t3))
        have hz1 := HW1.out.lt
        have HL3 := Lib.hid (show Blk w3 w1.heap.size 34 #[.int .u64 (m : Int), .int .u64 ((m : Int) + 1), .int .u64 r, .bool a] from HT3.out.blk (Blk.new w1 _ _) (by omega))
        have HD := Lib.hid HW3.out.drew
        have hS : ¬ (w.heap.size = w.heap.size + 1) := by omega
        refine wp_region_plan [(1, 0), (1, 1), (1, 2), (1, 3), (1, 4), (2, 5), (0, 6)] (fun q => q = w.heap.size + 1) (by kernel_rfl) (by kernel_rfl) (fun c a d v w h => by cases d <;> exact h) ?_
        ((with_reducible apply HD.out.hold HN2.out hS); exact rfl; exact rfl; exact rfl; exact rfl; go_frame)
        iterate 4
          apply plan_h
          · rfl
          · rfl
          · intro wh hT
            have hf0 := show wh.cell? ⟨w1.heap.size, 1, none⟩ = some (.int .u64 ((m : Int) + 1)) from (hT.blk (HL3.out.drewN 0) (by omega)).cell 1
            go_simp
            try rfl
          go_frame
        ((with_reducible apply HD.out.alone (T := fun q => q = w.heap.size + 1) HN2.out H12.out rfl); exact rfl; exact rfl; exact rfl; exact rfl; exact rfl; intro w2 hb2 t2; have HB2 := Lib.hid hb2; have HT2 := Lib.hid t2; clear hb2 t2)
        iterate 1
          refine plan_s1 rfl (by rfl) (fun Kc hKc => ?_)
          go_simp
          first
            | (refine hKc _ ?_)
          clear hKc Kc
        refine plan_done ?_
        go_wp2_with fail
        refine bodyPost_ret (results_cell2 6 7 rowTb HN2.out (HB2.out.whole) rfl rfl) rfl ⟨?_, HT2.out⟩
        first
          | exact congrArg (fun b => Ending.returned (.tuple #[.agg D, .bool b])) HX.out
          | simp
      · have hrn : refN ⟨m, q, r, a⟩ i = i + 1 := by unfold refN; split <;> simp only at * <;> omega
        rw [show refused ⟨m, q, r, a⟩ i = ⟨m, i + 1, r, a⟩ by simp only [refused, hrn]] at hP
        rw [hrn]
        have HP := Lib.hid (show setAll C (7 + k * 4) [.int .u64 (m : Int), .int .u64 ((i : Int) + 1), .int .u64 r, .bool a] = D from hP)
        have HX := Lib.hid (show (((i : Int) + 1) != (q : Int)) = ((i + 1 : Nat) != q) by rw [Bool.eq_iff_iff]; simp <;> omega)
        have hq' : (i : Int) < q := by omega
        have hm' : ¬ (i : Int) + 1 ≤ m := by omega
        have hwi : IntKind.u64.wrap ((i : Int) + 1) = (i : Int) + 1 := IntWalk.u64_in _ (by omega)
        clear hP hrn hi h1 h2 h3 hn
        go_enter Try.func54, Try.ntmps54
        go_wp2_with (first
            | ((with_reducible apply HW.out.load HN.out); exact rfl; exact rfl; exact rfl)
            | (go_at_call 98; go_must (refine (HI.out _).mono ?_); rintro e w1 ⟨rfl, t1⟩
               have HW1 := Lib.hid (HW.out.none_ t1)
               clear t1)
            | ((with_reducible apply HW1.out.line k rfl HR.out); exact rfl; exact rfl; exact rfl)
            | ((with_reducible apply TbW.put (L := #[.int .u64 (m : Int), .int .u64 ((i : Int) + 1), .int .u64 r, .bool a]) (HW1.out.none_ ((Touch.refl _ _).alloc _)) HN.out k hk7 rfl (lnC_one ⟨_, _, _, _⟩) HP.out); exact rfl; exact rfl; exact rfl; exact rfl; intro w3 hw3 t3; have HW3 := Lib.hid hw3; have HT3 := Lib.hid t3; clear hw3 t3))
        have hz1 := HW1.out.lt
        have HL3 := Lib.hid (show Blk w3 w1.heap.size 34 #[.int .u64 (m : Int), .int .u64 ((i : Int) + 1), .int .u64 r, .bool a] from HT3.out.blk (Blk.new w1 _ _) (by omega))
        have HD := Lib.hid HW3.out.drew
        have hS : ¬ (w.heap.size = w.heap.size + 1) := by omega
        refine wp_region_plan [(1, 0), (1, 1), (1, 2), (1, 3), (1, 4), (2, 5), (0, 6)] (fun q => q = w.heap.size + 1) (by kernel_rfl) (by kernel_rfl) (fun c a d v w h => by cases d <;> exact h) ?_
        ((with_reducible apply HD.out.hold HN2.out hS); exact rfl; exact rfl; exact rfl; exact rfl; go_frame)
        iterate 4
          apply plan_h
          · rfl
          · rfl
          · intro wh hT
            have hf0 := show wh.cell? ⟨w1.heap.size, 1, none⟩ = some (.int .u64 ((i : Int) + 1)) from (hT.blk (HL3.out.drewN 0) (by omega)).cell 1
            go_simp
            try rfl
          go_frame
        ((with_reducible apply HD.out.alone (T := fun q => q = w.heap.size + 1) HN2.out H12.out rfl); exact rfl; exact rfl; exact rfl; exact rfl; exact rfl; intro w2 hb2 t2; have HB2 := Lib.hid hb2; have HT2 := Lib.hid t2; clear hb2 t2)
        iterate 1
          refine plan_s1 rfl (by rfl) (fun Kc hKc => ?_)
          go_simp
          first
            | (refine hKc _ ?_)
          clear hKc Kc
        refine plan_done ?_
        go_wp2_with fail
        refine bodyPost_ret (results_cell2 6 7 rowTb HN2.out (HB2.out.whole) rfl rfl) rfl ⟨?_, HT2.out⟩
        first
          | exact congrArg (fun b => Ending.returned (.tuple #[.agg D, .bool b])) HX.out
          | simp
    · have hrn : refN ⟨m, q, r, a⟩ i = q := by unfold refN; split <;> simp only at * <;> omega
      rw [show refused ⟨m, q, r, a⟩ i = ⟨m, q, r, a⟩ by simp only [refused, hrn]] at hP
      rw [hrn]
      have HP := Lib.hid (show setAll C (7 + k * 4) [.int .u64 (m : Int), .int .u64 ((q : Int)), .int .u64 r, .bool a] = D from hP)
      have HX := Lib.hid (show (((q : Int)) != (q : Int)) = ((q : Nat) != q) by rw [Bool.eq_iff_iff]; simp <;> omega)
      have hq' : ¬ (i : Int) < q := by omega
      have hm' : ¬ (q : Int) ≤ m := by omega
      clear hP hrn hi h1 h2 h3 hn
      go_enter Try.func54, Try.ntmps54
      go_wp2_with (first
          | ((with_reducible apply HW.out.load HN.out); exact rfl; exact rfl; exact rfl)
          | (go_at_call 98; go_must (refine (HI.out _).mono ?_); rintro e w1 ⟨rfl, t1⟩
             have HW1 := Lib.hid (HW.out.none_ t1)
             clear t1)
          | ((with_reducible apply HW1.out.line k rfl HR.out); exact rfl; exact rfl; exact rfl)
          | ((with_reducible apply TbW.put (L := #[.int .u64 (m : Int), .int .u64 ((q : Int)), .int .u64 r, .bool a]) (HW1.out.none_ ((Touch.refl _ _).alloc _)) HN.out k hk7 rfl (lnC_one ⟨_, _, _, _⟩) HP.out); exact rfl; exact rfl; exact rfl; exact rfl; intro w3 hw3 t3; have HW3 := Lib.hid hw3; have HT3 := Lib.hid t3; clear hw3 t3))
      have hz1 := HW1.out.lt
      have HL3 := Lib.hid (show Blk w3 w1.heap.size 34 #[.int .u64 (m : Int), .int .u64 ((q : Int)), .int .u64 r, .bool a] from HT3.out.blk (Blk.new w1 _ _) (by omega))
      have HD := Lib.hid HW3.out.drew
      have hS : ¬ (w.heap.size = w.heap.size + 1) := by omega
      refine wp_region_plan [(1, 0), (1, 1), (1, 2), (1, 3), (1, 4), (2, 5), (0, 6)] (fun q => q = w.heap.size + 1) (by kernel_rfl) (by kernel_rfl) (fun c a d v w h => by cases d <;> exact h) ?_
      ((with_reducible apply HD.out.hold HN2.out hS); exact rfl; exact rfl; exact rfl; exact rfl; go_frame)
      iterate 4
        apply plan_h
        · rfl
        · rfl
        · intro wh hT
          have hf0 := show wh.cell? ⟨w1.heap.size, 1, none⟩ = some (.int .u64 ((q : Int))) from (hT.blk (HL3.out.drewN 0) (by omega)).cell 1
          go_simp
          try rfl
        go_frame
      ((with_reducible apply HD.out.alone (T := fun q => q = w.heap.size + 1) HN2.out H12.out rfl); exact rfl; exact rfl; exact rfl; exact rfl; exact rfl; intro w2 hb2 t2; have HB2 := Lib.hid hb2; have HT2 := Lib.hid t2; clear hb2 t2)
      iterate 1
        refine plan_s1 rfl (by rfl) (fun Kc hKc => ?_)
        go_simp
        first
          | (refine hKc _ ?_)
        clear hKc Kc
      refine plan_done ?_
      go_wp2_with fail
      refine bodyPost_ret (results_cell2 6 7 rowTb HN2.out (HB2.out.whole) rfl rfl) rfl ⟨?_, HT2.out⟩
      first
        | exact congrArg (fun b => Ending.returned (.tuple #[.agg D, .bool b])) HX.out
        | simp
end Go.Proofs.Ytpgakkpmpnebnaa
