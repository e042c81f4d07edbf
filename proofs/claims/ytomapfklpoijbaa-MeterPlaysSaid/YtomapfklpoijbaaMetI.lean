/- The walk of MeterPlays. -/
import Derived.Test.YtomapfklpoijbaaMetH
namespace Go.Proofs.Ytomapfklpoijbaa
open Go.RowKit Go.ChangeShapes Go.WideShapes Go.Deep
set_option maxHeartbeats 4000000
set_option maxRecDepth 100000
set_option linter.unusedVariables false

structure MOpV where
  kind : Int
  i : Int
  n : Nat
def MOpV.cells (a : MOpV) : List Value := [.int .i64 a.kind, .int .i64 a.i, .int .u64 a.n]
theorem elem_mop {H : Type} {enc : TypeId × Value → H} {w : World} {spare : Nat → Bool} {held : Bool} {fuel : Nat} {cs : List Value} {x : DataW H × List MemPlace}
    (h : DataW.trod enc Try.prog w 0 spare held fuel 60 cs = some x) : ∃ a : MOpV, cs = a.cells ∧ True := by
  obtain ⟨hl, hf⟩ := struct_cells Try.underlying60 (by kernel_rfl) (by kernel_rfl) h
  match cs, hl with
  | [c0, c1, c2], _ =>
    obtain ⟨v0, n0, y0, e0, h0⟩ := hf 0 _ rfl
    obtain ⟨v1, n1, y1, e1, h1⟩ := hf 1 _ rfl
    obtain ⟨v2, n2, y2, e2, h2⟩ := hf 2 _ rfl
    simp at e0 e1 e2
    subst e0 e1 e2
    obtain ⟨k0, e0, _, w0⟩ := DataW.trod_int Try.underlying3 h0
    obtain ⟨k1, e1, _, w1⟩ := DataW.trod_int Try.underlying3 h1
    obtain ⟨k2, e2, _, w2⟩ := DataW.trod_int Try.underlying29 h2
    simp at e0 e1 e2
    subst e0 e1 e2
    have b2 : 0 ≤ k2 := by simp [Lit.wf, IntKind.min, IntKind.max, IntKind.signed, IntKind.bits] at w2; omega
    exact ⟨⟨k0, k1, k2.toNat⟩, by simp [MOpV.cells]; omega, trivial⟩
theorem made_U64 (n : Nat) : (madeCells (Value.int .u64 0).cells (n * 1)).toList = (List.replicate n 0).map U64 := by
  rw [List.map_replicate, Nat.mul_one]
  simp only [madeCells, Value.cells, Array.toList_map, Array.toList_range]
  rw [List.eq_replicate_iff]
  refine ⟨by simp, ?_⟩
  intro b hb
  obtain ⟨x, _, rfl⟩ := List.mem_map.1 hb
  rw [show x % #[Value.int .u64 0].size = 0 from Nat.mod_one x]
  rfl

theorem walk_MeterPlays {w : World} (a0 : Int) (k0 : -9223372036854775808 ≤ a0 ∧ a0 ≤ 9223372036854775807)
    (A1 : Option Addr) (n1 c1 : Nat) (l1 : List MOpV) (e1 : l1.length = n1) (o1 : ∀ x ∈ l1, True) (z1 : ∀ a ∈ l1, a.cells.length = 3) (g1 : A1 = none → c1 = 0) (u1 : n1 ≤ c1) (m1 : c1 ≤ maxLen) (s1 : RdZ w (fun k => k < w.heap.size) 3 A1 n1 (l1.flatMap MOpV.cells)) :
    Calls Try.prog 6 #[.int .i64 a0, .slice A1 n1 c1] w fun e w' => e = .returned (.bool true) ∧ Below w.heap.size w w' := by
  subst e1
  have HS1 := Lib.hid s1
  have HZ1 := Lib.hid z1
  clear o1 z1 g1 u1 m1 s1 k0
  by_cases hlo : a0 < 1
  · go_enter Try.func6, Try.ntmps6
    go_wp2_with (go_at_call 24; go_must (refine (lives05_any _).mono ?_); rintro e w1 ⟨rfl, t1⟩; have HT := Lib.hid t1; clear t1)
    go_ret
    exact ⟨rfl, HT.out.below⟩
  by_cases hhi : 16 < a0
  · go_enter Try.func6, Try.ntmps6
    go_wp2_with (go_at_call 24; go_must (refine (lives05_any _).mono ?_); rintro e w1 ⟨rfl, t1⟩; have HT := Lib.hid t1; clear t1)
    go_ret
    exact ⟨rfl, HT.out.below⟩
  by_cases hbig : 200 < (l1.length : Int)
  · go_enter Try.func6, Try.ntmps6
    go_wp2_with (go_at_call 24; go_must (refine (lives05_any _).mono ?_); rintro e w1 ⟨rfl, t1⟩; have HT := Lib.hid t1; clear t1)
    go_ret
    exact ⟨rfl, HT.out.below⟩
  obtain ⟨n, rfl⟩ := Int.eq_ofNat_of_zero_le (show 0 ≤ a0 by omega)
  have hn1 : 1 ≤ n := by omega
  have hn16 : n ≤ 16 := by omega
  have hll : l1.length ≤ 200 := by omega
  obtain ⟨i0, hi, hz0, hz1, hz2⟩ := info_parts infoU
  go_enter Try.func6, Try.ntmps6
  go_wp2_with (first
    | (go_at_call 25; go_must (refine (mnew_ok n w hn1 hn16).mono ?_); rintro e w1 ⟨rfl, hm, t1⟩; have HM := Lib.hid hm; have HT := Lib.hid t1; clear hm t1)
    | (refine wpList_make_full _ rfl _ _ 33 rfl 0 29 i0 (.int .u64 0) 1 Try.underlying33 hi hz0 hz1 .i64 .i64 n n n rfl rfl rfl rfl (by rw [hz2]; omega) (by simp only [maxLen]; omega) (Nat.zero_le _) ?_
       intro w2 hown hgr
       have HO := Lib.hid (Own.of_owns hown)
       have HG := Lib.hid hgr
       clear hown hgr))
  have HT2 := Lib.hid (HT.out.trans (Touch.of_grown HG.out) (fun q hq e => by cases e))
  have hs1 := HT.out.size
  have hml := HM.out.2.2.lt
  have tg := Touch.of_grown HG.out
  have HM2 := Lib.hid (HM.out.touch tg (by simp))
  have hR2 : Ref w2 w.heap.size (some ⟨w1.heap.size, 0, none⟩) n (List.replicate n 0) := by
    have ho := HO.out
    rw [made_U64] at ho
    obtain ⟨A2, c2, hv2, q1, q2, qA, hr2⟩ := ho.rd
    injection hv2 with e1 e2 e3
    subst e1 e3
    refine ⟨qA, ?_, ?_, by simpa using hn16, Nat.lt_of_lt_of_le hml tg.size⟩
    · rw [List.length_replicate]; exact hr2.mono fun q hq => by injection hq with hq; omega
    · intro v hv; rw [List.mem_replicate] at hv; omega
  have HR2 := Lib.hid hR2
  clear tg hR2
  go_loopw [6, 32] (fun v i wr => ∃ j : Nat, j ≤ l1.length ∧ i = .int .i64 j ∧ (∃ A c, ∃ cs : List Nat, v = .slice A n c ∧ cs.length = n ∧ MAt wr w.heap.size cs ∧ Ref wr w.heap.size A c cs) ∧ Touch (fun _ => False) w wr) (fun _ i _ => l1.length - (intOf i).toNat)
  case atStart => exact ⟨0, by omega, rfl, ⟨_, n, List.replicate n 0, rfl, by simp, HM2.out, HR2.out⟩, HT2.out⟩
  case round =>
    obtain ⟨j, hj, rfl, hR, hT⟩ := hrel
    have HT := Lib.hid hT
    obtain ⟨A, c, cs, rfl, hcl, hm, hrf⟩ := hR
    subst hcl
    have HM := Lib.hid hm
    have HR := Lib.hid hrf
    clear hm hrf
    by_cases hjk : j < l1.length
    · have ha : l1[j]? = some (l1[j]'hjk) := List.getElem?_eq_getElem _
      obtain ⟨a, off, rfl, _, _, hc⟩ := (HS1.out.touch hT (fun _ _ e => e)).at_ HZ1.out rfl ha
      generalize l1[j]'hjk = x at *
      have q0 := hc 0 _ rfl
      have q1 := hc 1 _ rfl
      have q2 := hc 2 _ rfl
      simp only [Nat.add_zero, ← Nat.add_assoc] at q0 q1 q2
      obtain ⟨K, I, x⟩ := x
      simp only at q0 q1 q2
      clear hc ha hT
      have HTA := Lib.hid ((Touch.refl (fun _ => False) wr).alloc (.cells #[.int .i64 K, .int .i64 I, .int .u64 x] 60))
      have HD := Lib.hid (do_any w.heap.size x A c cs K I _ (HM.out.touch HTA.out (fun e => e)) (HR.out.touch0 HTA.out) (by omega))
      go_wp2_with (first
        | (go_at_call 28; go_must (refine HD.out.mono ?_); rintro e w3 ⟨A3, c3, ds, rfl, hdl, hm3, hr3, t3⟩
           have HM3 := Lib.hid hm3
           have HR3 := Lib.hid hr3
           have HT3 := Lib.hid ((HT.out.trans HTA.out (fun _ _ e => e)).trans t3 (fun q hq e => by omega))
           have HAl := Lib.hid (mall_any w.heap.size ds w3 hm3)
           have HDL := Lib.hid hdl
           clear hm3 hr3 t3 hdl)
        | (go_at_call 29; go_must (refine HAl.out.mono ?_); rintro e w4 ⟨A4, c4, rfl, q1', q2', hr4, t4⟩; rw [List.length_map, HDL.out] at q1' hr4 ⊢
           have HR4 := Lib.hid hr4
           have HM4 := Lib.hid (HM3.out.touch t4 (fun e => e))
           have HRf4 := Lib.hid (HR3.out.touch0 t4)
           have HT4 := Lib.hid (HT3.out.trans t4 (fun _ _ e => e))
           clear q1' q2' hr4 t4))
      go_loopw [12, 56] (fun v i w5 => ∃ k : Nat, k ≤ cs.length ∧ i = .int .i64 k ∧ v = .int .u64 (sumM (ds.take k) : Nat) ∧ Touch (fun _ => False) w4 w5) (fun _ i _ => cs.length - (intOf i).toNat)
      case atStart => exact ⟨0, by omega, rfl, rfl, Touch.refl _ _⟩
      case round =>
        obtain ⟨k, hk, rfl, rfl, hT5⟩ := hrel
        have HT5 := Lib.hid hT5
        clear hT5
        by_cases hkd' : k < cs.length
        · have hkd : k < ds.length := by have := HDL.out; omega
          obtain ⟨a4, off4, rfl, _, _, hc4⟩ := (HR4.out.touch HT5.out (fun _ _ e => e)).2 (by omega)
          have hck4 := hc4 k _ (get_U64 hkd)
          simp only [U64] at hck4
          obtain ⟨a3, off3, rfl, _, hck3, _⟩ := (HRf4.out.touch0 HT5.out).at_ hkd
          have HE := Lib.hid (sumM_take ds k hkd)
          have hsl := sumM_lt (ds.take k)
          generalize ds.getD k 0 = v at *
          generalize sumM (ds.take k) = s at *
          have hw : IntKind.u64.wrap ((s : Int) + (v : Int)) = (((s + v) % 18446744073709551616 : Nat) : Int) := by rw [IntKind.wrap_u64]; omega
          clear hc4 hkd
          go_wp2_with fail
          refine wp_region_plan [(0, 0), (0, 1), (0, 2), (0, 3), (0, 4), (0, 5), (0, 6), (0, 7), (0, 8)] (fun _ => False) (by kernel_rfl) (by kernel_rfl) (fun c a d v w h => by cases d <;> exact h) ?_
          iterate 9
            first
              | (refine plan_s1 rfl (by rfl) (fun Kc hKc => ?_)
                 go_simp
                 first
                   | (refine hKc _ ?_)
                 clear hKc Kc)
              | (refine plan_s0 rfl (by rfl) ?_; go_frame)
          refine plan_done ?_
          go_wp2
          go_roundw
          case rel => exact ⟨k + 1, by omega, by go_num, by rw [HE.out]; rfl, HT5.out.drew⟩
          case measure => simp [intOf]; omega
        · obtain rfl : k = cs.length := by omega
          have HE := Lib.hid (show sumM (ds.take cs.length) = sumM ds by rw [← HDL.out, List.take_length])
          rw [HE.out]
          have HSm := Lib.hid (msum_any (.pointer (some ⟨w.heap.size, 0, none⟩)) ds _ (mall_any w.heap.size ds _ (HM4.out.touch HT5.out (fun e => e))) (by have := HDL.out; omega))
          generalize sumM ds = sm at *
          go_wp2_with (go_at_call 30; go_must (refine HSm.out.mono ?_); rintro e w6 ⟨rfl, t6⟩; have HT6 := Lib.hid (HT5.out.trans t6 (fun _ _ e => e)); clear t6)
          go_roundw
          case rel => exact ⟨j + 1, by omega, by go_num, ⟨A3, c3, ds, rfl, HDL.out, HM4.out.touch HT6.out (fun e => e), HRf4.out.touch0 HT6.out⟩, HT4.out.trans HT6.out (fun _ _ e => e)⟩
          case measure => simp [intOf]; omega
    · obtain rfl : j = l1.length := by omega
      have HLn := Lib.hid (mlen_any w.heap.size cs _ HM.out)
      go_wp2_with (first
        | (go_at_call 31; go_must (refine HLn.out.mono ?_); rintro e w5 ⟨rfl, rfl⟩)
        | (go_at_call 24; go_must (refine (lives05_any _).mono ?_); rintro e w6 ⟨rfl, t1⟩; have HT := Lib.hid (HT.out.trans t1 (fun _ _ e => e)); clear t1))
      go_ret
      exact ⟨rfl, HT.out.below⟩
end Go.Proofs.Ytomapfklpoijbaa
