/- The reference's poll: State. -/
import Derived.Test.YtbleeejhejkkcaaPolP
import Derived.Test.YtbleeejhejkkcaaPlan
namespace Go.Proofs.Ytbleeejhejkkcaa
open Go.RowKit
set_option maxHeartbeats 4000000
set_option maxRecDepth 100000
set_option linter.unusedVariables false

def canL (L Ns : List Int) : List Int := L.filter fun x => !Ns.contains x
theorem canL_succ (L Ns : List Int) (j : Nat) (hj : j < L.length) : canL (L.take (j + 1)) Ns = canL (L.take j) Ns ++ (if Ns.contains (L.getD j 0) = true then [] else [L.getD j 0]) := by
  rw [canL, canL, List.take_succ_eq_append_getElem hj, List.filter_append]
  congr 1
  simp only [List.getD, List.getElem?_eq_getElem hj, Option.getD_some, List.filter_cons, List.filter_nil]
  cases Ns.contains (L[j]'hj) <;> rfl
theorem canL_len (L Ns : List Int) : (canL L Ns).length ≤ L.length := List.length_filter_le _ _
def reachB (L S : List Int) : Bool := Row.soundB L && decide (L.length < 2 * L.countP (fun x => S.contains x))
def rstV (L Ys Ns : List Int) : Int := if reachB L Ys = true then 2 else if reachB L (canL L Ns) = true then 1 else 3
theorem rpstate_any (G : Nat → Prop) (A Y N : Option Addr) (c cy cn : Nat) (L Ys Ns : List Int) (w : World) (hA : Rd w G A L.length (L.map I64)) (hY : Rd w G Y Ys.length (Ys.map I64)) (hN : Rd w G N Ns.length (Ns.map I64))
    (h1 : L.length ≤ 1000) (h2 : Ys.length ≤ 1000) (h3 : Ns.length ≤ 1000) :
    Calls Try.prog 16 #[.agg #[.slice A L.length c, .slice Y Ys.length cy, .slice N Ns.length cn]] w fun e w' => e = .returned (.int .i64 (rstV L Ys Ns)) ∧ Touch (fun _ => False) w w' := by
  obtain ⟨i0, hi, hz0, hz1, hz2⟩ := info_parts infoI
  obtain ⟨W, hW⟩ : ∃ W, W = w.alloc (.cells #[.slice A L.length c, .slice Y Ys.length cy, .slice N Ns.length cn] 29) := ⟨_, rfl⟩
  have HT0 := Lib.hid (show Touch (fun _ => False) w W from hW ▸ (Touch.refl _ w).alloc _)
  have HB0 := Lib.hid (show Blk W w.heap.size 29 #[.slice A L.length c, .slice Y Ys.length cy, .slice N Ns.length cn] from hW ▸ Blk.new w 29 #[.slice A L.length c, .slice Y Ys.length cy, .slice N Ns.length cn])
  have HA := Lib.hid (hA.touch HT0.out (fun _ _ e => e))
  have HN := Lib.hid (hN.touch HT0.out (fun _ _ e => e))
  have HR := Lib.hid (show Calls Try.prog 46 #[.slice A L.length c, .slice Y Ys.length cy] W fun e w' => e = .returned (.bool (reachB L Ys)) ∧ Touch (fun _ => False) W w' from rreached_any G G A Y c cy L Ys W HA.out (hY.touch HT0.out (fun _ _ e => e)) (by omega) (by omega))
  have HV := Lib.hid (show rstV L Ys Ns = if reachB L Ys = true then 2 else if reachB L (canL L Ns) = true then 1 else 3 from rfl)
  have HW := Lib.hid hW
  have hWz : W.heap.size = w.heap.size + 1 := by rw [hW]; simp
  have HWz := Lib.hid hWz
  clear hA hY hN hW hWz
  obtain ⟨⟨b0, b1, b2⟩, -⟩ := HB0.out.three
  cases hr : reachB L Ys
  case true =>
    rw [hr] at HR HV
    clear hr
    go_enter Try.func16, Try.ntmps16
    go_wp2_with fail
    rw [← HW.out]
    go_wp2_with (go_at_call 46; go_must (refine HR.out.mono ?_); rintro e w1 ⟨rfl, t1⟩; have HT := Lib.hid (HT0.out.trans t1 (fun _ _ e => e)); clear t1)
    go_ret
    exact ⟨by rw [HV.out]; rfl, HT.out⟩
  case false =>
    rw [hr] at HR HV
    clear hr
    go_enter Try.func16, Try.ntmps16
    go_wp2_with fail
    rw [← HW.out]
    go_wp2_with (go_at_call 46; go_must (refine HR.out.mono ?_); rintro e w1 ⟨rfl, t1⟩; have HT := Lib.hid t1; clear t1 b0 b1 b2)
    go_loopw [3, 4] (fun v i wr => ∃ j : Nat, j ≤ L.length ∧ i = .int .i64 j ∧ (∃ r, Own wr 3 1 v r (canL (L.take j) Ns).length ((canL (L.take j) Ns).map I64) ∧ ∀ k, r = some k → w.heap.size + 1 ≤ k) ∧ Touch (fun _ => False) W wr) (fun _ i _ => L.length - (intOf i).toNat)
    case atStart => exact ⟨0, by omega, rfl, ⟨none, Own.nil _ _ _, fun k e => by cases e⟩, HT.out⟩
    case round =>
      obtain ⟨j, hj, rfl, hM, hT⟩ := hrel
      have HT := Lib.hid hT
      obtain ⟨r, ho, hrk⟩ := hM
      obtain ⟨A0, c0, rfl, -, -⟩ := ho.form
      have HO := Lib.hid ho
      have HRk := Lib.hid hrk
      have hcl := canL_len (L.take j) Ns
      have hcj : (L.take j).length ≤ j := by simp; omega
      have hwz := hT.size
      obtain ⟨⟨b0, b1, b2⟩, -⟩ := (hT.blk HB0.out (fun e => e)).three
      clear ho hT hrk
      by_cases hjk : j < L.length
      · have HU := Lib.hid (canL_succ L Ns j hjk)
        obtain ⟨ga, off, rfl, _, _, hc⟩ := (HA.out.touch HT.out (fun _ _ e => e)).2 (by omega)
        have hcc := hc j _ (get_I64 hjk)
        simp only [I64] at hcc
        clear hc
        generalize L.getD j 0 = x at *
        generalize canL (L.take j) Ns = X at *
        have HH := Lib.hid (fun w1 (h : Rd w1 G N Ns.length (Ns.map I64)) => rhas_any G N cn Ns x w1 h (by omega))
        have HN1 := Lib.hid (HN.out.touch HT.out (fun _ _ e => e))
        cases hx : Ns.contains x
        · rw [hx, if_neg (by simp)] at HU
          rw [hx] at HH
          clear hx
          go_wp2_with fail
          refine wp_region_plan [(0, 0), (0, 1), (0, 2), (0, 3), (0, 4), (0, 5), (0, 6), (0, 7), (0, 8)] (fun _ => False) (by kernel_rfl) (by kernel_rfl) (fun c a d v w h => by cases d <;> exact h) ?_
          iterate 9
            first
              | (refine plan_s1 rfl (by rfl) (fun Kc hKc => ?_)
                 go_simp
                 first
                   | (refine hKc _ ?_)
                   | (refine ⟨_, calls_flip (HH.out _ (by exact HN1.out)), hKc _ ?_⟩)
                 clear hKc Kc)
              | (refine plan_s0 rfl (by rfl) ?_; go_frame)
          refine plan_done ?_
          have HTl := Lib.hid ((Touch.refl (fun _ => False) wr).drew.alloc (.cells #[.int .i64 x] 3))
          have HB := Lib.hid (Blk.new wr.drew 3 #[.int .i64 x])
          go_wp2_with (
             at_builtin
             go_must (refine wpList_own_append rfl _ _ 22 22 rfl 3 i0 (.int .i64 0) 1 8 Try.underlying22 hi hz0 hz1 hz2 rfl _ r X.length (X.map I64) rfl (by exact HO.out.touch HTl.out (fun _ _ e => e)) _ 1 [.int .i64 x] rfl (by exact Src.lit Try.underlying22 wr.heap.size 1 1 3 #[.int .i64 x] HB.out rfl (fun u hu => by simp at hu; subst hu; rfl)) (by simp only [maxLen]; omega) (by omega) ?_)
             intro v1 r1 w1 ho1 ht1 hr1
             have HR1 := Lib.hid (And.intro ho1 (And.intro ht1 hr1))
             clear ho1 ht1 hr1)
          go_roundw
          case rel =>
            obtain ⟨ho1, ht1, hr1⟩ := HR1.out
            refine ⟨j + 1, by omega, by go_num, ⟨r1, ?_, ?_⟩, (HT.out.trans HTl.out (fun _ _ e => e)).trans ht1 (fun q hq e => by have := HRk.out q e; have := HWz.out; omega)⟩
            · rw [HU.out, List.length_append, List.map_append]; exact ho1
            · intro k e
              rcases hr1 with e' | ⟨q, e', hq⟩
              · exact HRk.out k (e'.symm.trans e)
              · rw [e'] at e; injection e with e; have := HWz.out; simp at hq; omega
          case measure => simp [intOf]; omega
        · rw [hx, if_pos rfl] at HU
          rw [hx] at HH
          clear hx
          go_wp2_with fail
          refine wp_region_plan [(0, 0), (0, 1), (0, 2), (0, 3), (0, 4), (0, 5), (0, 6), (0, 7), (0, 8)] (fun _ => False) (by kernel_rfl) (by kernel_rfl) (fun c a d v w h => by cases d <;> exact h) ?_
          iterate 9
            first
              | (refine plan_s1 rfl (by rfl) (fun Kc hKc => ?_)
                 go_simp
                 first
                   | (refine hKc _ ?_)
                   | (refine ⟨_, calls_flip (HH.out _ (by exact HN1.out)), hKc _ ?_⟩)
                 clear hKc Kc)
              | (refine plan_s0 rfl (by rfl) ?_; go_frame)
          refine plan_done ?_
          go_wp2_with fail
          go_roundw
          case rel => exact ⟨j + 1, by omega, by go_num, ⟨r, by rw [HU.out, List.append_nil]; exact HO.out, HRk.out⟩, HT.out.drew⟩
          case measure => simp [intOf]; omega
      · obtain rfl : j = L.length := by omega
        have HE := Lib.hid (show canL (L.take L.length) Ns = canL L Ns by rw [List.take_length])
        rw [HE.out] at HO hcl ⊢
        have hcl' := canL_len L Ns
        obtain ⟨A1, c1, hv, -, -, -, hr1⟩ := HO.out.rd
        injection hv with hv1 hv2 hv3
        subst hv1 hv3
        have HR2 := Lib.hid (show Calls Try.prog 46 #[.slice A L.length c, .slice A0 (canL L Ns).length c0] wr fun e w' => e = .returned (.bool (reachB L (canL L Ns))) ∧ Touch (fun _ => False) wr w' from rreached_any G _ A A0 c c0 L (canL L Ns) wr (HA.out.touch HT.out (fun _ _ e => e)) hr1 (by omega) (by omega))
        clear hr1
        generalize canL L Ns = X at *
        cases hr2 : reachB L X
        all_goals (
          rw [hr2] at HR2 HV
          clear hr2
          go_wp2_with (go_at_call 46; go_must (refine HR2.out.mono ?_); rintro e w1 ⟨rfl, t1⟩; have HT2 := Lib.hid ((HT0.out.trans HT.out (fun _ _ e => e)).trans t1 (fun _ _ e => e)); clear t1)
          go_ret
          exact ⟨by rw [HV.out]; rfl, HT2.out⟩)
end Go.Proofs.Ytbleeejhejkkcaa
