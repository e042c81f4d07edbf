/- The walk of DiceBounds. -/
import Derived.Test.YtomapfklpoijbaaDiceD
namespace Go.Proofs.Ytomapfklpoijbaa
open Go.RowKit Go.ChangeShapes Go.WideShapes Go.Deep
set_option maxHeartbeats 4000000
set_option maxRecDepth 100000
set_option linter.unusedVariables false

theorem has_takeI (l : List Int) (j : Nat) (hj : j < l.length) (x : Int) : (l.take (j + 1)).contains x = ((l.take j).contains x || decide (x = l.getD j 0)) := by
  rw [List.take_succ_eq_append_getElem hj, Bool.eq_iff_iff]
  simp only [List.contains_iff_mem, List.mem_append, List.mem_singleton, Bool.or_eq_true, decide_eq_true_eq, List.getD, List.getElem?_eq_getElem hj, Option.getD_some]
def metL (ys : List Int) (j n : Nat) : List Value := (List.range n).map fun (v : Nat) => Value.bool ((ys.take j).contains (v : Int))
theorem metL_len (ys : List Int) (j n : Nat) : (metL ys j n).length = n := by simp [metL]
theorem metL_get (ys : List Int) (j n k : Nat) (hk : k < n) : (metL ys j n)[k]? = some (Value.bool ((ys.take j).contains (k : Int))) := by simp [metL, hk]
theorem metL_0 (ys : List Int) (n : Nat) : metL ys 0 n = (List.replicate n 0).map metV := by
  rw [metV_0]
  apply List.ext_getElem?
  intro i
  by_cases hi : i < n
  · rw [metL_get ys 0 n i hi]; simp [hi]
  · rw [List.getElem?_eq_none (by rw [metL_len]; omega), List.getElem?_eq_none (by simp; omega)]
theorem metL_succ (ys : List Int) (j n k : Nat) (hj : j < ys.length) (hk : ys.getD j 0 = (k : Int)) : (metL ys j n).set k (.bool true) = metL ys (j + 1) n := by
  apply List.ext_getElem?
  intro i
  by_cases hi : i < n
  · rw [metL_get ys (j + 1) n i hi, has_takeI ys j hj, List.getElem?_set, hk]
    by_cases hik : k = i
    · subst hik; simp [metL_len, hi]
    · have : ¬ (i : Int) = k := by omega
      rw [if_neg hik, metL_get ys j n i hi]; simp [this]
  · rw [List.getElem?_eq_none (by rw [List.length_set, metL_len]; omega), List.getElem?_eq_none (by rw [metL_len]; omega)]
theorem perm_new {n : Nat} {ys : List Int} (h : PermN n ys) (j : Nat) (hj : j < n) : (ys.take j).contains (ys.getD j 0) = false := by
  rw [Bool.eq_false_iff]
  intro hc
  rw [List.contains_iff_mem] at hc
  obtain ⟨a, ha, e⟩ := List.getElem_of_mem hc
  have hl := h.1
  rw [List.length_take] at ha
  have := h.2.2 a j (by omega) hj (by omega)
  apply this
  rw [← e, List.getElem_take]
  simp [List.getD, List.getElem?_eq_getElem (show a < ys.length by omega)]

theorem walk_DiceBounds {w : World} (A0 : Option Addr) (n0 c0 : Nat) (l0 : List UInt8) (e0 : l0.length = n0) (g0 : A0 = none → c0 = 0) (u0 : n0 ≤ c0) (m0 : c0 ≤ maxLen) (s0 : Rd w (fun k => k < w.heap.size) A0 n0 (l0.map B8))
    (a1 : Int) (k1 : 0 ≤ a1 ∧ a1 ≤ 18446744073709551615) (a2 : Int) (k2 : -9223372036854775808 ≤ a2 ∧ a2 ≤ 9223372036854775807) (a3 : Int) (k3 : -9223372036854775808 ≤ a3 ∧ a3 ≤ 9223372036854775807) (a4 : Int) (k4 : 0 ≤ a4 ∧ a4 ≤ 255) :
    Calls Try.prog 4 #[.slice A0 n0 c0, .int .u64 a1, .int .i64 a2, .int .i64 a3, .int .u8 a4] w fun e w' => e = .returned (.bool true) ∧ Below w.heap.size w w' := by
  subst e0
  have HS := Lib.hid s0
  clear g0 u0 m0 s0
  have HK := Lib.hid (And.intro k2 k3)
  by_cases hbig : 3000 < (l0.length : Int)
  · go_enter Try.func4, Try.ntmps4
    go_wp2_with (go_at_call 19; go_must (refine (lives06_any _).mono ?_); rintro e w1 ⟨rfl, t1⟩; have HT := Lib.hid t1; clear t1)
    go_ret
    exact ⟨rfl, HT.out.below⟩
  obtain ⟨n, rfl⟩ := Int.eq_ofNat_of_zero_le k1.1
  obtain ⟨N, rfl⟩ := Int.eq_ofNat_of_zero_le k4.1
  have hn : n < 18446744073709551616 := by omega
  have hN : N ≤ 255 := by omega
  obtain ⟨i0, hi, hz0, hz1, hz2⟩ := info_parts infoB
  have hl0 : l0.length ≤ 140737488355328 := by omega
  clear k1 k4 k2 k3
  by_cases hn0 : n = 0
  · subst hn0
    have HBe := Lib.hid (fun g w1 (h : DAt w1 g l0) => dbelow_any g l0 0 w1 h (by omega))
    rw [show belowV l0 0 = 0 from rfl] at HBe
    by_cases hle : a2 ≤ a3
    · have hgt : ¬ a3 < a2 := by omega
      go_enter Try.func4, Try.ntmps4
      go_wp2_with (first
        | (go_at_call 19; go_must (refine (lives06_any _).mono ?_); rintro e w1 ⟨rfl, t1⟩; have HT1 := Lib.hid t1; have HS1 := Lib.hid (HS.out.touch t1 (fun _ _ e => e)); clear t1)
        | (go_at_call 20; go_must (refine (dnew_any _ A0 c0 l0 _ (by exact HS1.out) hl0).mono ?_); rintro e w2 ⟨g, rfl, hg, hd, t2⟩; have hgw : w.heap.size ≤ g := Nat.le_trans HT1.out.size hg; have HD2 := Lib.hid hd; have HT2 := Lib.hid (HT1.out.trans t2 (fun _ _ e => e)); clear hd t2 hg)
        | (go_at_call 21; go_must (refine (HBe.out g _ (by exact HD2.out)).mono ?_); rintro e w3 ⟨rfl, hd, t3⟩; have HD3 := Lib.hid hd; have HT3 := Lib.hid (HT2.out.trans t3 (fun q hq e => by omega)); clear hd t3)
        | (go_at_call 22; go_must (refine (dbetween_any g _ a2 a3 _ (by exact HD3.out) HK.out.1 HK.out.2).mono ?_); rintro e w4 ⟨y, l4, rfl, hy1, hy2, hd, t4⟩; have HD4 := Lib.hid hd; have HT4 := Lib.hid (HT3.out.trans t4 (fun q hq e => by omega)); have hyy := hy2 (by omega); have hyl1 := hyy.1; have hyl2 := hyy.2; have hyl3 : ¬ y < a2 := (by omega); have hyl4 : ¬ a3 < y := (by omega); clear hy1 hy2 hyy; clear hd t4)
        | (go_at_call 23; go_must (refine (dorder_any g l4 N _ (by exact HD4.out) (by omega)).mono ?_); rintro e w5 ⟨A5, c5, ys, rfl, hp, hr5, t5⟩; have HP := Lib.hid hp; have HRys := Lib.hid (show Rd w5 (fun q => q < w5.heap.size) A5 N (ys.map I64) from ⟨hr5.1, fun hn => by obtain ⟨g, off, e, hl, _, hc⟩ := hr5.2 hn; exact ⟨g, off, e, hl, hl, hc⟩⟩); have HT5 := Lib.hid (HT4.out.trans t5 (fun q hq e => by omega)); have HS45 := Lib.hid t5.size; have HM := Lib.hid trivial; clear hp hr5 t5)
        | (refine wpList_make_full _ rfl _ _ 50 rfl 0 4 i0 (.bool false) 1 Try.underlying50 hi hz0 hz1 .u8 .u8 N N N rfl rfl rfl rfl (by rw [hz2]; omega) (by simp only [maxLen]; omega) (Nat.zero_le _) ?_
           intro w6 hown hgr
           have HO := Lib.hid (Own.of_owns hown)
           have HG := Lib.hid hgr
           clear hown hgr))
      have hgm := HM.out
      have HT6 := Lib.hid (HT5.out.trans (Touch.of_grown HG.out) (fun q hq e => by cases e))
      have hgmm : w.heap.size ≤ w5.heap.size := HT5.out.size
      have tg := Touch.of_grown HG.out
      have HRy := Lib.hid (HRys.out.touch tg (fun q hq e => by cases e))
      have HO6 : Own w6 4 1 (.slice (some ⟨w5.heap.size, 0, none⟩) N N) (some w5.heap.size) N (metL ys 0 N) := by
        have := HO.out
        rw [made_metV, ← metL_0 ys] at this
        exact this
      have HO6 := Lib.hid HO6
      have HRlt := Lib.hid (show w4.heap.size ≤ w5.heap.size from HS45.out)
      clear tg hgm
      generalize w5.heap.size = gm at *
      go_loopw [83] (fun i wr => ∃ j : Nat, j ≤ N ∧ i = .int .i64 j ∧ Own wr 4 1 (.slice (some ⟨gm, 0, none⟩) N N) (some gm) N (metL ys j N) ∧ Touch (fun q => q = gm) w6 wr) (fun i _ => N - (intOf i).toNat)
      case atStart => exact ⟨0, by omega, rfl, HO6.out, Touch.refl _ _⟩
      case round =>
        obtain ⟨j, hj, rfl, ho, hT⟩ := hrel
        have HO7 := Lib.hid ho
        have HT7 := Lib.hid hT
        clear ho hT
        by_cases hjN : j < N
        · have hyj := HP.out.2.1 j hjN
          have hnew := perm_new HP.out j hjN
          have hyl := HP.out.1
          obtain ⟨a, off, rfl, _, haF, hc⟩ := (HRy.out.touch HT7.out (fun q hq e => by omega)).2 (by omega)
          have hcj := hc j _ (get_I64 (by omega))
          simp only [I64] at hcj
          have HSx := fun (k : Nat) (e : ys.getD j 0 = (k : Int)) => metL_succ ys j N k (by omega) e
          generalize hyy : ys.getD j 0 = x at *
          obtain ⟨k, rfl⟩ := Int.eq_ofNat_of_zero_le hyj.1
          have HSet := Lib.hid (HSx k rfl)
          have hk : k < N := by omega
          have hck := HO7.out.cellAt k (by rw [metL_len]; exact hk)
          rw [metL_get ys j N k hk, hnew] at hck
          have hfk := HO7.out.frozen k
          have hki : (k : Int) < N := by omega
          have hkj : ¬ (N : Int) ≤ k := by omega
          clear hc hyj hnew hyy HSx hyl
          go_wp2_with fail
          go_roundw
          case rel =>
            have ho8 := HO7.out.storeAt k hk (.bool true)
            rw [HSet.out] at ho8
            exact ⟨j + 1, by omega, by go_num, ho8, HT7.out.trans ((Touch.refl (fun q => q = gm) wr).set (fun _ => rfl) _) (fun q hq e => e)⟩
          case measure => simp [intOf]; omega
        · obtain rfl : j = N := by omega
          go_wp2
          go_ret
          exact ⟨ret_bool (by simp), (HT6.out.trans HT7.out (fun q hq e => by omega)).below⟩
    · have hgt : a3 < a2 := by omega
      go_enter Try.func4, Try.ntmps4
      go_wp2_with (first
        | (go_at_call 19; go_must (refine (lives06_any _).mono ?_); rintro e w1 ⟨rfl, t1⟩; have HT1 := Lib.hid t1; have HS1 := Lib.hid (HS.out.touch t1 (fun _ _ e => e)); clear t1)
        | (go_at_call 20; go_must (refine (dnew_any _ A0 c0 l0 _ (by exact HS1.out) hl0).mono ?_); rintro e w2 ⟨g, rfl, hg, hd, t2⟩; have hgw : w.heap.size ≤ g := Nat.le_trans HT1.out.size hg; have HD2 := Lib.hid hd; have HT2 := Lib.hid (HT1.out.trans t2 (fun _ _ e => e)); clear hd t2 hg)
        | (go_at_call 21; go_must (refine (HBe.out g _ (by exact HD2.out)).mono ?_); rintro e w3 ⟨rfl, hd, t3⟩; have HD3 := Lib.hid hd; have HT3 := Lib.hid (HT2.out.trans t3 (fun q hq e => by omega)); clear hd t3)
        | (go_at_call 22; go_must (refine (dbetween_any g _ a2 a3 _ (by exact HD3.out) HK.out.1 HK.out.2).mono ?_); rintro e w4 ⟨y, l4, rfl, hy1, hy2, hd, t4⟩; have HD4 := Lib.hid hd; have HT4 := Lib.hid (HT3.out.trans t4 (fun q hq e => by omega)); have hyy := hy1 (by omega); subst hyy; clear hy1 hy2; clear hd t4)
        | (go_at_call 23; go_must (refine (dorder_any g l4 N _ (by exact HD4.out) (by omega)).mono ?_); rintro e w5 ⟨A5, c5, ys, rfl, hp, hr5, t5⟩; have HP := Lib.hid hp; have HRys := Lib.hid (show Rd w5 (fun q => q < w5.heap.size) A5 N (ys.map I64) from ⟨hr5.1, fun hn => by obtain ⟨g, off, e, hl, _, hc⟩ := hr5.2 hn; exact ⟨g, off, e, hl, hl, hc⟩⟩); have HT5 := Lib.hid (HT4.out.trans t5 (fun q hq e => by omega)); have HS45 := Lib.hid t5.size; have HM := Lib.hid trivial; clear hp hr5 t5)
        | (refine wpList_make_full _ rfl _ _ 50 rfl 0 4 i0 (.bool false) 1 Try.underlying50 hi hz0 hz1 .u8 .u8 N N N rfl rfl rfl rfl (by rw [hz2]; omega) (by simp only [maxLen]; omega) (Nat.zero_le _) ?_
           intro w6 hown hgr
           have HO := Lib.hid (Own.of_owns hown)
           have HG := Lib.hid hgr
           clear hown hgr))
      have hgm := HM.out
      have HT6 := Lib.hid (HT5.out.trans (Touch.of_grown HG.out) (fun q hq e => by cases e))
      have hgmm : w.heap.size ≤ w5.heap.size := HT5.out.size
      have tg := Touch.of_grown HG.out
      have HRy := Lib.hid (HRys.out.touch tg (fun q hq e => by cases e))
      have HO6 : Own w6 4 1 (.slice (some ⟨w5.heap.size, 0, none⟩) N N) (some w5.heap.size) N (metL ys 0 N) := by
        have := HO.out
        rw [made_metV, ← metL_0 ys] at this
        exact this
      have HO6 := Lib.hid HO6
      have HRlt := Lib.hid (show w4.heap.size ≤ w5.heap.size from HS45.out)
      clear tg hgm
      generalize w5.heap.size = gm at *
      go_loopw [83] (fun i wr => ∃ j : Nat, j ≤ N ∧ i = .int .i64 j ∧ Own wr 4 1 (.slice (some ⟨gm, 0, none⟩) N N) (some gm) N (metL ys j N) ∧ Touch (fun q => q = gm) w6 wr) (fun i _ => N - (intOf i).toNat)
      case atStart => exact ⟨0, by omega, rfl, HO6.out, Touch.refl _ _⟩
      case round =>
        obtain ⟨j, hj, rfl, ho, hT⟩ := hrel
        have HO7 := Lib.hid ho
        have HT7 := Lib.hid hT
        clear ho hT
        by_cases hjN : j < N
        · have hyj := HP.out.2.1 j hjN
          have hnew := perm_new HP.out j hjN
          have hyl := HP.out.1
          obtain ⟨a, off, rfl, _, haF, hc⟩ := (HRy.out.touch HT7.out (fun q hq e => by omega)).2 (by omega)
          have hcj := hc j _ (get_I64 (by omega))
          simp only [I64] at hcj
          have HSx := fun (k : Nat) (e : ys.getD j 0 = (k : Int)) => metL_succ ys j N k (by omega) e
          generalize hyy : ys.getD j 0 = x at *
          obtain ⟨k, rfl⟩ := Int.eq_ofNat_of_zero_le hyj.1
          have HSet := Lib.hid (HSx k rfl)
          have hk : k < N := by omega
          have hck := HO7.out.cellAt k (by rw [metL_len]; exact hk)
          rw [metL_get ys j N k hk, hnew] at hck
          have hfk := HO7.out.frozen k
          have hki : (k : Int) < N := by omega
          have hkj : ¬ (N : Int) ≤ k := by omega
          clear hc hyj hnew hyy HSx hyl
          go_wp2_with fail
          go_roundw
          case rel =>
            have ho8 := HO7.out.storeAt k hk (.bool true)
            rw [HSet.out] at ho8
            exact ⟨j + 1, by omega, by go_num, ho8, HT7.out.trans ((Touch.refl (fun q => q = gm) wr).set (fun _ => rfl) _) (fun q hq e => e)⟩
          case measure => simp [intOf]; omega
        · obtain rfl : j = N := by omega
          go_wp2
          go_ret
          exact ⟨ret_bool (by simp), (HT6.out.trans HT7.out (fun q hq e => by omega)).below⟩
  · have hnp : (0 : Int) < n := by omega
    have hne : ((n : Int) == 0) = false := by simp; omega
    have HBe := Lib.hid (fun g w1 (h : DAt w1 g l0) => dbelow_any g l0 n w1 h hn)
    have hxv := belowV_lt l0 n (by omega)
    generalize belowV l0 n = xv at *
    have hxv1 : (xv : Int) < n := by omega
    have hxv2 : ¬ (n : Int) ≤ (xv : Int) := by omega
    by_cases hle : a2 ≤ a3
    · have hgt : ¬ a3 < a2 := by omega
      go_enter Try.func4, Try.ntmps4
      go_wp2_with (first
        | (go_at_call 19; go_must (refine (lives06_any _).mono ?_); rintro e w1 ⟨rfl, t1⟩; have HT1 := Lib.hid t1; have HS1 := Lib.hid (HS.out.touch t1 (fun _ _ e => e)); clear t1)
        | (go_at_call 20; go_must (refine (dnew_any _ A0 c0 l0 _ (by exact HS1.out) hl0).mono ?_); rintro e w2 ⟨g, rfl, hg, hd, t2⟩; have hgw : w.heap.size ≤ g := Nat.le_trans HT1.out.size hg; have HD2 := Lib.hid hd; have HT2 := Lib.hid (HT1.out.trans t2 (fun _ _ e => e)); clear hd t2 hg)
        | (go_at_call 21; go_must (refine (HBe.out g _ (by exact HD2.out)).mono ?_); rintro e w3 ⟨rfl, hd, t3⟩; have HD3 := Lib.hid hd; have HT3 := Lib.hid (HT2.out.trans t3 (fun q hq e => by omega)); clear hd t3)
        | (go_at_call 22; go_must (refine (dbetween_any g _ a2 a3 _ (by exact HD3.out) HK.out.1 HK.out.2).mono ?_); rintro e w4 ⟨y, l4, rfl, hy1, hy2, hd, t4⟩; have HD4 := Lib.hid hd; have HT4 := Lib.hid (HT3.out.trans t4 (fun q hq e => by omega)); have hyy := hy2 (by omega); have hyl1 := hyy.1; have hyl2 := hyy.2; have hyl3 : ¬ y < a2 := (by omega); have hyl4 : ¬ a3 < y := (by omega); clear hy1 hy2 hyy; clear hd t4)
        | (go_at_call 23; go_must (refine (dorder_any g l4 N _ (by exact HD4.out) (by omega)).mono ?_); rintro e w5 ⟨A5, c5, ys, rfl, hp, hr5, t5⟩; have HP := Lib.hid hp; have HRys := Lib.hid (show Rd w5 (fun q => q < w5.heap.size) A5 N (ys.map I64) from ⟨hr5.1, fun hn => by obtain ⟨g, off, e, hl, _, hc⟩ := hr5.2 hn; exact ⟨g, off, e, hl, hl, hc⟩⟩); have HT5 := Lib.hid (HT4.out.trans t5 (fun q hq e => by omega)); have HS45 := Lib.hid t5.size; have HM := Lib.hid trivial; clear hp hr5 t5)
        | (refine wpList_make_full _ rfl _ _ 50 rfl 0 4 i0 (.bool false) 1 Try.underlying50 hi hz0 hz1 .u8 .u8 N N N rfl rfl rfl rfl (by rw [hz2]; omega) (by simp only [maxLen]; omega) (Nat.zero_le _) ?_
           intro w6 hown hgr
           have HO := Lib.hid (Own.of_owns hown)
           have HG := Lib.hid hgr
           clear hown hgr))
      have hgm := HM.out
      have HT6 := Lib.hid (HT5.out.trans (Touch.of_grown HG.out) (fun q hq e => by cases e))
      have hgmm : w.heap.size ≤ w5.heap.size := HT5.out.size
      have tg := Touch.of_grown HG.out
      have HRy := Lib.hid (HRys.out.touch tg (fun q hq e => by cases e))
      have HO6 : Own w6 4 1 (.slice (some ⟨w5.heap.size, 0, none⟩) N N) (some w5.heap.size) N (metL ys 0 N) := by
        have := HO.out
        rw [made_metV, ← metL_0 ys] at this
        exact this
      have HO6 := Lib.hid HO6
      have HRlt := Lib.hid (show w4.heap.size ≤ w5.heap.size from HS45.out)
      clear tg hgm
      generalize w5.heap.size = gm at *
      go_loopw [83] (fun i wr => ∃ j : Nat, j ≤ N ∧ i = .int .i64 j ∧ Own wr 4 1 (.slice (some ⟨gm, 0, none⟩) N N) (some gm) N (metL ys j N) ∧ Touch (fun q => q = gm) w6 wr) (fun i _ => N - (intOf i).toNat)
      case atStart => exact ⟨0, by omega, rfl, HO6.out, Touch.refl _ _⟩
      case round =>
        obtain ⟨j, hj, rfl, ho, hT⟩ := hrel
        have HO7 := Lib.hid ho
        have HT7 := Lib.hid hT
        clear ho hT
        by_cases hjN : j < N
        · have hyj := HP.out.2.1 j hjN
          have hnew := perm_new HP.out j hjN
          have hyl := HP.out.1
          obtain ⟨a, off, rfl, _, haF, hc⟩ := (HRy.out.touch HT7.out (fun q hq e => by omega)).2 (by omega)
          have hcj := hc j _ (get_I64 (by omega))
          simp only [I64] at hcj
          have HSx := fun (k : Nat) (e : ys.getD j 0 = (k : Int)) => metL_succ ys j N k (by omega) e
          generalize hyy : ys.getD j 0 = x at *
          obtain ⟨k, rfl⟩ := Int.eq_ofNat_of_zero_le hyj.1
          have HSet := Lib.hid (HSx k rfl)
          have hk : k < N := by omega
          have hck := HO7.out.cellAt k (by rw [metL_len]; exact hk)
          rw [metL_get ys j N k hk, hnew] at hck
          have hfk := HO7.out.frozen k
          have hki : (k : Int) < N := by omega
          have hkj : ¬ (N : Int) ≤ k := by omega
          clear hc hyj hnew hyy HSx hyl
          go_wp2_with fail
          go_roundw
          case rel =>
            have ho8 := HO7.out.storeAt k hk (.bool true)
            rw [HSet.out] at ho8
            exact ⟨j + 1, by omega, by go_num, ho8, HT7.out.trans ((Touch.refl (fun q => q = gm) wr).set (fun _ => rfl) _) (fun q hq e => e)⟩
          case measure => simp [intOf]; omega
        · obtain rfl : j = N := by omega
          go_wp2
          go_ret
          exact ⟨ret_bool (by simp), (HT6.out.trans HT7.out (fun q hq e => by omega)).below⟩
    · have hgt : a3 < a2 := by omega
      go_enter Try.func4, Try.ntmps4
      go_wp2_with (first
        | (go_at_call 19; go_must (refine (lives06_any _).mono ?_); rintro e w1 ⟨rfl, t1⟩; have HT1 := Lib.hid t1; have HS1 := Lib.hid (HS.out.touch t1 (fun _ _ e => e)); clear t1)
        | (go_at_call 20; go_must (refine (dnew_any _ A0 c0 l0 _ (by exact HS1.out) hl0).mono ?_); rintro e w2 ⟨g, rfl, hg, hd, t2⟩; have hgw : w.heap.size ≤ g := Nat.le_trans HT1.out.size hg; have HD2 := Lib.hid hd; have HT2 := Lib.hid (HT1.out.trans t2 (fun _ _ e => e)); clear hd t2 hg)
        | (go_at_call 21; go_must (refine (HBe.out g _ (by exact HD2.out)).mono ?_); rintro e w3 ⟨rfl, hd, t3⟩; have HD3 := Lib.hid hd; have HT3 := Lib.hid (HT2.out.trans t3 (fun q hq e => by omega)); clear hd t3)
        | (go_at_call 22; go_must (refine (dbetween_any g _ a2 a3 _ (by exact HD3.out) HK.out.1 HK.out.2).mono ?_); rintro e w4 ⟨y, l4, rfl, hy1, hy2, hd, t4⟩; have HD4 := Lib.hid hd; have HT4 := Lib.hid (HT3.out.trans t4 (fun q hq e => by omega)); have hyy := hy1 (by omega); subst hyy; clear hy1 hy2; clear hd t4)
        | (go_at_call 23; go_must (refine (dorder_any g l4 N _ (by exact HD4.out) (by omega)).mono ?_); rintro e w5 ⟨A5, c5, ys, rfl, hp, hr5, t5⟩; have HP := Lib.hid hp; have HRys := Lib.hid (show Rd w5 (fun q => q < w5.heap.size) A5 N (ys.map I64) from ⟨hr5.1, fun hn => by obtain ⟨g, off, e, hl, _, hc⟩ := hr5.2 hn; exact ⟨g, off, e, hl, hl, hc⟩⟩); have HT5 := Lib.hid (HT4.out.trans t5 (fun q hq e => by omega)); have HS45 := Lib.hid t5.size; have HM := Lib.hid trivial; clear hp hr5 t5)
        | (refine wpList_make_full _ rfl _ _ 50 rfl 0 4 i0 (.bool false) 1 Try.underlying50 hi hz0 hz1 .u8 .u8 N N N rfl rfl rfl rfl (by rw [hz2]; omega) (by simp only [maxLen]; omega) (Nat.zero_le _) ?_
           intro w6 hown hgr
           have HO := Lib.hid (Own.of_owns hown)
           have HG := Lib.hid hgr
           clear hown hgr))
      have hgm := HM.out
      have HT6 := Lib.hid (HT5.out.trans (Touch.of_grown HG.out) (fun q hq e => by cases e))
      have hgmm : w.heap.size ≤ w5.heap.size := HT5.out.size
      have tg := Touch.of_grown HG.out
      have HRy := Lib.hid (HRys.out.touch tg (fun q hq e => by cases e))
      have HO6 : Own w6 4 1 (.slice (some ⟨w5.heap.size, 0, none⟩) N N) (some w5.heap.size) N (metL ys 0 N) := by
        have := HO.out
        rw [made_metV, ← metL_0 ys] at this
        exact this
      have HO6 := Lib.hid HO6
      have HRlt := Lib.hid (show w4.heap.size ≤ w5.heap.size from HS45.out)
      clear tg hgm
      generalize w5.heap.size = gm at *
      go_loopw [83] (fun i wr => ∃ j : Nat, j ≤ N ∧ i = .int .i64 j ∧ Own wr 4 1 (.slice (some ⟨gm, 0, none⟩) N N) (some gm) N (metL ys j N) ∧ Touch (fun q => q = gm) w6 wr) (fun i _ => N - (intOf i).toNat)
      case atStart => exact ⟨0, by omega, rfl, HO6.out, Touch.refl _ _⟩
      case round =>
        obtain ⟨j, hj, rfl, ho, hT⟩ := hrel
        have HO7 := Lib.hid ho
        have HT7 := Lib.hid hT
        clear ho hT
        by_cases hjN : j < N
        · have hyj := HP.out.2.1 j hjN
          have hnew := perm_new HP.out j hjN
          have hyl := HP.out.1
          obtain ⟨a, off, rfl, _, haF, hc⟩ := (HRy.out.touch HT7.out (fun q hq e => by omega)).2 (by omega)
          have hcj := hc j _ (get_I64 (by omega))
          simp only [I64] at hcj
          have HSx := fun (k : Nat) (e : ys.getD j 0 = (k : Int)) => metL_succ ys j N k (by omega) e
          generalize hyy : ys.getD j 0 = x at *
          obtain ⟨k, rfl⟩ := Int.eq_ofNat_of_zero_le hyj.1
          have HSet := Lib.hid (HSx k rfl)
          have hk : k < N := by omega
          have hck := HO7.out.cellAt k (by rw [metL_len]; exact hk)
          rw [metL_get ys j N k hk, hnew] at hck
          have hfk := HO7.out.frozen k
          have hki : (k : Int) < N := by omega
          have hkj : ¬ (N : Int) ≤ k := by omega
          clear hc hyj hnew hyy HSx hyl
          go_wp2_with fail
          go_roundw
          case rel =>
            have ho8 := HO7.out.storeAt k hk (.bool true)
            rw [HSet.out] at ho8
            exact ⟨j + 1, by omega, by go_num, ho8, HT7.out.trans ((Touch.refl (fun q => q = gm) wr).set (fun _ => rfl) _) (fun q hq e => e)⟩
          case measure => simp [intOf]; omega
        · obtain rfl : j = N := by omega
          go_wp2
          go_ret
          exact ⟨ret_bool (by simp), (HT6.out.trans HT7.out (fun q hq e => by omega)).below⟩
end Go.Proofs.Ytomapfklpoijbaa
