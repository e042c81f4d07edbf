/- The walk of MeterSizes. -/
import Derived.Test.YtomapfklpoijbaaMetE
namespace Go.Proofs.Ytomapfklpoijbaa
open Go.RowKit
set_option maxHeartbeats 4000000
set_option maxRecDepth 100000
set_option linter.unusedVariables false

theorem mswap_zero (p : Value) (x : Nat) (i : Int) (w : World) (hat : Calls Try.prog 65 #[p, .int .i64 i] (w.alloc (.cells #[.int .u64 (x : Nat)] 29)) fun o w' => o = .returned (.tuple #[.pointer none, .int .i64 1]) ∧ w.alloc (.cells #[.int .u64 (x : Nat)] 29) = w') :
    Calls Try.prog 27 #[p, .int .i64 i, .int .u64 x] w fun e w' => e = .returned (.tuple #[.int .u64 0, .int .i64 1]) ∧ Touch (fun _ => False) w w' := by
  have HTurn := Lib.hid (turn_bad p (.func (.func 68) #[] #[.pointer (some ⟨w.heap.size, 0, none⟩)]) i 1 (w.alloc (.cells #[.int .u64 (x : Nat)] 29)) hat (by decide))
  clear hat
  go_enter Try.func27, Try.ntmps27
  go_wp2_with (go_at_call 67; go_must (refine (HTurn.out).mono ?_); rintro e w1 ⟨rfl, rfl⟩)
  go_ret2
  exact ⟨rfl, (Touch.refl _ w).alloc _⟩

theorem madd_zero (p : Value) (x : Nat) (i : Int) (w : World) (hat : Calls Try.prog 65 #[p, .int .i64 i] (w.alloc (.cells #[.int .u64 (x : Nat)] 29)) fun o w' => o = .returned (.tuple #[.pointer none, .int .i64 1]) ∧ w.alloc (.cells #[.int .u64 (x : Nat)] 29) = w') :
    Calls Try.prog 32 #[p, .int .i64 i, .int .u64 x] w fun e w' => e = .returned (.tuple #[.int .u64 0, .int .i64 1]) ∧ Touch (fun _ => False) w w' := by
  have HTurn := Lib.hid (turn_bad p (.func (.func 76) #[] #[.pointer (some ⟨w.heap.size, 0, none⟩)]) i 1 (w.alloc (.cells #[.int .u64 (x : Nat)] 29)) hat (by decide))
  clear hat
  go_enter Try.func32, Try.ntmps32
  go_wp2_with (go_at_call 67; go_must (refine (HTurn.out).mono ?_); rintro e w1 ⟨rfl, rfl⟩)
  go_ret2
  exact ⟨rfl, (Touch.refl _ w).alloc _⟩

theorem mraise_zero (p : Value) (x : Nat) (i : Int) (w : World) (hat : Calls Try.prog 65 #[p, .int .i64 i] (w.alloc (.cells #[.int .u64 (x : Nat)] 29)) fun o w' => o = .returned (.tuple #[.pointer none, .int .i64 1]) ∧ w.alloc (.cells #[.int .u64 (x : Nat)] 29) = w') :
    Calls Try.prog 34 #[p, .int .i64 i, .int .u64 x] w fun e w' => e = .returned (.int .i64 1) ∧ Touch (fun _ => False) w w' := by
  have HTurn := Lib.hid (turn_bad p (.func (.func 77) #[] #[.pointer (some ⟨w.heap.size, 0, none⟩)]) i 1 (w.alloc (.cells #[.int .u64 (x : Nat)] 29)) hat (by decide))
  clear hat
  go_enter Try.func34, Try.ntmps34
  go_wp2_with (go_at_call 67; go_must (refine (HTurn.out).mono ?_); rintro e w1 ⟨rfl, rfl⟩)
  go_ret
  exact ⟨rfl, (Touch.refl _ w).alloc _⟩

theorem mget_zero (p : Value) (i : Int) (w : World) (hat : Calls Try.prog 65 #[p, .int .i64 i] w fun o w' => o = .returned (.tuple #[.pointer none, .int .i64 1]) ∧ w = w') :
    Calls Try.prog 33 #[p, .int .i64 i] w fun e w' => e = .returned (.int .u64 0) ∧ w = w' := by
  have HA := Lib.hid hat
  clear hat
  go_enter Try.func33, Try.ntmps33
  go_wp2_with (go_at_call 65; go_must (refine HA.out.mono ?_); rintro e w1 ⟨rfl, rfl⟩)
  go_ret
  exact ⟨rfl, rfl⟩

theorem monce_zero (p : Value) (i : Int) (w : World) (hat : Calls Try.prog 65 #[p, .int .i64 i] w fun o w' => o = .returned (.tuple #[.pointer none, .int .i64 1]) ∧ w = w') :
    Calls Try.prog 26 #[p, .int .i64 i] w fun e w' => e = .returned (.bool false) ∧ w = w' := by
  have HA := Lib.hid hat
  clear hat
  go_enter Try.func26, Try.ntmps26
  go_wp2_with (go_at_call 65; go_must (refine HA.out.mono ?_); rintro e w1 ⟨rfl, rfl⟩)
  go_ret
  exact ⟨rfl, rfl⟩

theorem addE_0 (n : Nat) (i : Int) (x : Nat) : (opE addF (List.replicate n 0) i x == 2) = !decide (0 ≤ i ∧ i < n) := by
  unfold opE
  by_cases h : inR (List.replicate n 0) i
  · rw [if_pos h]
    have h' : 0 ≤ i ∧ i < n := by simpa [inR] using h
    rw [decide_eq_true h']
    unfold addF; split <;> rfl
  · rw [if_neg h]
    have h' : ¬ (0 ≤ i ∧ i < n) := by simpa [inR] using h
    rw [decide_eq_false h']; rfl
theorem addC_len (F : OpF) (cs : List Nat) (i : Int) (x : Nat) : (opC F cs i x).length = cs.length := by unfold opC; split <;> simp
theorem out_all (cs : List Nat) (i : Int) (x : Nat) (h : i < 0 ∨ (cs.length : Int) ≤ i) : getV cs i = 0 ∧ onceB cs i = false ∧ onceC cs i = cs ∧ opE raiseF cs i x = 2 := by
  have hn : ¬ inR cs i := by unfold inR; omega
  have hb : onceB cs i = false := by rw [onceB, decide_eq_false hn]; rfl
  exact ⟨by rw [getV, if_neg hn], hb, by rw [onceC, if_neg (by rw [hb]; simp)], by rw [opE, if_neg hn]⟩

theorem walk_MeterSizes {w : World} (a0 : Int) (k0 : -9223372036854775808 ≤ a0 ∧ a0 ≤ 9223372036854775807) (a1 : Int) (k1 : -9223372036854775808 ≤ a1 ∧ a1 ≤ 9223372036854775807) (a2 : Int) (k2 : 0 ≤ a2 ∧ a2 ≤ 18446744073709551615) :
    Calls Try.prog 7 #[.int .i64 a0, .int .i64 a1, .int .u64 a2] w fun e w' => e = .returned (.bool true) ∧ Below w.heap.size w w' := by
  obtain ⟨x2, rfl⟩ := Int.eq_ofNat_of_zero_le k2.1
  clear k0 k1 k2
  have HTw := Lib.hid (Touch.refl (fun _ => False) w)
  by_cases hlo : a0 < 1
  · have HN := Lib.hid (mnew_no a0 w (.inl hlo))
    have hlo' : ¬ 1 ≤ a0 := by omega
    go_enter Try.func7, Try.ntmps7
    go_wp2_with (go_at_call 25; go_must (refine HN.out.mono ?_); rintro e w1 ⟨rfl, rfl⟩)
    have HMz0 : MAt ((w.alloc (.cells (mcells []).toArray 76)).alloc (.cells #[.pointer none, .pointer (some ⟨w.heap.size, 0, none⟩)] 52)) w.heap.size [] :=
      ⟨by simp, by simp, (Blk.new w 76 _).alloc _⟩
    have HBl0 : Blk ((w.alloc (.cells (mcells []).toArray 76)).alloc (.cells #[.pointer none, .pointer (some ⟨w.heap.size, 0, none⟩)] 52)) (w.heap.size + 1) 52 #[.pointer none, .pointer (some ⟨w.heap.size, 0, none⟩)] := by
      have := Blk.new (w.alloc (.cells (mcells []).toArray 76)) 52 #[.pointer none, .pointer (some ⟨w.heap.size, 0, none⟩)]
      simpa using this
    have HT0 := Lib.hid ((HTw.out.alloc (.cells (mcells []).toArray 76)).alloc (.cells #[.pointer none, .pointer (some ⟨w.heap.size, 0, none⟩)] 52))
    have HTz0 := Lib.hid (Touch.refl (fun _ => False) ((w.alloc (.cells (mcells []).toArray 76)).alloc (.cells #[.pointer none, .pointer (some ⟨w.heap.size, 0, none⟩)] 52)))
    have HMz := Lib.hid HMz0
    have HBl := Lib.hid HBl0
    clear HMz0 HBl0
    have hws : Obj.cells (mcells []).toArray 76 = Obj.cells #[.int .u64 0, .int .u64 0, .int .u64 0, .int .u64 0, .int .u64 0, .int .u64 0, .int .u64 0, .int .u64 0, .int .u64 0, .int .u64 0, .int .u64 0, .int .u64 0, .int .u64 0, .int .u64 0, .int .u64 0, .int .u64 0, .int .i64 0] 76 := rfl
    rw [← hws]
    clear hws
    generalize hgz : w.heap.size = gz at *
    generalize hwz : (w.alloc (.cells (mcells []).toArray 76)).alloc (.cells #[.pointer none, .pointer (some ⟨gz, 0, none⟩)] 52) = wz at *
    clear hgz hwz
    go_loopw [75] (fun i wr => ∃ j : Nat, j ≤ 2 ∧ i = .int .i64 j ∧ Touch (fun _ => False) wz wr) (fun i _ => 2 - (intOf i).toNat)
    case atStart => exact ⟨0, by omega, rfl, HTz0.out⟩
    case round =>
      obtain ⟨j, hj, rfl, hT⟩ := hrel
      have HTz := Lib.hid hT
      have hB := hT.blk HBl.out (fun e => e)
      clear hT
      have h0 := hB.cell 0
      have h1 := hB.cell 1
      simp at h0 h1
      clear hB
      have hjj : j = 0 ∨ j = 1 ∨ j = 2 := by omega
      rcases hjj with rfl | rfl | rfl
      · go_wp2_with (first
          | (go_at_call 32; go_must (refine (madd_zero (.pointer none) x2 a1 _ (by exact (at_nil a1 _))).mono ?_); rintro e w3 ⟨rfl, t3⟩; have HTz := Lib.hid (HTz.out.trans t3 (fun _ _ e => e)); clear t3)
          | (go_at_call 27; go_must (refine (mswap_zero (.pointer none) x2 a1 _ (by exact (at_nil a1 _))).mono ?_); rintro e w3 ⟨rfl, t3⟩; have HTz := Lib.hid (HTz.out.trans t3 (fun _ _ e => e)); clear t3)
          | (go_at_call 34; go_must (refine (mraise_zero (.pointer none) x2 a1 _ (by exact (at_nil a1 _))).mono ?_); rintro e w3 ⟨rfl, t3⟩; have HTz := Lib.hid (HTz.out.trans t3 (fun _ _ e => e)); clear t3)
          | (go_at_call 33; go_must (refine (mget_zero (.pointer none) a1 _ (by exact (at_nil a1 _))).mono ?_); rintro e w3 ⟨rfl, rfl⟩)
          | (go_at_call 26; go_must (refine (monce_zero (.pointer none) a1 _ (by exact (at_nil a1 _))).mono ?_); rintro e w3 ⟨rfl, rfl⟩)
          | (go_at_call 29; go_must (refine (show Calls Try.prog 29 #[(.pointer none)] _ (NewSl _ []) from (mall_nil _)).mono ?_); rintro e w3 ⟨A3, c3, rfl, -, -, -, t3⟩; have HTz := Lib.hid (HTz.out.trans t3 (fun _ _ e => e)); clear t3)
          | (go_at_call 30; go_must (refine (msum_any _ [] _ (by simpa using mall_nil _) (by simp)).mono ?_); rintro e w3 ⟨rfl, t3⟩; rw [show sumM [] = 0 from rfl]; have HTz := Lib.hid (HTz.out.trans t3 (fun _ _ e => e)); clear t3)
          | (go_at_call 31; go_must (refine (mlen_nil _).mono ?_); rintro e w3 ⟨rfl, rfl⟩))
        go_roundw
        case rel => exact ⟨1, by omega, by go_num, HTz.out⟩
        case measure => simp [intOf]
      · go_wp2_with (first
          | (go_at_call 32; go_must (refine (madd_zero (.pointer (some ⟨gz, 0, none⟩)) x2 a1 _ (by exact (at_none gz a1 _ ((HMz.out.touch HTz.out (fun e => e)).touch ((Touch.refl (fun _ => False) _).alloc _) (fun e => e))))).mono ?_); rintro e w3 ⟨rfl, t3⟩; have HTz := Lib.hid (HTz.out.trans t3 (fun _ _ e => e)); clear t3)
          | (go_at_call 27; go_must (refine (mswap_zero (.pointer (some ⟨gz, 0, none⟩)) x2 a1 _ (by exact (at_none gz a1 _ ((HMz.out.touch HTz.out (fun e => e)).touch ((Touch.refl (fun _ => False) _).alloc _) (fun e => e))))).mono ?_); rintro e w3 ⟨rfl, t3⟩; have HTz := Lib.hid (HTz.out.trans t3 (fun _ _ e => e)); clear t3)
          | (go_at_call 34; go_must (refine (mraise_zero (.pointer (some ⟨gz, 0, none⟩)) x2 a1 _ (by exact (at_none gz a1 _ ((HMz.out.touch HTz.out (fun e => e)).touch ((Touch.refl (fun _ => False) _).alloc _) (fun e => e))))).mono ?_); rintro e w3 ⟨rfl, t3⟩; have HTz := Lib.hid (HTz.out.trans t3 (fun _ _ e => e)); clear t3)
          | (go_at_call 33; go_must (refine (mget_zero (.pointer (some ⟨gz, 0, none⟩)) a1 _ (by exact (at_none gz a1 _ (HMz.out.touch HTz.out (fun e => e))))).mono ?_); rintro e w3 ⟨rfl, rfl⟩)
          | (go_at_call 26; go_must (refine (monce_zero (.pointer (some ⟨gz, 0, none⟩)) a1 _ (by exact (at_none gz a1 _ (HMz.out.touch HTz.out (fun e => e))))).mono ?_); rintro e w3 ⟨rfl, rfl⟩)
          | (go_at_call 29; go_must (refine (show Calls Try.prog 29 #[(.pointer (some ⟨gz, 0, none⟩))] _ (NewSl _ []) from (by simpa using mall_any gz [] _ (HMz.out.touch HTz.out (fun e => e)))).mono ?_); rintro e w3 ⟨A3, c3, rfl, -, -, -, t3⟩; have HTz := Lib.hid (HTz.out.trans t3 (fun _ _ e => e)); clear t3)
          | (go_at_call 30; go_must (refine (msum_any _ [] _ (mall_any gz [] _ (HMz.out.touch HTz.out (fun e => e))) (by simp)).mono ?_); rintro e w3 ⟨rfl, t3⟩; rw [show sumM [] = 0 from rfl]; have HTz := Lib.hid (HTz.out.trans t3 (fun _ _ e => e)); clear t3)
          | (go_at_call 31; go_must (refine (mlen_any gz [] _ (HMz.out.touch HTz.out (fun e => e))).mono ?_); rintro e w3 ⟨rfl, rfl⟩))
        go_roundw
        case rel => exact ⟨2, by omega, by go_num, HTz.out⟩
        case measure => simp [intOf]
      · go_wp2_with (go_at_call 24; go_must (refine (lives05_any _).mono ?_); rintro e w3 ⟨rfl, t3⟩; have HTz := Lib.hid (HTz.out.trans t3 (fun _ _ e => e)); clear t3)
        go_ret
        exact ⟨rfl, (HT0.out.trans HTz.out (fun _ _ e => e)).below⟩
  by_cases hhi : 16 < a0
  · have HN := Lib.hid (mnew_no a0 w (.inr hhi))
    have hhi' : ¬ a0 ≤ 16 := by omega
    go_enter Try.func7, Try.ntmps7
    go_wp2_with (go_at_call 25; go_must (refine HN.out.mono ?_); rintro e w1 ⟨rfl, rfl⟩)
    have HMz0 : MAt ((w.alloc (.cells (mcells []).toArray 76)).alloc (.cells #[.pointer none, .pointer (some ⟨w.heap.size, 0, none⟩)] 52)) w.heap.size [] :=
      ⟨by simp, by simp, (Blk.new w 76 _).alloc _⟩
    have HBl0 : Blk ((w.alloc (.cells (mcells []).toArray 76)).alloc (.cells #[.pointer none, .pointer (some ⟨w.heap.size, 0, none⟩)] 52)) (w.heap.size + 1) 52 #[.pointer none, .pointer (some ⟨w.heap.size, 0, none⟩)] := by
      have := Blk.new (w.alloc (.cells (mcells []).toArray 76)) 52 #[.pointer none, .pointer (some ⟨w.heap.size, 0, none⟩)]
      simpa using this
    have HT0 := Lib.hid ((HTw.out.alloc (.cells (mcells []).toArray 76)).alloc (.cells #[.pointer none, .pointer (some ⟨w.heap.size, 0, none⟩)] 52))
    have HTz0 := Lib.hid (Touch.refl (fun _ => False) ((w.alloc (.cells (mcells []).toArray 76)).alloc (.cells #[.pointer none, .pointer (some ⟨w.heap.size, 0, none⟩)] 52)))
    have HMz := Lib.hid HMz0
    have HBl := Lib.hid HBl0
    clear HMz0 HBl0
    have hws : Obj.cells (mcells []).toArray 76 = Obj.cells #[.int .u64 0, .int .u64 0, .int .u64 0, .int .u64 0, .int .u64 0, .int .u64 0, .int .u64 0, .int .u64 0, .int .u64 0, .int .u64 0, .int .u64 0, .int .u64 0, .int .u64 0, .int .u64 0, .int .u64 0, .int .u64 0, .int .i64 0] 76 := rfl
    rw [← hws]
    clear hws
    generalize hgz : w.heap.size = gz at *
    generalize hwz : (w.alloc (.cells (mcells []).toArray 76)).alloc (.cells #[.pointer none, .pointer (some ⟨gz, 0, none⟩)] 52) = wz at *
    clear hgz hwz
    go_loopw [75] (fun i wr => ∃ j : Nat, j ≤ 2 ∧ i = .int .i64 j ∧ Touch (fun _ => False) wz wr) (fun i _ => 2 - (intOf i).toNat)
    case atStart => exact ⟨0, by omega, rfl, HTz0.out⟩
    case round =>
      obtain ⟨j, hj, rfl, hT⟩ := hrel
      have HTz := Lib.hid hT
      have hB := hT.blk HBl.out (fun e => e)
      clear hT
      have h0 := hB.cell 0
      have h1 := hB.cell 1
      simp at h0 h1
      clear hB
      have hjj : j = 0 ∨ j = 1 ∨ j = 2 := by omega
      rcases hjj with rfl | rfl | rfl
      · go_wp2_with (first
          | (go_at_call 32; go_must (refine (madd_zero (.pointer none) x2 a1 _ (by exact (at_nil a1 _))).mono ?_); rintro e w3 ⟨rfl, t3⟩; have HTz := Lib.hid (HTz.out.trans t3 (fun _ _ e => e)); clear t3)
          | (go_at_call 27; go_must (refine (mswap_zero (.pointer none) x2 a1 _ (by exact (at_nil a1 _))).mono ?_); rintro e w3 ⟨rfl, t3⟩; have HTz := Lib.hid (HTz.out.trans t3 (fun _ _ e => e)); clear t3)
          | (go_at_call 34; go_must (refine (mraise_zero (.pointer none) x2 a1 _ (by exact (at_nil a1 _))).mono ?_); rintro e w3 ⟨rfl, t3⟩; have HTz := Lib.hid (HTz.out.trans t3 (fun _ _ e => e)); clear t3)
          | (go_at_call 33; go_must (refine (mget_zero (.pointer none) a1 _ (by exact (at_nil a1 _))).mono ?_); rintro e w3 ⟨rfl, rfl⟩)
          | (go_at_call 26; go_must (refine (monce_zero (.pointer none) a1 _ (by exact (at_nil a1 _))).mono ?_); rintro e w3 ⟨rfl, rfl⟩)
          | (go_at_call 29; go_must (refine (show Calls Try.prog 29 #[(.pointer none)] _ (NewSl _ []) from (mall_nil _)).mono ?_); rintro e w3 ⟨A3, c3, rfl, -, -, -, t3⟩; have HTz := Lib.hid (HTz.out.trans t3 (fun _ _ e => e)); clear t3)
          | (go_at_call 30; go_must (refine (msum_any _ [] _ (by simpa using mall_nil _) (by simp)).mono ?_); rintro e w3 ⟨rfl, t3⟩; rw [show sumM [] = 0 from rfl]; have HTz := Lib.hid (HTz.out.trans t3 (fun _ _ e => e)); clear t3)
          | (go_at_call 31; go_must (refine (mlen_nil _).mono ?_); rintro e w3 ⟨rfl, rfl⟩))
        go_roundw
        case rel => exact ⟨1, by omega, by go_num, HTz.out⟩
        case measure => simp [intOf]
      · go_wp2_with (first
          | (go_at_call 32; go_must (refine (madd_zero (.pointer (some ⟨gz, 0, none⟩)) x2 a1 _ (by exact (at_none gz a1 _ ((HMz.out.touch HTz.out (fun e => e)).touch ((Touch.refl (fun _ => False) _).alloc _) (fun e => e))))).mono ?_); rintro e w3 ⟨rfl, t3⟩; have HTz := Lib.hid (HTz.out.trans t3 (fun _ _ e => e)); clear t3)
          | (go_at_call 27; go_must (refine (mswap_zero (.pointer (some ⟨gz, 0, none⟩)) x2 a1 _ (by exact (at_none gz a1 _ ((HMz.out.touch HTz.out (fun e => e)).touch ((Touch.refl (fun _ => False) _).alloc _) (fun e => e))))).mono ?_); rintro e w3 ⟨rfl, t3⟩; have HTz := Lib.hid (HTz.out.trans t3 (fun _ _ e => e)); clear t3)
          | (go_at_call 34; go_must (refine (mraise_zero (.pointer (some ⟨gz, 0, none⟩)) x2 a1 _ (by exact (at_none gz a1 _ ((HMz.out.touch HTz.out (fun e => e)).touch ((Touch.refl (fun _ => False) _).alloc _) (fun e => e))))).mono ?_); rintro e w3 ⟨rfl, t3⟩; have HTz := Lib.hid (HTz.out.trans t3 (fun _ _ e => e)); clear t3)
          | (go_at_call 33; go_must (refine (mget_zero (.pointer (some ⟨gz, 0, none⟩)) a1 _ (by exact (at_none gz a1 _ (HMz.out.touch HTz.out (fun e => e))))).mono ?_); rintro e w3 ⟨rfl, rfl⟩)
          | (go_at_call 26; go_must (refine (monce_zero (.pointer (some ⟨gz, 0, none⟩)) a1 _ (by exact (at_none gz a1 _ (HMz.out.touch HTz.out (fun e => e))))).mono ?_); rintro e w3 ⟨rfl, rfl⟩)
          | (go_at_call 29; go_must (refine (show Calls Try.prog 29 #[(.pointer (some ⟨gz, 0, none⟩))] _ (NewSl _ []) from (by simpa using mall_any gz [] _ (HMz.out.touch HTz.out (fun e => e)))).mono ?_); rintro e w3 ⟨A3, c3, rfl, -, -, -, t3⟩; have HTz := Lib.hid (HTz.out.trans t3 (fun _ _ e => e)); clear t3)
          | (go_at_call 30; go_must (refine (msum_any _ [] _ (mall_any gz [] _ (HMz.out.touch HTz.out (fun e => e))) (by simp)).mono ?_); rintro e w3 ⟨rfl, t3⟩; rw [show sumM [] = 0 from rfl]; have HTz := Lib.hid (HTz.out.trans t3 (fun _ _ e => e)); clear t3)
          | (go_at_call 31; go_must (refine (mlen_any gz [] _ (HMz.out.touch HTz.out (fun e => e))).mono ?_); rintro e w3 ⟨rfl, rfl⟩))
        go_roundw
        case rel => exact ⟨2, by omega, by go_num, HTz.out⟩
        case measure => simp [intOf]
      · go_wp2_with (go_at_call 24; go_must (refine (lives05_any _).mono ?_); rintro e w3 ⟨rfl, t3⟩; have HTz := Lib.hid (HTz.out.trans t3 (fun _ _ e => e)); clear t3)
        go_ret
        exact ⟨rfl, (HT0.out.trans HTz.out (fun _ _ e => e)).below⟩
  obtain ⟨n, rfl⟩ := Int.eq_ofNat_of_zero_le (show 0 ≤ a0 by omega)
  have hn1 : 1 ≤ n := by omega
  have hn16 : n ≤ 16 := by omega
  have HE := Lib.hid (addE_0 n a1 x2)
  have HLn := Lib.hid (addC_len addF (List.replicate n 0) a1 x2)
  rw [List.length_replicate] at HLn
  have HAll := Lib.hid (fun h => out_all (opC addF (List.replicate n 0) a1 x2) a1 x2 h)
  have hlo1 : (1 : Int) ≤ n := by omega
  have hhi1 : (n : Int) ≤ 16 := by omega
  clear hlo hhi
  generalize hee : opE addF (List.replicate n 0) a1 x2 = ee at *
  generalize hcc : opC addF (List.replicate n 0) a1 x2 = cc at *
  have HEE := Lib.hid (And.intro hee hcc)
  clear hee hcc
  by_cases hin : 0 ≤ a1 ∧ a1 < n
  · rw [decide_eq_true hin] at HE
    have he2 : (ee == 2) = false := HE.out
    have hi0 : ¬ a1 < 0 := by omega
    have hi1 : ¬ (n : Int) ≤ a1 := by omega
    clear hin
    go_enter Try.func7, Try.ntmps7
    go_wp2_with (first
      | (go_at_call 25; go_must (refine (mnew_ok n w hn1 hn16).mono ?_); rintro e w1 ⟨rfl, hm, t1⟩; have HM := Lib.hid hm; have HT := Lib.hid t1; have hgl := hm.2.2.lt; clear hm t1)
      | (go_at_call 32; go_must (refine (madd_any w.heap.size x2 a1 (List.replicate n 0) w1 (by exact HM.out) (by simp; omega)).mono ?_); rintro e w2 ⟨rfl, hm, t3⟩; rw [HEE.out.1]; rw [HEE.out.2] at hm; have HM2 := Lib.hid hm; have HT2 := Lib.hid (HT.out.trans t3 (fun q hq e => by omega)); have hgl2 := hm.2.2.lt; clear hm t3))
    have HMz0 : MAt ((w2.alloc (.cells (mcells []).toArray 76)).alloc (.cells #[.pointer none, .pointer (some ⟨w2.heap.size, 0, none⟩)] 52)) w2.heap.size [] :=
      ⟨by simp, by simp, (Blk.new w2 76 _).alloc _⟩
    have HBl0 : Blk ((w2.alloc (.cells (mcells []).toArray 76)).alloc (.cells #[.pointer none, .pointer (some ⟨w2.heap.size, 0, none⟩)] 52)) (w2.heap.size + 1) 52 #[.pointer none, .pointer (some ⟨w2.heap.size, 0, none⟩)] := by
      have := Blk.new (w2.alloc (.cells (mcells []).toArray 76)) 52 #[.pointer none, .pointer (some ⟨w2.heap.size, 0, none⟩)]
      simpa using this
    have HT0 := Lib.hid ((HT2.out.alloc (.cells (mcells []).toArray 76)).alloc (.cells #[.pointer none, .pointer (some ⟨w2.heap.size, 0, none⟩)] 52))
    have HTz0 := Lib.hid (Touch.refl (fun _ => False) ((w2.alloc (.cells (mcells []).toArray 76)).alloc (.cells #[.pointer none, .pointer (some ⟨w2.heap.size, 0, none⟩)] 52)))
    have HMz := Lib.hid HMz0
    have HBl := Lib.hid HBl0
    clear HMz0 HBl0
    have hws : Obj.cells (mcells []).toArray 76 = Obj.cells #[.int .u64 0, .int .u64 0, .int .u64 0, .int .u64 0, .int .u64 0, .int .u64 0, .int .u64 0, .int .u64 0, .int .u64 0, .int .u64 0, .int .u64 0, .int .u64 0, .int .u64 0, .int .u64 0, .int .u64 0, .int .u64 0, .int .i64 0] 76 := rfl
    rw [← hws]
    clear hws
    generalize hgz : w2.heap.size = gz at *
    generalize hwz : (w2.alloc (.cells (mcells []).toArray 76)).alloc (.cells #[.pointer none, .pointer (some ⟨gz, 0, none⟩)] 52) = wz at *
    clear hgz hwz
    go_loopw [75] (fun i wr => ∃ j : Nat, j ≤ 2 ∧ i = .int .i64 j ∧ Touch (fun _ => False) wz wr) (fun i _ => 2 - (intOf i).toNat)
    case atStart => exact ⟨0, by omega, rfl, HTz0.out⟩
    case round =>
      obtain ⟨j, hj, rfl, hT⟩ := hrel
      have HTz := Lib.hid hT
      have hB := hT.blk HBl.out (fun e => e)
      clear hT
      have h0 := hB.cell 0
      have h1 := hB.cell 1
      simp at h0 h1
      clear hB
      have hjj : j = 0 ∨ j = 1 ∨ j = 2 := by omega
      rcases hjj with rfl | rfl | rfl
      · go_wp2_with (first
          | (go_at_call 32; go_must (refine (madd_zero (.pointer none) x2 a1 _ (by exact (at_nil a1 _))).mono ?_); rintro e w3 ⟨rfl, t3⟩; have HTz := Lib.hid (HTz.out.trans t3 (fun _ _ e => e)); clear t3)
          | (go_at_call 27; go_must (refine (mswap_zero (.pointer none) x2 a1 _ (by exact (at_nil a1 _))).mono ?_); rintro e w3 ⟨rfl, t3⟩; have HTz := Lib.hid (HTz.out.trans t3 (fun _ _ e => e)); clear t3)
          | (go_at_call 34; go_must (refine (mraise_zero (.pointer none) x2 a1 _ (by exact (at_nil a1 _))).mono ?_); rintro e w3 ⟨rfl, t3⟩; have HTz := Lib.hid (HTz.out.trans t3 (fun _ _ e => e)); clear t3)
          | (go_at_call 33; go_must (refine (mget_zero (.pointer none) a1 _ (by exact (at_nil a1 _))).mono ?_); rintro e w3 ⟨rfl, rfl⟩)
          | (go_at_call 26; go_must (refine (monce_zero (.pointer none) a1 _ (by exact (at_nil a1 _))).mono ?_); rintro e w3 ⟨rfl, rfl⟩)
          | (go_at_call 29; go_must (refine (show Calls Try.prog 29 #[(.pointer none)] _ (NewSl _ []) from (mall_nil _)).mono ?_); rintro e w3 ⟨A3, c3, rfl, -, -, -, t3⟩; have HTz := Lib.hid (HTz.out.trans t3 (fun _ _ e => e)); clear t3)
          | (go_at_call 30; go_must (refine (msum_any _ [] _ (by simpa using mall_nil _) (by simp)).mono ?_); rintro e w3 ⟨rfl, t3⟩; rw [show sumM [] = 0 from rfl]; have HTz := Lib.hid (HTz.out.trans t3 (fun _ _ e => e)); clear t3)
          | (go_at_call 31; go_must (refine (mlen_nil _).mono ?_); rintro e w3 ⟨rfl, rfl⟩))
        go_roundw
        case rel => exact ⟨1, by omega, by go_num, HTz.out⟩
        case measure => simp [intOf]
      · go_wp2_with (first
          | (go_at_call 32; go_must (refine (madd_zero (.pointer (some ⟨gz, 0, none⟩)) x2 a1 _ (by exact (at_none gz a1 _ ((HMz.out.touch HTz.out (fun e => e)).touch ((Touch.refl (fun _ => False) _).alloc _) (fun e => e))))).mono ?_); rintro e w3 ⟨rfl, t3⟩; have HTz := Lib.hid (HTz.out.trans t3 (fun _ _ e => e)); clear t3)
          | (go_at_call 27; go_must (refine (mswap_zero (.pointer (some ⟨gz, 0, none⟩)) x2 a1 _ (by exact (at_none gz a1 _ ((HMz.out.touch HTz.out (fun e => e)).touch ((Touch.refl (fun _ => False) _).alloc _) (fun e => e))))).mono ?_); rintro e w3 ⟨rfl, t3⟩; have HTz := Lib.hid (HTz.out.trans t3 (fun _ _ e => e)); clear t3)
          | (go_at_call 34; go_must (refine (mraise_zero (.pointer (some ⟨gz, 0, none⟩)) x2 a1 _ (by exact (at_none gz a1 _ ((HMz.out.touch HTz.out (fun e => e)).touch ((Touch.refl (fun _ => False) _).alloc _) (fun e => e))))).mono ?_); rintro e w3 ⟨rfl, t3⟩; have HTz := Lib.hid (HTz.out.trans t3 (fun _ _ e => e)); clear t3)
          | (go_at_call 33; go_must (refine (mget_zero (.pointer (some ⟨gz, 0, none⟩)) a1 _ (by exact (at_none gz a1 _ (HMz.out.touch HTz.out (fun e => e))))).mono ?_); rintro e w3 ⟨rfl, rfl⟩)
          | (go_at_call 26; go_must (refine (monce_zero (.pointer (some ⟨gz, 0, none⟩)) a1 _ (by exact (at_none gz a1 _ (HMz.out.touch HTz.out (fun e => e))))).mono ?_); rintro e w3 ⟨rfl, rfl⟩)
          | (go_at_call 29; go_must (refine (show Calls Try.prog 29 #[(.pointer (some ⟨gz, 0, none⟩))] _ (NewSl _ []) from (by simpa using mall_any gz [] _ (HMz.out.touch HTz.out (fun e => e)))).mono ?_); rintro e w3 ⟨A3, c3, rfl, -, -, -, t3⟩; have HTz := Lib.hid (HTz.out.trans t3 (fun _ _ e => e)); clear t3)
          | (go_at_call 30; go_must (refine (msum_any _ [] _ (mall_any gz [] _ (HMz.out.touch HTz.out (fun e => e))) (by simp)).mono ?_); rintro e w3 ⟨rfl, t3⟩; rw [show sumM [] = 0 from rfl]; have HTz := Lib.hid (HTz.out.trans t3 (fun _ _ e => e)); clear t3)
          | (go_at_call 31; go_must (refine (mlen_any gz [] _ (HMz.out.touch HTz.out (fun e => e))).mono ?_); rintro e w3 ⟨rfl, rfl⟩))
        go_roundw
        case rel => exact ⟨2, by omega, by go_num, HTz.out⟩
        case measure => simp [intOf]
      · go_wp2_with (go_at_call 24; go_must (refine (lives05_any _).mono ?_); rintro e w3 ⟨rfl, t3⟩; have HTz := Lib.hid (HTz.out.trans t3 (fun _ _ e => e)); clear t3)
        go_ret
        exact ⟨rfl, (HT0.out.trans HTz.out (fun _ _ e => e)).below⟩
  · rw [decide_eq_false hin] at HE
    have he2 : (ee == 2) = true := HE.out
    have HO := Lib.hid (HAll.out (by have := HLn.out; omega))
    by_cases hneg : a1 < 0
    · clear hin
      go_enter Try.func7, Try.ntmps7
      go_wp2_with (first
        | (go_at_call 25; go_must (refine (mnew_ok n w hn1 hn16).mono ?_); rintro e w1 ⟨rfl, hm, t1⟩; have HM := Lib.hid hm; have HT := Lib.hid t1; have hgl := hm.2.2.lt; clear hm t1)
        | (go_at_call 32; go_must (refine (madd_any w.heap.size x2 a1 (List.replicate n 0) w1 (by exact HM.out) (by simp; omega)).mono ?_); rintro e w2 ⟨rfl, hm, t3⟩; rw [HEE.out.1]; rw [HEE.out.2] at hm; have HM2 := Lib.hid hm; have HT2 := Lib.hid (HT.out.trans t3 (fun q hq e => by omega)); have hgl2 := hm.2.2.lt; clear hm t3)
        | (go_at_call 33; go_must (refine (mget_any w.heap.size a1 cc w2 (by exact HM2.out) (by have := HLn.out; omega)).mono ?_); rintro e w3 ⟨rfl, rfl⟩; rw [(HO.out).1])
        | (go_at_call 26; go_must (refine (monce_any w.heap.size a1 cc w2 (by exact HM2.out) (by have := HLn.out; omega)).mono ?_); rintro e w4 ⟨rfl, hm, t3⟩; rw [(HO.out).2.1]; rw [(HO.out).2.2.1] at hm; have HM4 := Lib.hid hm; have HT4 := Lib.hid (HT2.out.trans t3 (fun q hq e => by omega)); clear hm t3)
        | (go_at_call 34; go_must (refine (mraise_any w.heap.size x2 a1 cc w4 (by exact HM4.out) (by have := HLn.out; omega)).mono ?_); rintro e w5 ⟨rfl, hm, t3⟩; rw [(HO.out).2.2.2]; have HT5 := Lib.hid (HT4.out.trans t3 (fun q hq e => by omega)); clear hm t3))
      have HMz0 : MAt ((w5.alloc (.cells (mcells []).toArray 76)).alloc (.cells #[.pointer none, .pointer (some ⟨w5.heap.size, 0, none⟩)] 52)) w5.heap.size [] :=
        ⟨by simp, by simp, (Blk.new w5 76 _).alloc _⟩
      have HBl0 : Blk ((w5.alloc (.cells (mcells []).toArray 76)).alloc (.cells #[.pointer none, .pointer (some ⟨w5.heap.size, 0, none⟩)] 52)) (w5.heap.size + 1) 52 #[.pointer none, .pointer (some ⟨w5.heap.size, 0, none⟩)] := by
        have := Blk.new (w5.alloc (.cells (mcells []).toArray 76)) 52 #[.pointer none, .pointer (some ⟨w5.heap.size, 0, none⟩)]
        simpa using this
      have HT0 := Lib.hid ((HT5.out.alloc (.cells (mcells []).toArray 76)).alloc (.cells #[.pointer none, .pointer (some ⟨w5.heap.size, 0, none⟩)] 52))
      have HTz0 := Lib.hid (Touch.refl (fun _ => False) ((w5.alloc (.cells (mcells []).toArray 76)).alloc (.cells #[.pointer none, .pointer (some ⟨w5.heap.size, 0, none⟩)] 52)))
      have HMz := Lib.hid HMz0
      have HBl := Lib.hid HBl0
      clear HMz0 HBl0
      have hws : Obj.cells (mcells []).toArray 76 = Obj.cells #[.int .u64 0, .int .u64 0, .int .u64 0, .int .u64 0, .int .u64 0, .int .u64 0, .int .u64 0, .int .u64 0, .int .u64 0, .int .u64 0, .int .u64 0, .int .u64 0, .int .u64 0, .int .u64 0, .int .u64 0, .int .u64 0, .int .i64 0] 76 := rfl
      rw [← hws]
      clear hws
      generalize hgz : w5.heap.size = gz at *
      generalize hwz : (w5.alloc (.cells (mcells []).toArray 76)).alloc (.cells #[.pointer none, .pointer (some ⟨gz, 0, none⟩)] 52) = wz at *
      clear hgz hwz
      go_loopw [75] (fun i wr => ∃ j : Nat, j ≤ 2 ∧ i = .int .i64 j ∧ Touch (fun _ => False) wz wr) (fun i _ => 2 - (intOf i).toNat)
      case atStart => exact ⟨0, by omega, rfl, HTz0.out⟩
      case round =>
        obtain ⟨j, hj, rfl, hT⟩ := hrel
        have HTz := Lib.hid hT
        have hB := hT.blk HBl.out (fun e => e)
        clear hT
        have h0 := hB.cell 0
        have h1 := hB.cell 1
        simp at h0 h1
        clear hB
        have hjj : j = 0 ∨ j = 1 ∨ j = 2 := by omega
        rcases hjj with rfl | rfl | rfl
        · go_wp2_with (first
            | (go_at_call 32; go_must (refine (madd_zero (.pointer none) x2 a1 _ (by exact (at_nil a1 _))).mono ?_); rintro e w3 ⟨rfl, t3⟩; have HTz := Lib.hid (HTz.out.trans t3 (fun _ _ e => e)); clear t3)
            | (go_at_call 27; go_must (refine (mswap_zero (.pointer none) x2 a1 _ (by exact (at_nil a1 _))).mono ?_); rintro e w3 ⟨rfl, t3⟩; have HTz := Lib.hid (HTz.out.trans t3 (fun _ _ e => e)); clear t3)
            | (go_at_call 34; go_must (refine (mraise_zero (.pointer none) x2 a1 _ (by exact (at_nil a1 _))).mono ?_); rintro e w3 ⟨rfl, t3⟩; have HTz := Lib.hid (HTz.out.trans t3 (fun _ _ e => e)); clear t3)
            | (go_at_call 33; go_must (refine (mget_zero (.pointer none) a1 _ (by exact (at_nil a1 _))).mono ?_); rintro e w3 ⟨rfl, rfl⟩)
            | (go_at_call 26; go_must (refine (monce_zero (.pointer none) a1 _ (by exact (at_nil a1 _))).mono ?_); rintro e w3 ⟨rfl, rfl⟩)
            | (go_at_call 29; go_must (refine (show Calls Try.prog 29 #[(.pointer none)] _ (NewSl _ []) from (mall_nil _)).mono ?_); rintro e w3 ⟨A3, c3, rfl, -, -, -, t3⟩; have HTz := Lib.hid (HTz.out.trans t3 (fun _ _ e => e)); clear t3)
            | (go_at_call 30; go_must (refine (msum_any _ [] _ (by simpa using mall_nil _) (by simp)).mono ?_); rintro e w3 ⟨rfl, t3⟩; rw [show sumM [] = 0 from rfl]; have HTz := Lib.hid (HTz.out.trans t3 (fun _ _ e => e)); clear t3)
            | (go_at_call 31; go_must (refine (mlen_nil _).mono ?_); rintro e w3 ⟨rfl, rfl⟩))
          go_roundw
          case rel => exact ⟨1, by omega, by go_num, HTz.out⟩
          case measure => simp [intOf]
        · go_wp2_with (first
            | (go_at_call 32; go_must (refine (madd_zero (.pointer (some ⟨gz, 0, none⟩)) x2 a1 _ (by exact (at_none gz a1 _ ((HMz.out.touch HTz.out (fun e => e)).touch ((Touch.refl (fun _ => False) _).alloc _) (fun e => e))))).mono ?_); rintro e w3 ⟨rfl, t3⟩; have HTz := Lib.hid (HTz.out.trans t3 (fun _ _ e => e)); clear t3)
            | (go_at_call 27; go_must (refine (mswap_zero (.pointer (some ⟨gz, 0, none⟩)) x2 a1 _ (by exact (at_none gz a1 _ ((HMz.out.touch HTz.out (fun e => e)).touch ((Touch.refl (fun _ => False) _).alloc _) (fun e => e))))).mono ?_); rintro e w3 ⟨rfl, t3⟩; have HTz := Lib.hid (HTz.out.trans t3 (fun _ _ e => e)); clear t3)
            | (go_at_call 34; go_must (refine (mraise_zero (.pointer (some ⟨gz, 0, none⟩)) x2 a1 _ (by exact (at_none gz a1 _ ((HMz.out.touch HTz.out (fun e => e)).touch ((Touch.refl (fun _ => False) _).alloc _) (fun e => e))))).mono ?_); rintro e w3 ⟨rfl, t3⟩; have HTz := Lib.hid (HTz.out.trans t3 (fun _ _ e => e)); clear t3)
            | (go_at_call 33; go_must (refine (mget_zero (.pointer (some ⟨gz, 0, none⟩)) a1 _ (by exact (at_none gz a1 _ (HMz.out.touch HTz.out (fun e => e))))).mono ?_); rintro e w3 ⟨rfl, rfl⟩)
            | (go_at_call 26; go_must (refine (monce_zero (.pointer (some ⟨gz, 0, none⟩)) a1 _ (by exact (at_none gz a1 _ (HMz.out.touch HTz.out (fun e => e))))).mono ?_); rintro e w3 ⟨rfl, rfl⟩)
            | (go_at_call 29; go_must (refine (show Calls Try.prog 29 #[(.pointer (some ⟨gz, 0, none⟩))] _ (NewSl _ []) from (by simpa using mall_any gz [] _ (HMz.out.touch HTz.out (fun e => e)))).mono ?_); rintro e w3 ⟨A3, c3, rfl, -, -, -, t3⟩; have HTz := Lib.hid (HTz.out.trans t3 (fun _ _ e => e)); clear t3)
            | (go_at_call 30; go_must (refine (msum_any _ [] _ (mall_any gz [] _ (HMz.out.touch HTz.out (fun e => e))) (by simp)).mono ?_); rintro e w3 ⟨rfl, t3⟩; rw [show sumM [] = 0 from rfl]; have HTz := Lib.hid (HTz.out.trans t3 (fun _ _ e => e)); clear t3)
            | (go_at_call 31; go_must (refine (mlen_any gz [] _ (HMz.out.touch HTz.out (fun e => e))).mono ?_); rintro e w3 ⟨rfl, rfl⟩))
          go_roundw
          case rel => exact ⟨2, by omega, by go_num, HTz.out⟩
          case measure => simp [intOf]
        · go_wp2_with (go_at_call 24; go_must (refine (lives05_any _).mono ?_); rintro e w3 ⟨rfl, t3⟩; have HTz := Lib.hid (HTz.out.trans t3 (fun _ _ e => e)); clear t3)
          go_ret
          exact ⟨rfl, (HT0.out.trans HTz.out (fun _ _ e => e)).below⟩
    · have hge : (n : Int) ≤ a1 := by omega
      clear hin
      go_enter Try.func7, Try.ntmps7
      go_wp2_with (first
        | (go_at_call 25; go_must (refine (mnew_ok n w hn1 hn16).mono ?_); rintro e w1 ⟨rfl, hm, t1⟩; have HM := Lib.hid hm; have HT := Lib.hid t1; have hgl := hm.2.2.lt; clear hm t1)
        | (go_at_call 32; go_must (refine (madd_any w.heap.size x2 a1 (List.replicate n 0) w1 (by exact HM.out) (by simp; omega)).mono ?_); rintro e w2 ⟨rfl, hm, t3⟩; rw [HEE.out.1]; rw [HEE.out.2] at hm; have HM2 := Lib.hid hm; have HT2 := Lib.hid (HT.out.trans t3 (fun q hq e => by omega)); have hgl2 := hm.2.2.lt; clear hm t3)
        | (go_at_call 33; go_must (refine (mget_any w.heap.size a1 cc w2 (by exact HM2.out) (by have := HLn.out; omega)).mono ?_); rintro e w3 ⟨rfl, rfl⟩; rw [(HO.out).1])
        | (go_at_call 26; go_must (refine (monce_any w.heap.size a1 cc w2 (by exact HM2.out) (by have := HLn.out; omega)).mono ?_); rintro e w4 ⟨rfl, hm, t3⟩; rw [(HO.out).2.1]; rw [(HO.out).2.2.1] at hm; have HM4 := Lib.hid hm; have HT4 := Lib.hid (HT2.out.trans t3 (fun q hq e => by omega)); clear hm t3)
        | (go_at_call 34; go_must (refine (mraise_any w.heap.size x2 a1 cc w4 (by exact HM4.out) (by have := HLn.out; omega)).mono ?_); rintro e w5 ⟨rfl, hm, t3⟩; rw [(HO.out).2.2.2]; have HT5 := Lib.hid (HT4.out.trans t3 (fun q hq e => by omega)); clear hm t3))
      have HMz0 : MAt ((w5.alloc (.cells (mcells []).toArray 76)).alloc (.cells #[.pointer none, .pointer (some ⟨w5.heap.size, 0, none⟩)] 52)) w5.heap.size [] :=
        ⟨by simp, by simp, (Blk.new w5 76 _).alloc _⟩
      have HBl0 : Blk ((w5.alloc (.cells (mcells []).toArray 76)).alloc (.cells #[.pointer none, .pointer (some ⟨w5.heap.size, 0, none⟩)] 52)) (w5.heap.size + 1) 52 #[.pointer none, .pointer (some ⟨w5.heap.size, 0, none⟩)] := by
        have := Blk.new (w5.alloc (.cells (mcells []).toArray 76)) 52 #[.pointer none, .pointer (some ⟨w5.heap.size, 0, none⟩)]
        simpa using this
      have HT0 := Lib.hid ((HT5.out.alloc (.cells (mcells []).toArray 76)).alloc (.cells #[.pointer none, .pointer (some ⟨w5.heap.size, 0, none⟩)] 52))
      have HTz0 := Lib.hid (Touch.refl (fun _ => False) ((w5.alloc (.cells (mcells []).toArray 76)).alloc (.cells #[.pointer none, .pointer (some ⟨w5.heap.size, 0, none⟩)] 52)))
      have HMz := Lib.hid HMz0
      have HBl := Lib.hid HBl0
      clear HMz0 HBl0
      have hws : Obj.cells (mcells []).toArray 76 = Obj.cells #[.int .u64 0, .int .u64 0, .int .u64 0, .int .u64 0, .int .u64 0, .int .u64 0, .int .u64 0, .int .u64 0, .int .u64 0, .int .u64 0, .int .u64 0, .int .u64 0, .int .u64 0, .int .u64 0, .int .u64 0, .int .u64 0, .int .i64 0] 76 := rfl
      rw [← hws]
      clear hws
      generalize hgz : w5.heap.size = gz at *
      generalize hwz : (w5.alloc (.cells (mcells []).toArray 76)).alloc (.cells #[.pointer none, .pointer (some ⟨gz, 0, none⟩)] 52) = wz at *
      clear hgz hwz
      go_loopw [75] (fun i wr => ∃ j : Nat, j ≤ 2 ∧ i = .int .i64 j ∧ Touch (fun _ => False) wz wr) (fun i _ => 2 - (intOf i).toNat)
      case atStart => exact ⟨0, by omega, rfl, HTz0.out⟩
      case round =>
        obtain ⟨j, hj, rfl, hT⟩ := hrel
        have HTz := Lib.hid hT
        have hB := hT.blk HBl.out (fun e => e)
        clear hT
        have h0 := hB.cell 0
        have h1 := hB.cell 1
        simp at h0 h1
        clear hB
        have hjj : j = 0 ∨ j = 1 ∨ j = 2 := by omega
        rcases hjj with rfl | rfl | rfl
        · go_wp2_with (first
            | (go_at_call 32; go_must (refine (madd_zero (.pointer none) x2 a1 _ (by exact (at_nil a1 _))).mono ?_); rintro e w3 ⟨rfl, t3⟩; have HTz := Lib.hid (HTz.out.trans t3 (fun _ _ e => e)); clear t3)
            | (go_at_call 27; go_must (refine (mswap_zero (.pointer none) x2 a1 _ (by exact (at_nil a1 _))).mono ?_); rintro e w3 ⟨rfl, t3⟩; have HTz := Lib.hid (HTz.out.trans t3 (fun _ _ e => e)); clear t3)
            | (go_at_call 34; go_must (refine (mraise_zero (.pointer none) x2 a1 _ (by exact (at_nil a1 _))).mono ?_); rintro e w3 ⟨rfl, t3⟩; have HTz := Lib.hid (HTz.out.trans t3 (fun _ _ e => e)); clear t3)
            | (go_at_call 33; go_must (refine (mget_zero (.pointer none) a1 _ (by exact (at_nil a1 _))).mono ?_); rintro e w3 ⟨rfl, rfl⟩)
            | (go_at_call 26; go_must (refine (monce_zero (.pointer none) a1 _ (by exact (at_nil a1 _))).mono ?_); rintro e w3 ⟨rfl, rfl⟩)
            | (go_at_call 29; go_must (refine (show Calls Try.prog 29 #[(.pointer none)] _ (NewSl _ []) from (mall_nil _)).mono ?_); rintro e w3 ⟨A3, c3, rfl, -, -, -, t3⟩; have HTz := Lib.hid (HTz.out.trans t3 (fun _ _ e => e)); clear t3)
            | (go_at_call 30; go_must (refine (msum_any _ [] _ (by simpa using mall_nil _) (by simp)).mono ?_); rintro e w3 ⟨rfl, t3⟩; rw [show sumM [] = 0 from rfl]; have HTz := Lib.hid (HTz.out.trans t3 (fun _ _ e => e)); clear t3)
            | (go_at_call 31; go_must (refine (mlen_nil _).mono ?_); rintro e w3 ⟨rfl, rfl⟩))
          go_roundw
          case rel => exact ⟨1, by omega, by go_num, HTz.out⟩
          case measure => simp [intOf]
        · go_wp2_with (first
            | (go_at_call 32; go_must (refine (madd_zero (.pointer (some ⟨gz, 0, none⟩)) x2 a1 _ (by exact (at_none gz a1 _ ((HMz.out.touch HTz.out (fun e => e)).touch ((Touch.refl (fun _ => False) _).alloc _) (fun e => e))))).mono ?_); rintro e w3 ⟨rfl, t3⟩; have HTz := Lib.hid (HTz.out.trans t3 (fun _ _ e => e)); clear t3)
            | (go_at_call 27; go_must (refine (mswap_zero (.pointer (some ⟨gz, 0, none⟩)) x2 a1 _ (by exact (at_none gz a1 _ ((HMz.out.touch HTz.out (fun e => e)).touch ((Touch.refl (fun _ => False) _).alloc _) (fun e => e))))).mono ?_); rintro e w3 ⟨rfl, t3⟩; have HTz := Lib.hid (HTz.out.trans t3 (fun _ _ e => e)); clear t3)
            | (go_at_call 34; go_must (refine (mraise_zero (.pointer (some ⟨gz, 0, none⟩)) x2 a1 _ (by exact (at_none gz a1 _ ((HMz.out.touch HTz.out (fun e => e)).touch ((Touch.refl (fun _ => False) _).alloc _) (fun e => e))))).mono ?_); rintro e w3 ⟨rfl, t3⟩; have HTz := Lib.hid (HTz.out.trans t3 (fun _ _ e => e)); clear t3)
            | (go_at_call 33; go_must (refine (mget_zero (.pointer (some ⟨gz, 0, none⟩)) a1 _ (by exact (at_none gz a1 _ (HMz.out.touch HTz.out (fun e => e))))).mono ?_); rintro e w3 ⟨rfl, rfl⟩)
            | (go_at_call 26; go_must (refine (monce_zero (.pointer (some ⟨gz, 0, none⟩)) a1 _ (by exact (at_none gz a1 _ (HMz.out.touch HTz.out (fun e => e))))).mono ?_); rintro e w3 ⟨rfl, rfl⟩)
            | (go_at_call 29; go_must (refine (show Calls Try.prog 29 #[(.pointer (some ⟨gz, 0, none⟩))] _ (NewSl _ []) from (by simpa using mall_any gz [] _ (HMz.out.touch HTz.out (fun e => e)))).mono ?_); rintro e w3 ⟨A3, c3, rfl, -, -, -, t3⟩; have HTz := Lib.hid (HTz.out.trans t3 (fun _ _ e => e)); clear t3)
            | (go_at_call 30; go_must (refine (msum_any _ [] _ (mall_any gz [] _ (HMz.out.touch HTz.out (fun e => e))) (by simp)).mono ?_); rintro e w3 ⟨rfl, t3⟩; rw [show sumM [] = 0 from rfl]; have HTz := Lib.hid (HTz.out.trans t3 (fun _ _ e => e)); clear t3)
            | (go_at_call 31; go_must (refine (mlen_any gz [] _ (HMz.out.touch HTz.out (fun e => e))).mono ?_); rintro e w3 ⟨rfl, rfl⟩))
          go_roundw
          case rel => exact ⟨2, by omega, by go_num, HTz.out⟩
          case measure => simp [intOf]
        · go_wp2_with (go_at_call 24; go_must (refine (lives05_any _).mono ?_); rintro e w3 ⟨rfl, t3⟩; have HTz := Lib.hid (HTz.out.trans t3 (fun _ _ e => e)); clear t3)
          go_ret
          exact ⟨rfl, (HT0.out.trans HTz.out (fun _ _ e => e)).below⟩
end Go.Proofs.Ytomapfklpoijbaa
