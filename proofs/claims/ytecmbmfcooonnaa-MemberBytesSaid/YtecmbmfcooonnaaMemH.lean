/- What Reached and Near do. -/
import Derived.Test.YtecmbmfcooonnaaMemG
import Derived.Test.YtecmbmfcooonnaaMemM
namespace Go.Proofs.Ytecmbmfcooonnaa
open Go.RowKit
set_option maxHeartbeats 4000000
set_option maxRecDepth 100000
set_option linter.unusedVariables false

theorem bit_and' (s j : Nat) (hs : s < 18446744073709551616) : bits .and .u64 ((s : Int) / 2 ^ j) 1 = ((s / 2 ^ j % 2 : Nat) : Int) := by
  have e : ((s : Int) / 2 ^ j) = ((s / 2 ^ j : Nat) : Int) := by rw [Int.natCast_ediv, Int.natCast_pow]; rfl
  rw [e, show (1 : Int) = ((1 : Nat) : Int) from rfl, u64_and_nat _ _ (Nat.lt_of_le_of_lt (Nat.div_le_self _ _) (by omega)) (by omega), Nat.and_one_is_mod]
theorem bit_val (s j : Nat) : (if s.testBit j then 1 else 0) = s / 2 ^ j % 2 := by
  rw [Nat.testBit_eq_decide_div_mod_eq]
  by_cases h : s / 2 ^ j % 2 = 1
  · simp [h]
  · simp [h]; omega
theorem clo_MemberSays_1 (n : Nat) (g s : Nat) (w : World) (h : Blk w g 31 #[.int .u64 s]) (hs : s < 18446744073709551616) (hn : n < 7) :
    Calls Try.prog 30 #[.int .i64 n, .pointer (some ⟨g, 0, none⟩)] w fun e w' => e = .returned (.bool (s.testBit n)) ∧ w = w' := by
  have h0 := h.cell 0
  simp at h0
  have hb := bit_and' s n hs
  have hv := bit_val s n
  rw [← hv] at hb
  have hu : IntKind.u64.wrap (n : Int) = n := IntWalk.u64_in _ (by omega)
  cases hc : s.testBit n
  · rw [hc] at hb
    have hx : bits .and .u64 ((s : Int) / 2 ^ n) 1 = 0 := hb
    clear hb hv hc h hs
    go_enter Try.func30, Try.ntmps30
    go_wp2
    go_ret
    exact ⟨rfl, rfl⟩
  · rw [hc] at hb
    have hx : bits .and .u64 ((s : Int) / 2 ^ n) 1 = 1 := hb
    clear hb hv hc h hs
    go_enter Try.func30, Try.ntmps30
    go_wp2
    go_ret
    exact ⟨rfl, rfl⟩
theorem clo_MemberMeets_1 (n : Nat) (g s : Nat) (w : World) (h : Blk w g 31 #[.int .u64 s]) (hs : s < 18446744073709551616) (hn : n < 7) :
    Calls Try.prog 33 #[.int .i64 n, .pointer (some ⟨g, 0, none⟩)] w fun e w' => e = .returned (.bool (s.testBit n)) ∧ w = w' := by
  have h0 := h.cell 0
  simp at h0
  have hb := bit_and' s n hs
  have hv := bit_val s n
  rw [← hv] at hb
  have hu : IntKind.u64.wrap (n : Int) = n := IntWalk.u64_in _ (by omega)
  cases hc : s.testBit n
  · rw [hc] at hb
    have hx : bits .and .u64 ((s : Int) / 2 ^ n) 1 = 0 := hb
    clear hb hv hc h hs
    go_enter Try.func33, Try.ntmps33
    go_wp2
    go_ret
    exact ⟨rfl, rfl⟩
  · rw [hc] at hb
    have hx : bits .and .u64 ((s : Int) / 2 ^ n) 1 = 1 := hb
    clear hb hv hc h hs
    go_enter Try.func33, Try.ntmps33
    go_wp2
    go_ret
    exact ⟨rfl, rfl⟩
theorem clo_MemberMeets_2 (n : Nat) (g s : Nat) (w : World) (h : Blk w g 31 #[.int .u64 s]) (hs : s < 18446744073709551616) (hn : n < 7) :
    Calls Try.prog 34 #[.int .i64 n, .pointer (some ⟨g, 0, none⟩)] w fun e w' => e = .returned (.bool (s.testBit n)) ∧ w = w' := by
  have h0 := h.cell 0
  simp at h0
  have hb := bit_and' s n hs
  have hv := bit_val s n
  rw [← hv] at hb
  have hu : IntKind.u64.wrap (n : Int) = n := IntWalk.u64_in _ (by omega)
  cases hc : s.testBit n
  · rw [hc] at hb
    have hx : bits .and .u64 ((s : Int) / 2 ^ n) 1 = 0 := hb
    clear hb hv hc h hs
    go_enter Try.func34, Try.ntmps34
    go_wp2
    go_ret
    exact ⟨rfl, rfl⟩
  · rw [hc] at hb
    have hx : bits .and .u64 ((s : Int) / 2 ^ n) 1 = 1 := hb
    clear hb hv hc h hs
    go_enter Try.func34, Try.ntmps34
    go_wp2
    go_ret
    exact ⟨rfl, rfl⟩
theorem mreached_MemberSays_1 (F : Nat → Prop) (A : Option Addr) (c : Nat) (l : List Int) (g s : Nat) (w : World) (hr : Rd w F A l.length (l.map I64)) (hsm : l.length ≤ 1000000) (h : Blk w g 31 #[.int .u64 s]) (hs : s < 18446744073709551616) :
    Calls Try.prog 29 #[.slice A l.length c, .func (.func 30) #[] #[.pointer (some ⟨g, 0, none⟩)]] w fun e w' => e = .returned (.bool (Row.soundB l && decide (l.length < 2 * l.countP (fun x => s.testBit x.toNat)))) ∧ Touch (fun _ => False) w w' := by
  have Hr := Lib.hid hr
  have HB := Lib.hid h
  have HSd := Lib.hid (msound_any F A c l w hr hsm)
  have HQu := Lib.hid (fun w1 (h : Rd w1 F A l.length (l.map I64)) => mquorum_any F A c l w1 h hsm)
  clear hr h
  by_cases hb : Row.soundB l = true
  · have HS := Lib.hid hb
    rw [hb] at HSd HQu ⊢
    simp only [if_true] at HQu
    clear hb
    have HQq := Lib.hid (Eq.refl (l.length / 2 + 1))
    generalize hq : l.length / 2 + 1 = q at *
    have HQ := Lib.hid hq
    clear hq HQq
    have hq1 : q ≤ 500001 := by have := HQ.out; omega
    have hfn : ∀ (fn : Fn) (first cap : Array Value) (w : World), (binOp .eql 35 (.func fn first cap) .nilFunc).run Try.prog w = .ok (.bool false) w := fun _ _ _ _ => rfl
    go_enter Try.func29, Try.ntmps29
    go_wp2_with (first
      | (go_at_call 20; go_must (refine HSd.out.mono ?_); rintro e w1 ⟨rfl, t1⟩; have HT1 := Lib.hid t1; clear t1)
      | (go_at_call 24; go_must (refine (HQu.out _ (by exact Hr.out.touch HT1.out (fun _ _ e => e))).mono ?_); rintro e w2 ⟨rfl, t2⟩; have HT2 := Lib.hid (HT1.out.trans t2 (fun _ _ e => e)); clear t2))
    go_loopw [5, 19] (fun v i wr => ∃ j : Nat, j ≤ l.length ∧ i = .int .i64 j ∧ v = .int .i64 ((q : Int) - ((l.take j).countP (fun x => s.testBit x.toNat) : Nat)) ∧ Touch (fun _ => False) w wr) (fun _ i _ => l.length - (intOf i).toNat)
    case atStart => exact ⟨0, by omega, rfl, by simp, HT2.out⟩
    case round =>
      obtain ⟨j, hj, rfl, rfl, hT⟩ := hrel
      have HT := Lib.hid hT
      clear hT
      have hcl : (l.take j).countP (fun x => s.testBit x.toNat) ≤ j := Nat.le_trans List.countP_le_length (by simp; omega)
      by_cases hjk : j < l.length
      · obtain ⟨a, off, rfl, _, _, hc⟩ := (Hr.out.touch HT.out (fun _ _ e => e)).2 (by omega)
        have hcj := hc j _ (get_I64 hjk)
        simp only [I64] at hcj
        have HE := Lib.hid (Row.count_take (fun x => s.testBit x.toNat) l j hjk)
        have hx := ((Row.sound_iff l).1 HS.out).2.2 (l.getD j 0) (Row.getD_mem hjk)
        generalize l.getD j 0 = x at *
        obtain ⟨n, rfl⟩ := Int.eq_ofNat_of_zero_le hx.1
        have hn7 : n < 7 := by omega
        have HC := Lib.hid (clo_MemberSays_1 n g s wr (HT.out.blk HB.out (fun e => e)) hs hn7)
        rw [Int.toNat_natCast] at HE
        generalize List.countP (fun (x : Int) => s.testBit x.toNat) (List.take j l) = k at *
        clear hc hx
        cases hbt : s.testBit n
        · rw [hbt] at HC HE
          go_wp2_with (go_at_call 30; go_must (refine HC.out.mono ?_); rintro e w3 ⟨rfl, rfl⟩)
          go_roundw
          case rel => exact ⟨j + 1, by omega, by go_num, by rw [HE.out]; simp, HT.out⟩
          case measure => simp [intOf]; omega
        · rw [hbt] at HC HE
          go_wp2_with (go_at_call 30; go_must (refine HC.out.mono ?_); rintro e w3 ⟨rfl, rfl⟩)
          go_roundw
          case rel => exact ⟨j + 1, by omega, by go_num, by rw [HE.out]; congr 1; simp; omega, HT.out⟩
          case measure => simp [intOf]; omega
      · obtain rfl : j = l.length := by omega
        have HE := Lib.hid (show (l.take l.length).countP (fun x => s.testBit x.toNat) = l.countP (fun x => s.testBit x.toNat) by rw [List.take_length])
        generalize List.countP (fun (x : Int) => s.testBit x.toNat) (List.take l.length l) = k at *
        go_wp2
        go_ret
        refine ⟨ret_bool ?_, HT.out⟩
        rw [← HE.out, Bool.true_and, decide_eq_decide]
        have := HQ.out
        omega
  · have hb : Row.soundB l = false := by simpa using hb
    rw [hb] at HSd ⊢
    clear hb
    have hfn : ∀ (fn : Fn) (first cap : Array Value) (w : World), (binOp .eql 35 (.func fn first cap) .nilFunc).run Try.prog w = .ok (.bool false) w := fun _ _ _ _ => rfl
    go_enter Try.func29, Try.ntmps29
    go_wp2_with (go_at_call 20; go_must (refine HSd.out.mono ?_); rintro e w1 ⟨rfl, t1⟩; have HT1 := Lib.hid t1; clear t1)
    go_ret
    exact ⟨rfl, HT1.out⟩

theorem mreached_MemberMeets_1 (F : Nat → Prop) (A : Option Addr) (c : Nat) (l : List Int) (g s : Nat) (w : World) (hr : Rd w F A l.length (l.map I64)) (hsm : l.length ≤ 1000000) (h : Blk w g 31 #[.int .u64 s]) (hs : s < 18446744073709551616) :
    Calls Try.prog 29 #[.slice A l.length c, .func (.func 33) #[] #[.pointer (some ⟨g, 0, none⟩)]] w fun e w' => e = .returned (.bool (Row.soundB l && decide (l.length < 2 * l.countP (fun x => s.testBit x.toNat)))) ∧ Touch (fun _ => False) w w' := by
  have Hr := Lib.hid hr
  have HB := Lib.hid h
  have HSd := Lib.hid (msound_any F A c l w hr hsm)
  have HQu := Lib.hid (fun w1 (h : Rd w1 F A l.length (l.map I64)) => mquorum_any F A c l w1 h hsm)
  clear hr h
  by_cases hb : Row.soundB l = true
  · have HS := Lib.hid hb
    rw [hb] at HSd HQu ⊢
    simp only [if_true] at HQu
    clear hb
    have HQq := Lib.hid (Eq.refl (l.length / 2 + 1))
    generalize hq : l.length / 2 + 1 = q at *
    have HQ := Lib.hid hq
    clear hq HQq
    have hq1 : q ≤ 500001 := by have := HQ.out; omega
    have hfn : ∀ (fn : Fn) (first cap : Array Value) (w : World), (binOp .eql 35 (.func fn first cap) .nilFunc).run Try.prog w = .ok (.bool false) w := fun _ _ _ _ => rfl
    go_enter Try.func29, Try.ntmps29
    go_wp2_with (first
      | (go_at_call 20; go_must (refine HSd.out.mono ?_); rintro e w1 ⟨rfl, t1⟩; have HT1 := Lib.hid t1; clear t1)
      | (go_at_call 24; go_must (refine (HQu.out _ (by exact Hr.out.touch HT1.out (fun _ _ e => e))).mono ?_); rintro e w2 ⟨rfl, t2⟩; have HT2 := Lib.hid (HT1.out.trans t2 (fun _ _ e => e)); clear t2))
    go_loopw [5, 19] (fun v i wr => ∃ j : Nat, j ≤ l.length ∧ i = .int .i64 j ∧ v = .int .i64 ((q : Int) - ((l.take j).countP (fun x => s.testBit x.toNat) : Nat)) ∧ Touch (fun _ => False) w wr) (fun _ i _ => l.length - (intOf i).toNat)
    case atStart => exact ⟨0, by omega, rfl, by simp, HT2.out⟩
    case round =>
      obtain ⟨j, hj, rfl, rfl, hT⟩ := hrel
      have HT := Lib.hid hT
      clear hT
      have hcl : (l.take j).countP (fun x => s.testBit x.toNat) ≤ j := Nat.le_trans List.countP_le_length (by simp; omega)
      by_cases hjk : j < l.length
      · obtain ⟨a, off, rfl, _, _, hc⟩ := (Hr.out.touch HT.out (fun _ _ e => e)).2 (by omega)
        have hcj := hc j _ (get_I64 hjk)
        simp only [I64] at hcj
        have HE := Lib.hid (Row.count_take (fun x => s.testBit x.toNat) l j hjk)
        have hx := ((Row.sound_iff l).1 HS.out).2.2 (l.getD j 0) (Row.getD_mem hjk)
        generalize l.getD j 0 = x at *
        obtain ⟨n, rfl⟩ := Int.eq_ofNat_of_zero_le hx.1
        have hn7 : n < 7 := by omega
        have HC := Lib.hid (clo_MemberMeets_1 n g s wr (HT.out.blk HB.out (fun e => e)) hs hn7)
        rw [Int.toNat_natCast] at HE
        generalize List.countP (fun (x : Int) => s.testBit x.toNat) (List.take j l) = k at *
        clear hc hx
        cases hbt : s.testBit n
        · rw [hbt] at HC HE
          go_wp2_with (go_at_call 33; go_must (refine HC.out.mono ?_); rintro e w3 ⟨rfl, rfl⟩)
          go_roundw
          case rel => exact ⟨j + 1, by omega, by go_num, by rw [HE.out]; simp, HT.out⟩
          case measure => simp [intOf]; omega
        · rw [hbt] at HC HE
          go_wp2_with (go_at_call 33; go_must (refine HC.out.mono ?_); rintro e w3 ⟨rfl, rfl⟩)
          go_roundw
          case rel => exact ⟨j + 1, by omega, by go_num, by rw [HE.out]; congr 1; simp; omega, HT.out⟩
          case measure => simp [intOf]; omega
      · obtain rfl : j = l.length := by omega
        have HE := Lib.hid (show (l.take l.length).countP (fun x => s.testBit x.toNat) = l.countP (fun x => s.testBit x.toNat) by rw [List.take_length])
        generalize List.countP (fun (x : Int) => s.testBit x.toNat) (List.take l.length l) = k at *
        go_wp2
        go_ret
        refine ⟨ret_bool ?_, HT.out⟩
        rw [← HE.out, Bool.true_and, decide_eq_decide]
        have := HQ.out
        omega
  · have hb : Row.soundB l = false := by simpa using hb
    rw [hb] at HSd ⊢
    clear hb
    have hfn : ∀ (fn : Fn) (first cap : Array Value) (w : World), (binOp .eql 35 (.func fn first cap) .nilFunc).run Try.prog w = .ok (.bool false) w := fun _ _ _ _ => rfl
    go_enter Try.func29, Try.ntmps29
    go_wp2_with (go_at_call 20; go_must (refine HSd.out.mono ?_); rintro e w1 ⟨rfl, t1⟩; have HT1 := Lib.hid t1; clear t1)
    go_ret
    exact ⟨rfl, HT1.out⟩

theorem mreached_MemberMeets_2 (F : Nat → Prop) (A : Option Addr) (c : Nat) (l : List Int) (g s : Nat) (w : World) (hr : Rd w F A l.length (l.map I64)) (hsm : l.length ≤ 1000000) (h : Blk w g 31 #[.int .u64 s]) (hs : s < 18446744073709551616) :
    Calls Try.prog 29 #[.slice A l.length c, .func (.func 34) #[] #[.pointer (some ⟨g, 0, none⟩)]] w fun e w' => e = .returned (.bool (Row.soundB l && decide (l.length < 2 * l.countP (fun x => s.testBit x.toNat)))) ∧ Touch (fun _ => False) w w' := by
  have Hr := Lib.hid hr
  have HB := Lib.hid h
  have HSd := Lib.hid (msound_any F A c l w hr hsm)
  have HQu := Lib.hid (fun w1 (h : Rd w1 F A l.length (l.map I64)) => mquorum_any F A c l w1 h hsm)
  clear hr h
  by_cases hb : Row.soundB l = true
  · have HS := Lib.hid hb
    rw [hb] at HSd HQu ⊢
    simp only [if_true] at HQu
    clear hb
    have HQq := Lib.hid (Eq.refl (l.length / 2 + 1))
    generalize hq : l.length / 2 + 1 = q at *
    have HQ := Lib.hid hq
    clear hq HQq
    have hq1 : q ≤ 500001 := by have := HQ.out; omega
    have hfn : ∀ (fn : Fn) (first cap : Array Value) (w : World), (binOp .eql 35 (.func fn first cap) .nilFunc).run Try.prog w = .ok (.bool false) w := fun _ _ _ _ => rfl
    go_enter Try.func29, Try.ntmps29
    go_wp2_with (first
      | (go_at_call 20; go_must (refine HSd.out.mono ?_); rintro e w1 ⟨rfl, t1⟩; have HT1 := Lib.hid t1; clear t1)
      | (go_at_call 24; go_must (refine (HQu.out _ (by exact Hr.out.touch HT1.out (fun _ _ e => e))).mono ?_); rintro e w2 ⟨rfl, t2⟩; have HT2 := Lib.hid (HT1.out.trans t2 (fun _ _ e => e)); clear t2))
    go_loopw [5, 19] (fun v i wr => ∃ j : Nat, j ≤ l.length ∧ i = .int .i64 j ∧ v = .int .i64 ((q : Int) - ((l.take j).countP (fun x => s.testBit x.toNat) : Nat)) ∧ Touch (fun _ => False) w wr) (fun _ i _ => l.length - (intOf i).toNat)
    case atStart => exact ⟨0, by omega, rfl, by simp, HT2.out⟩
    case round =>
      obtain ⟨j, hj, rfl, rfl, hT⟩ := hrel
      have HT := Lib.hid hT
      clear hT
      have hcl : (l.take j).countP (fun x => s.testBit x.toNat) ≤ j := Nat.le_trans List.countP_le_length (by simp; omega)
      by_cases hjk : j < l.length
      · obtain ⟨a, off, rfl, _, _, hc⟩ := (Hr.out.touch HT.out (fun _ _ e => e)).2 (by omega)
        have hcj := hc j _ (get_I64 hjk)
        simp only [I64] at hcj
        have HE := Lib.hid (Row.count_take (fun x => s.testBit x.toNat) l j hjk)
        have hx := ((Row.sound_iff l).1 HS.out).2.2 (l.getD j 0) (Row.getD_mem hjk)
        generalize l.getD j 0 = x at *
        obtain ⟨n, rfl⟩ := Int.eq_ofNat_of_zero_le hx.1
        have hn7 : n < 7 := by omega
        have HC := Lib.hid (clo_MemberMeets_2 n g s wr (HT.out.blk HB.out (fun e => e)) hs hn7)
        rw [Int.toNat_natCast] at HE
        generalize List.countP (fun (x : Int) => s.testBit x.toNat) (List.take j l) = k at *
        clear hc hx
        cases hbt : s.testBit n
        · rw [hbt] at HC HE
          go_wp2_with (go_at_call 34; go_must (refine HC.out.mono ?_); rintro e w3 ⟨rfl, rfl⟩)
          go_roundw
          case rel => exact ⟨j + 1, by omega, by go_num, by rw [HE.out]; simp, HT.out⟩
          case measure => simp [intOf]; omega
        · rw [hbt] at HC HE
          go_wp2_with (go_at_call 34; go_must (refine HC.out.mono ?_); rintro e w3 ⟨rfl, rfl⟩)
          go_roundw
          case rel => exact ⟨j + 1, by omega, by go_num, by rw [HE.out]; congr 1; simp; omega, HT.out⟩
          case measure => simp [intOf]; omega
      · obtain rfl : j = l.length := by omega
        have HE := Lib.hid (show (l.take l.length).countP (fun x => s.testBit x.toNat) = l.countP (fun x => s.testBit x.toNat) by rw [List.take_length])
        generalize List.countP (fun (x : Int) => s.testBit x.toNat) (List.take l.length l) = k at *
        go_wp2
        go_ret
        refine ⟨ret_bool ?_, HT.out⟩
        rw [← HE.out, Bool.true_and, decide_eq_decide]
        have := HQ.out
        omega
  · have hb : Row.soundB l = false := by simpa using hb
    rw [hb] at HSd ⊢
    clear hb
    have hfn : ∀ (fn : Fn) (first cap : Array Value) (w : World), (binOp .eql 35 (.func fn first cap) .nilFunc).run Try.prog w = .ok (.bool false) w := fun _ _ _ _ => rfl
    go_enter Try.func29, Try.ntmps29
    go_wp2_with (go_at_call 20; go_must (refine HSd.out.mono ?_); rintro e w1 ⟨rfl, t1⟩; have HT1 := Lib.hid t1; clear t1)
    go_ret
    exact ⟨rfl, HT1.out⟩

theorem mreached_nil (A : Option Addr) (n c : Nat) (w : World) :
    Calls Try.prog 29 #[.slice A n c, Value.nilFunc] w fun e w' => e = .returned (.bool false) ∧ w = w' := by
  have hfn : ∀ (w : World), (binOp .eql 35 .nilFunc .nilFunc).run Try.prog w = .ok (.bool true) w := fun _ => rfl
  go_enter Try.func29, Try.ntmps29
  go_wp2
  go_ret
  exact ⟨rfl, rfl⟩
end Go.Proofs.Ytecmbmfcooonnaa
