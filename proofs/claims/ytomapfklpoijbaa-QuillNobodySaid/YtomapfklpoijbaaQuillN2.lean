/- Where there is no writer (nil): Flag, Text, law01.write; no reader: Text. -/
import Derived.Test.YtomapfklpoijbaaQuillN1
import Derived.Test.YtomapfklpoijbaaQuillV
namespace Go.Proofs.Ytomapfklpoijbaa
open Go.RowKit
set_option maxHeartbeats 4000000
set_option maxRecDepth 100000
set_option linter.unusedVariables false

theorem nil_text (w : World) (n : Int) (h : -9223372036854775808 ≤ n ∧ n ≤ 9223372036854775807) : Calls Try.prog 53 #[.pointer none, .int .i64 n] w fun e w' => e = .returned (.string ByteArray.empty) ∧ w = w' := by
  by_cases hn : n < 0
  · exact nil_text_neg w n hn
  · obtain ⟨m, rfl⟩ := Int.eq_ofNat_of_zero_le (show 0 ≤ n by omega)
    have hu : IntKind.u64.wrap (m : Int) = m := IntWalk.u64_in _ (by omega)
    have hcv : (convert 43 9 (.slice none 0 0)).run Try.prog w = .ok (.string ⟨[].toArray⟩) w := Rd.str (l := []) (Rd.nil w (fun _ => False) none) 0
    clear h
    go_enter Try.func53, Try.ntmps53
    go_wp2_with (first
      | (go_at_call 37; go_must (refine (nil_num _ m).mono ?_); rintro e w' ⟨rfl, rfl⟩)
      | (go_at_call 43; go_must (refine (nil_left _).mono ?_); rintro e w' ⟨rfl, rfl⟩)
      | (go_at_call 54; go_must (refine (nil_raw _ _).mono ?_); rintro e w' ⟨rfl, rfl⟩))
    go_ret
    exact ⟨rfl, rfl⟩

theorem nil_wflag (F : Nat → Prop) (A : Option Addr) (c : Nat) (ns : List Bool) (w : World) (hr : Rd w F A ns.length (ns.map F8)) (hsm : ns.length ≤ 1000000) :
    Calls Try.prog 80 #[.pointer none, .slice A ns.length c] w fun e w' => e = .returned (.tuple #[]) ∧ Touch (fun _ => False) w w' := by
  have Hr := Lib.hid hr
  clear hr
  go_enter Try.func80, Try.ntmps80
  go_wp2_with fail
  go_loopw [11] (fun i wr => ∃ j : Nat, j ≤ ns.length ∧ i = .int .i64 j ∧ Touch (fun _ => False) w wr) (fun i _ => ns.length - (intOf i).toNat)
  case atStart => exact ⟨0, by omega, rfl, Touch.refl _ _⟩
  case round =>
    obtain ⟨j, hj, rfl, hT⟩ := hrel
    have HT := Lib.hid hT
    clear hT
    by_cases hjk : j < ns.length
    · obtain ⟨a, off, rfl, _, _, hc⟩ := (Hr.out.touch HT.out (fun _ _ e => e)).2 (by omega)
      have hcj := hc j (F8 (ns.getD j false)) (by simp [List.getD, List.getElem?_eq_getElem hjk])
      simp only [F8] at hcj
      clear hc
      generalize ns.getD j false = b at *
      cases b
      all_goals (
        go_wp2_with (go_at_call 39; go_must (refine (nil_wnum _ _ _ _).mono ?_); rintro e w2 ⟨rfl, rfl⟩)
        go_roundw
        case rel => exact ⟨j + 1, by omega, by go_num, HT.out.alloc _⟩
        case measure => simp [intOf]; omega)
    · obtain rfl : j = ns.length := by omega
      go_wp2
      go_end0
      exact ⟨rfl, HT.out⟩

theorem nil_wtext (s : ByteArray) (w : World) (hs : s.size ≤ 1000000) :
    Calls Try.prog 82 #[.pointer none, .string s] w fun e w' => e = .returned (.tuple #[]) ∧ Touch (fun _ => False) w w' := by
  have HTl := Lib.hid ((Touch.refl (fun _ => False) w).alloc (.cells #[U64 s.size] 29))
  obtain ⟨c2, o2, hcv, hrd, hc2, -⟩ := conv_str (w.alloc (.cells #[U64 s.size] 29)) s _ rfl (by omega)
  simp only [U64] at hcv
  clear hrd
  go_enter Try.func82, Try.ntmps82
  go_wp2_with (first
    | (go_at_call 39; go_must (refine (nil_wnum _ _ _ _).mono ?_); rintro e w2 ⟨rfl, rfl⟩)
    | (go_at_call 84; go_must (refine (nil_wraw _ _ _ _).mono ?_); rintro e w2 ⟨rfl, rfl⟩))
  go_end0
  exact ⟨rfl, (HTl.out.alloc o2).drew⟩

/-- What is written where there is no writer. -/
def NilW (w : World) (e : Ending) (w' : World) : Prop := (∃ v, e = .returned v) ∧ Touch (fun _ => False) w w'
theorem NilW.of {w w1 w2 : World} {xs : List UInt8} {e : Ending} (t : Touch (fun _ => False) w w1) (h : NewOwn w1 xs e w2) : NilW w e w2 := by
  obtain ⟨v, k, rfl, _, _, t2⟩ := h
  exact ⟨⟨v, rfl⟩, t.trans t2 (fun _ _ e => e)⟩

theorem nil_write (x : ItemV) (w : World) (hx : x.ok) :
    Calls Try.prog 45 #[.pointer none, .agg #[.int .i64 x.kind, .int .u64 x.num, .int .i64 x.int, .bool x.flag, .string x.text]] w (NilW w) := by
  obtain ⟨K, num, int, flag, text⟩ := x
  obtain ⟨x1, x2, x3, x4⟩ := hx
  simp only at x1 x2 x3 x4 ⊢
  have HTb := Lib.hid ((Touch.refl (fun _ => False) w).alloc (.cells #[.int .i64 K, .int .u64 num, .int .i64 int, .bool flag, .string text] 92))
  have HB := Lib.hid (Blk.new w 92 #[.int .i64 K, .int .u64 num, .int .i64 int, .bool flag, .string text])
  by_cases k1 : K = 1
  · subst k1
    have HTl := Lib.hid (HTb.out.alloc (.cells #[I64 int] 2))
    go_enter Try.func45, Try.ntmps45
    go_wp2_with (first
      | (go_at_call 40; go_must (refine (nil_wint _ _ _ _).mono ?_); rintro e w1 ⟨rfl, rfl⟩)
      | (go_at_call 48; go_must (refine (fint_any int _ x2 x3).mono ?_); rintro e w2 h2; have H2 := Lib.hid (NilW.of HTl.out h2); obtain ⟨v, k, rfl, h2a, h2b, h2c⟩ := h2; clear h2a h2b h2c))
    go_ret
    exact ⟨⟨_, rfl⟩, H2.out.2⟩
  by_cases k2 : K = 2
  · subst k2
    have HTl := Lib.hid (HTb.out.alloc (.cells #[.bool flag] 4))
    go_enter Try.func45, Try.ntmps45
    go_wp2_with (first
      | (go_at_call 80; go_must (refine (nil_wflag _ _ 1 [flag] _ (by exact Rd.litAt _ _ (by simp) 4 [F8 flag] 1 rfl) (by simp)).mono ?_); rintro e w1 ⟨rfl, t1⟩
         have HT1 := Lib.hid (HTl.out.trans t1 (fun _ _ e => e))
         have hq := (t1.blk (HB.out.alloc _) (fun e => e)).cell 3
         simp at hq
         clear t1)
      | (go_at_call 81; go_must (refine (fflag_any flag _).mono ?_); rintro e w2 h2; have H2 := Lib.hid (NilW.of HT1.out h2); obtain ⟨v, k, rfl, h2a, h2b, h2c⟩ := h2; clear h2a h2b h2c))
    go_ret
    exact ⟨⟨_, rfl⟩, H2.out.2⟩
  by_cases k3 : K = 3
  · subst k3
    go_enter Try.func45, Try.ntmps45
    go_wp2_with (first
      | (go_at_call 82; go_must (refine (nil_wtext text _ (by omega)).mono ?_); rintro e w1 ⟨rfl, t1⟩
         have HT1 := Lib.hid (HTb.out.trans t1 (fun _ _ e => e))
         have hq := (t1.blk HB.out (fun e => e)).cell 4
         simp at hq
         clear t1)
      | (go_at_call 83; go_must (refine (ftext_any text _ (by omega)).mono ?_); rintro e w2 h2; have H2 := Lib.hid (NilW.of HT1.out h2); obtain ⟨v, k, rfl, h2a, h2b, h2c⟩ := h2; clear h2a h2b h2c))
    go_ret
    exact ⟨⟨_, rfl⟩, H2.out.2⟩
  by_cases k4 : K = 4
  · subst k4
    obtain ⟨c2, o2, hcv, hrd, hc2, -⟩ := conv_str (w.alloc (.cells #[.int .i64 4, .int .u64 num, .int .i64 int, .bool flag, .string text] 92)) text (w.heap.size + 1) (by simp) (by omega)
    have HTo := Lib.hid (((Touch.refl (fun _ => False) (w.alloc (.cells #[.int .i64 4, .int .u64 num, .int .i64 int, .bool flag, .string text] 92))).alloc o2).drew)
    clear hrd
    go_enter Try.func45, Try.ntmps45
    go_wp2_with (
      go_at_call 84
      go_must (refine (nil_wraw _ _ _ _).mono ?_)
      rintro e w1 ⟨rfl, hw1⟩
      have t1 : Touch (fun _ => False) ((((w.alloc (.cells #[.int .i64 4, .int .u64 num, .int .i64 int, .bool flag, .string text] 92)).alloc o2).drew)) w1 := by rw [← hw1]; exact Touch.refl _ _
      have HT1 := Lib.hid ((HTb.out.trans HTo.out (fun _ _ e => e)).trans t1 (fun _ _ e => e))
      have hq := (t1.blk (HTo.out.blk HB.out (fun e => e)) (fun e => e)).cell 4
      simp at hq
      obtain ⟨c3, o3, hcv3, hrd3, hc3, hm3⟩ := conv_str w1 text _ rfl (by omega)
      have HO3 := Lib.hid (HT1.out.alloc o3).drew
      clear hrd3 t1 hw1)
    go_ret
    exact ⟨⟨_, rfl⟩, HO3.out⟩
  have e1 : (K == 1) = false := by simpa using k1
  have e2 : (K == 2) = false := by simpa using k2
  have e3 : (K == 3) = false := by simpa using k3
  have e4 : (K == 4) = false := by simpa using k4
  clear k1 k2 k3 k4
  have HTl := Lib.hid (HTb.out.alloc (.cells #[U64 num] 29))
  go_enter Try.func45, Try.ntmps45
  go_wp2_with (first
    | (go_at_call 39; go_must (refine (nil_wnum _ _ _ _).mono ?_); rintro e w1 ⟨rfl, rfl⟩)
    | (go_at_call 47; go_must (refine (fnum_any num _ x1).mono ?_); rintro e w2 h2; have H2 := Lib.hid (NilW.of HTl.out h2); obtain ⟨v, k, rfl, h2a, h2b, h2c⟩ := h2; clear h2a h2b h2c))
  go_ret
  exact ⟨⟨_, rfl⟩, H2.out.2⟩
end Go.Proofs.Ytomapfklpoijbaa
