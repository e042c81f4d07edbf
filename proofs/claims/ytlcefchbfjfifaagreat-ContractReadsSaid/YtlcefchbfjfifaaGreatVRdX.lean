/- The reference's Reader, on: Num, Int, Flag, Raw, Text, End: told by the same Lean functions as quill's. Reading rows of spans: the plain law, ref10.spans. (written by gence.py) A reader's calls, told by what was read; a struct under way, read field by field. -/
import Derived.Test.YtlcefchbfjfifaaGreatVQuillF
import Derived.Test.YtlcefchbfjfifaaGreatVQuillY
import Derived.Test.YtlcefchbfjfifaaGreatVOwn
section
namespace Go.Proofs.YtlcefchbfjfifaaGreat
open Go.RowKit
set_option maxHeartbeats 2000000
set_option maxRecDepth 100000

theorem rdNum_left_le (m : Nat) (mk b : Bool) (l : List UInt8) : (rdNum m mk b l).left.length ≤ l.length := by
  unfold rdNum
  split
  · simp [rdFail]
  · split
    · split
      · simp; omega
      · simp [rdFail]
    · simp [rdFail]

theorem rf_num (g : Nat) (F : Nat → Prop) (bad : Bool) (most : Nat) (l : List UInt8) (w : World) (h : RfAt w g F l bad) :
    Calls Tryz.prog 47 #[.pointer (some ⟨g, 0, none⟩), .int .u64 most] w
      (FPost (.int .u64 ((rdNum most false bad l).val : Int)) (rdNum most false bad l).left (rdNum most false bad l).bad w g F) := by
  rcases l with _ | ⟨c, t⟩
  · have HF := Lib.hid (rf_fail g F [] bad w h)
    have H1 := Lib.hid (rf_first_nil g F bad w h)
    clear h
    go_enter Tryz.func47, Tryz.ntmps47
    go_wp2_with (first
      | (go_at_call 80; refine H1.out.mono ?_; rintro e w' ⟨rfl, rfl⟩)
      | (go_at_call 48; refine HF.out.mono ?_; rintro e w' ⟨rfl, h1, h2⟩))
    go_ret
    exact ⟨rfl, h1, h2⟩
  have H1 := Lib.hid (rf_first_cons g F c t bad w h)
  have hcl := B8_lt c
  clear h
  by_cases hok : rfOk c.toNat t = true
  · by_cases hm : be (t.take c.toNat) ≤ most
    · have hX : rdNum most false bad (c :: t) = ⟨be (t.take c.toNat), false, t.drop c.toNat, bad⟩ := by
        have hk : rdOk false c t = true := hok
        simp [rdNum, hk, rdHead, rdMark, hm]
      rw [hX]
      clear hX
      go_enter Tryz.func47, Tryz.ntmps47
      go_wp2_with (first
        | (go_at_call 80; refine H1.out.mono ?_; rintro e w1 ⟨rfl, h1, h2⟩)
        | (go_at_call 81; go_must (refine (rf_number_yes g F c.toNat t bad _ h1 hok).mono ?_); rintro e w2 ⟨rfl, h3, h4⟩; generalize be (t.take c.toNat) = n at *))
      go_ret
      exact ⟨rfl, h3, h2.trans h4 (fun _ _ e => e)⟩
    · have hX : rdNum most false bad (c :: t) = rdFail := by
        simp [rdNum, rdHead, hm]
      rw [hX]
      clear hX
      go_enter Tryz.func47, Tryz.ntmps47
      go_wp2_with (first
        | (go_at_call 80; refine H1.out.mono ?_; rintro e w1 ⟨rfl, h1, h2⟩)
        | (go_at_call 81; go_must (refine (rf_number_yes g F c.toNat t bad _ h1 hok).mono ?_); rintro e w2 ⟨rfl, h3, h4⟩; generalize be (t.take c.toNat) = n at *)
        | (go_at_call 48; go_must (refine (rf_fail g F _ bad _ h3).mono ?_); rintro e w3 ⟨rfl, h5, h6⟩))
      go_ret
      exact ⟨rfl, h5, (h2.trans h4 (fun _ _ e => e)).trans h6 (fun _ _ e => e)⟩
  · have hok' : rfOk c.toNat t = false := by simpa using hok
    have hX : rdNum most false bad (c :: t) = rdFail := by
      have hk : rdOk false c t = false := hok'
      simp [rdNum, hk]
    rw [hX]
    clear hX hok
    go_enter Tryz.func47, Tryz.ntmps47
    go_wp2_with (first
      | (go_at_call 80; refine H1.out.mono ?_; rintro e w1 ⟨rfl, h1, h2⟩)
      | (go_at_call 81; go_must (refine (rf_number_no g F c.toNat t bad _ h1 hcl hok').mono ?_); rintro e w2 ⟨rfl, rfl⟩)
      | (go_at_call 48; go_must (refine (rf_fail g F _ bad _ h1).mono ?_); rintro e w3 ⟨rfl, h5, h6⟩))
    go_ret
    exact ⟨rfl, h5, h2.trans h6 (fun _ _ e => e)⟩

theorem rf_int (g : Nat) (F : Nat → Prop) (bad : Bool) (l : List UInt8) (w : World) (h : RfAt w g F l bad) :
    Calls Tryz.prog 100 #[.pointer (some ⟨g, 0, none⟩)] w
      (FPost (.int .i64 (rdInt bad l)) (rdNum 9223372036854775807 true bad l).left (rdNum 9223372036854775807 true bad l).bad w g F) := by
  rcases l with _ | ⟨c, t⟩
  · have HF := Lib.hid (rf_fail g F [] bad w h)
    have H1 := Lib.hid (rf_first_nil g F bad w h)
    clear h
    go_enter Tryz.func100, Tryz.ntmps100
    go_wp2_with (first
      | (go_at_call 80; refine H1.out.mono ?_; rintro e w' ⟨rfl, rfl⟩)
      | (go_at_call 48; refine HF.out.mono ?_; rintro e w' ⟨rfl, h1, h2⟩))
    go_ret
    exact ⟨rfl, h1, h2⟩
  have H1 := Lib.hid (rf_first_cons g F c t bad w h)
  have hcl := B8_lt c
  clear h
  by_cases hok : rfOk (c.toNat % 128) t = true
  · by_cases hm : be (t.take (c.toNat % 128)) ≤ 9223372036854775807
    · have hX : rdNum 9223372036854775807 true bad (c :: t) = ⟨be (t.take (c.toNat % 128)), decide (128 ≤ c.toNat), t.drop (c.toNat % 128), bad⟩ := by
        have hk : rdOk true c t = true := hok
        simp [rdNum, hk, rdHead, rdMark, hm]
      have hI : rdInt bad (c :: t) = if 128 ≤ c.toNat then -1 - (be (t.take (c.toNat % 128)) : Int) else (be (t.take (c.toNat % 128)) : Int) := by
        unfold rdInt; rw [hX]; simp
      rw [hX, hI]
      clear hX hI
      by_cases hc : 128 ≤ c.toNat
      · rw [if_pos hc]
        go_enter Tryz.func100, Tryz.ntmps100
        go_wp2_with (first
          | (go_at_call 80; refine H1.out.mono ?_; rintro e w1 ⟨rfl, h1, h2⟩)
          | (go_at_call 81; go_must (refine (rf_number_yes g F (c.toNat % 128) t bad _ h1 hok).mono ?_); rintro e w2 ⟨rfl, h3, h4⟩; generalize be (t.take (c.toNat % 128)) = n at *))
        go_ret
        exact ⟨rfl, h3, h2.trans h4 (fun _ _ e => e)⟩
      · rw [if_neg hc]
        go_enter Tryz.func100, Tryz.ntmps100
        go_wp2_with (first
          | (go_at_call 80; refine H1.out.mono ?_; rintro e w1 ⟨rfl, h1, h2⟩)
          | (go_at_call 81; go_must (refine (rf_number_yes g F (c.toNat % 128) t bad _ h1 hok).mono ?_); rintro e w2 ⟨rfl, h3, h4⟩; generalize be (t.take (c.toNat % 128)) = n at *))
        go_ret
        exact ⟨rfl, h3, h2.trans h4 (fun _ _ e => e)⟩
    · have hX : rdNum 9223372036854775807 true bad (c :: t) = rdFail := by
        simp [rdNum, rdHead, hm]
      have hI : rdInt bad (c :: t) = 0 := by
        unfold rdInt; rw [hX]; simp [rdFail]
      rw [hX, hI]
      clear hX hI
      go_enter Tryz.func100, Tryz.ntmps100
      go_wp2_with (first
        | (go_at_call 80; refine H1.out.mono ?_; rintro e w1 ⟨rfl, h1, h2⟩)
        | (go_at_call 81; go_must (refine (rf_number_yes g F (c.toNat % 128) t bad _ h1 hok).mono ?_); rintro e w2 ⟨rfl, h3, h4⟩; generalize be (t.take (c.toNat % 128)) = n at *)
        | (go_at_call 48; go_must (refine (rf_fail g F _ bad _ h3).mono ?_); rintro e w3 ⟨rfl, h5, h6⟩))
      go_ret
      exact ⟨rfl, h5, (h2.trans h4 (fun _ _ e => e)).trans h6 (fun _ _ e => e)⟩
  · have hok' : rfOk (c.toNat % 128) t = false := by simpa using hok
    have hX : rdNum 9223372036854775807 true bad (c :: t) = rdFail := by
      have hk : rdOk true c t = false := hok'
      simp [rdNum, hk]
    have hI : rdInt bad (c :: t) = 0 := by
      unfold rdInt; rw [hX]; simp [rdFail]
    rw [hX, hI]
    clear hX hok hI
    go_enter Tryz.func100, Tryz.ntmps100
    go_wp2_with (first
      | (go_at_call 80; refine H1.out.mono ?_; rintro e w1 ⟨rfl, h1, h2⟩)
      | (go_at_call 81; go_must (refine (rf_number_no g F (c.toNat % 128) t bad _ h1 (by omega) hok').mono ?_); rintro e w2 ⟨rfl, rfl⟩)
      | (go_at_call 48; go_must (refine (rf_fail g F _ bad _ h1).mono ?_); rintro e w3 ⟨rfl, h5, h6⟩))
    go_ret
    exact ⟨rfl, h5, h2.trans h6 (fun _ _ e => e)⟩

/-- What the reference's Raw hands back. -/
def FRaw (n : Nat) (xs l : List UInt8) (bad : Bool) (w : World) (g : Nat) (F : Nat → Prop) (e : Ending) (w' : World) : Prop :=
  ∃ A c, e = .returned (.slice A n c) ∧ n ≤ c ∧ c ≤ maxLen ∧ Rd w' (fun k => w.heap.size ≤ k) A n (xs.map B8) ∧ RfAt w' g F l bad ∧ Touch (fun k => k = g) w w'

end Go.Proofs.YtlcefchbfjfifaaGreat
end

section
namespace Go.Proofs.YtlcefchbfjfifaaGreat
open Go.RowKit Cal
set_option maxHeartbeats 4000000
set_option maxRecDepth 100000
set_option linter.unusedVariables false

/-- Behind n spans: what was read, what is left, is it bad. -/
def rdSt (l : List UInt8) (b : Bool) : Nat → List Sp × List UInt8 × Bool
  | 0 => ([], l, b)
  | n + 1 => ((rdSt l b n).1 ++ [⟨((rdNum 1125899906842624 false (rdSt l b n).2.2 (rdSt l b n).2.1).val : Int), ((rdNum 1125899906842624 false (rdNum 1125899906842624 false (rdSt l b n).2.2 (rdSt l b n).2.1).bad (rdNum 1125899906842624 false (rdSt l b n).2.2 (rdSt l b n).2.1).left).val : Int)⟩],
      (rdNum 1125899906842624 false (rdNum 1125899906842624 false (rdSt l b n).2.2 (rdSt l b n).2.1).bad (rdNum 1125899906842624 false (rdSt l b n).2.2 (rdSt l b n).2.1).left).left,
      (rdNum 1125899906842624 false (rdNum 1125899906842624 false (rdSt l b n).2.2 (rdSt l b n).2.1).bad (rdNum 1125899906842624 false (rdSt l b n).2.2 (rdSt l b n).2.1).left).bad)
theorem rdSt_succ (l : List UInt8) (b : Bool) (n : Nat) : rdSt l b (n + 1) = ((rdSt l b n).1 ++ [⟨((rdNum 1125899906842624 false (rdSt l b n).2.2 (rdSt l b n).2.1).val : Int), ((rdNum 1125899906842624 false (rdNum 1125899906842624 false (rdSt l b n).2.2 (rdSt l b n).2.1).bad (rdNum 1125899906842624 false (rdSt l b n).2.2 (rdSt l b n).2.1).left).val : Int)⟩],
      (rdNum 1125899906842624 false (rdNum 1125899906842624 false (rdSt l b n).2.2 (rdSt l b n).2.1).bad (rdNum 1125899906842624 false (rdSt l b n).2.2 (rdSt l b n).2.1).left).left,
      (rdNum 1125899906842624 false (rdNum 1125899906842624 false (rdSt l b n).2.2 (rdSt l b n).2.1).bad (rdNum 1125899906842624 false (rdSt l b n).2.2 (rdSt l b n).2.1).left).bad) := rfl
theorem rdSt_len (l : List UInt8) (b : Bool) : ∀ n, (rdSt l b n).1.length = n
  | 0 => rfl
  | n + 1 => by simp [rdSt, rdSt_len l b n]
def rdRow (b : Bool) (l : List UInt8) : List Sp × List UInt8 × Bool := rdSt (rdNum 32 false b l).left (rdNum 32 false b l).bad (rdNum 32 false b l).val
theorem rdRow_len (b : Bool) (l : List UInt8) : (rdRow b l).1.length ≤ 32 := by rw [rdRow, rdSt_len]; exact rdNum_le _ _ _ _
/-- What reading a row gives. -/
def RowPost (b : Bool) (l : List UInt8) (w : World) (g : Nat) (F : Nat → Prop) (e : Ending) (w' : World) : Prop :=
  ∃ A c, e = .returned (.slice A (rdRow b l).1.length c) ∧ SpR w' (fun k => w.heap.size ≤ k) A (rdRow b l).1.length (rdRow b l).1 ∧ RfAt w' g F (rdRow b l).2.1 (rdRow b l).2.2 ∧ Touch (fun q => q = g) w w'
theorem fspans_any (g : Nat) (F : Nat → Prop) (b : Bool) (l : List UInt8) (w : World) (h : RfAt w g F l b) (hF : ∀ k, F k → k < w.heap.size) (hg : g < w.heap.size) :
    Calls Tryz.prog 101 #[.pointer (some ⟨g, 0, none⟩)] w (RowPost b l w g F) := by
  have HN := Lib.hid (rf_num g F b 32 l w h)
  have hle := rdNum_le 32 false b l
  have HV := Lib.hid (show rdRow b l = rdSt (rdNum 32 false b l).left (rdNum 32 false b l).bad (rdNum 32 false b l).val from rfl)
  have HF := Lib.hid hF
  generalize rdNum 32 false b l = R at *
  obtain ⟨N, mk, l1, b1⟩ := R
  simp only at hle HV HN
  obtain ⟨i0, hi, hz0, hz1, hz2⟩ := info_parts infoS
  clear h hF
  go_enter Tryz.func101, Tryz.ntmps101
  go_wp2_with (go_at_call 47; go_must (refine HN.out.mono ?_); rintro e w1 ⟨rfl, r1, t1⟩; have HR1 := Lib.hid (And.intro r1 t1); clear r1 t1)
  clear HN
  go_loopw [3, 5] (fun o i wr => ∃ j : Nat, j ≤ N ∧ i = .int .u64 j ∧ (∃ r, Own wr 92 2 o r (rdSt l1 b1 j).1.length ((rdSt l1 b1 j).1.flatMap spC) ∧ (∀ k, r = some k → w.heap.size ≤ k)) ∧ RfAt wr g F (rdSt l1 b1 j).2.1 (rdSt l1 b1 j).2.2 ∧ Touch (fun q => q = g) w wr) (fun _ i _ => N - (intOf i).toNat)
  case atStart => exact ⟨0, by omega, rfl, ⟨none, Own.nil _ _ _, fun k e => by cases e⟩, HR1.out.1, HR1.out.2⟩
  case round =>
    clear HR1
    obtain ⟨j, hj, rfl, ⟨r, ho, hk⟩, hRf, hT⟩ := hrel
    obtain ⟨A0, c0, rfl, -, -⟩ := ho.form
    have HO := Lib.hid ho
    have HK := Lib.hid hk
    have HRf := Lib.hid hRf
    have HT := Lib.hid hT
    have HLJ := Lib.hid (rdSt_len l1 b1 j)
    clear ho hk hRf hT
    by_cases hjk : j < N
    · have HS := Lib.hid (rdSt_succ l1 b1 j)
      generalize rdSt l1 b1 j = q at *
      obtain ⟨L, l2, b2⟩ := q
      simp only at HO HRf HLJ HS
      have hv1 := rdNum_le 1125899906842624 false b2 l2
      have HN1 := Lib.hid (fun w1 (hh : RfAt w1 g F l2 b2) => rf_num g F b2 1125899906842624 l2 w1 hh)
      generalize rdNum 1125899906842624 false b2 l2 = R1 at *
      obtain ⟨v1, m1, l3, b3⟩ := R1
      simp only at hv1 HN1 HS
      have hv2 := rdNum_le 1125899906842624 false b3 l3
      have HN2 := Lib.hid (fun w1 (hh : RfAt w1 g F l3 b3) => rf_num g F b3 1125899906842624 l3 w1 hh)
      generalize rdNum 1125899906842624 false b3 l3 = R2 at *
      obtain ⟨v2, m2, l4, b4⟩ := R2
      simp only at hv2 HN2 HS
      have hc1 : IntKind.i64.wrap (v1 : Int) = (v1 : Int) := IntWalk.i64_in _ (by omega)
      have hc2 : IntKind.i64.wrap (v2 : Int) = (v2 : Int) := IntWalk.i64_in _ (by omega)
      have hLl : L.length ≤ 32 := by have := HLJ.out; omega
      have hsz := HT.out.size
      have hrg : ∀ k, r = some k → ¬ k = g := fun k e => by have := HK.out k e; omega
      have HRG := Lib.hid hrg
      clear hrg
      go_wp2_with (first
        | (go_at_call 47
           have HM9 := HR2
           go_must (refine (HN2.out _ (by exact HR2.out.1)).mono ?_)
           rintro e w3 ⟨rfl, r3, t3⟩
           have HR3 := Lib.hid (And.intro r3 (HR2.out.2.trans t3 (fun _ _ e => e)))
           have HO3 := Lib.hid (((HO.out.touch HR3.out.2 HRG.out)).touch ((Touch.refl (fun _ => False) w3).alloc (.cells #[.int .i64 v1, .int .i64 v2] 92)) (fun _ _ e => e))
           have HB3 := Lib.hid (Blk.new w3 92 #[.int .i64 v1, .int .i64 v2])
           clear r3 t3)
        | (go_at_call 47
           go_must (refine (HN1.out _ (by exact HRf.out)).mono ?_)
           rintro e w2 ⟨rfl, r2, t2⟩
           have HR2 := Lib.hid (And.intro r2 t2)
           clear r2 t2)
        | (at_builtin
           go_must (refine wpList_own_append rfl _ _ 49 49 rfl 92 i0 (.agg #[.int .i64 0, .int .i64 0]) 2 16 Tryz.underlying49 hi hz0 hz1 hz2 rfl _ r L.length (L.flatMap spC) rfl (by exact HO3.out) _ 1 [.int .i64 v1, .int .i64 v2] rfl (by exact Src.lit Tryz.underlying49 _ 1 1 92 #[.int .i64 v1, .int .i64 v2] HB3.out rfl (fun u hu => by simp at hu; rcases hu with rfl | rfl <;> rfl)) (by simp only [maxLen]; omega) (by omega) ?_)
           intro v5 r5 w5 ho5 ht5 hr5
           have HR5 := Lib.hid (And.intro ho5 (And.intro ht5 hr5))
           clear ho5 ht5 hr5))
      go_roundw
      case rel =>
        obtain ⟨ho5, ht5, hr5⟩ := HR5.out
        obtain ⟨r3, t3⟩ := HR3.out
        have ta := (Touch.refl (fun _ => False) w3).alloc (.cells #[.int .i64 (v1 : Int), .int .i64 (v2 : Int)] 92)
        refine ⟨j + 1, by omega, by go_num, ⟨r5, by rw [HS.out]; simpa [spC] using ho5, fun k e => ?_⟩, ?_, ?_⟩
        · rcases hr5 with e' | ⟨q, e', hq⟩
          · exact HK.out k (e'.symm.trans e)
          · rw [e'] at e; injection e with e; have := t3.size; simp at hq; omega
        · rw [HS.out]
          exact rfAt_touch (rfAt_touch r3 ta (fun e => e) (fun _ _ e => e)) ht5 (fun e => HRG.out g e rfl) (fun k hk e => by have := HK.out k e; have := HF.out k hk; omega)
        · exact ((HT.out.trans t3 (fun _ _ e => e)).trans ta (fun _ _ e => e.elim)).trans ht5 (fun k hk e => by have := HK.out k e; omega)
      case measure => simp [intOf]; omega
    · obtain rfl : j = N := by omega
      have HO := Lib.hid HO.out
      go_wp2
      go_ret
      obtain ⟨A, c, e1, -, -, -, h4⟩ := HO.out.spR rfl rfl
      injection e1 with e1 e2 e3
      subst e1 e3
      refine ⟨A0, c0, by rw [HV.out]; rfl, ?_, ?_, HT.out⟩
      · rw [HV.out]; exact h4.mono (fun k e => HK.out k e)
      · rw [HV.out]; exact HRf.out
end Go.Proofs.YtlcefchbfjfifaaGreat
end

section
namespace Go.Proofs.YtlcefchbfjfifaaGreat
open Go.RowKit
set_option maxHeartbeats 4000000
set_option maxRecDepth 100000
set_option linter.unusedVariables false

/-- A read of a number: the number, and what is left. -/
def rd3 (most : Nat) (s : Bool × List UInt8) : Nat × Bool × List UInt8 := ((rdNum most false s.1 s.2).val, (rdNum most false s.1 s.2).bad, (rdNum most false s.1 s.2).left)
theorem rd3_le (most : Nat) (s : Bool × List UInt8) : (rd3 most s).1 ≤ most := rdNum_le most false s.1 s.2
def NumSt (m : Nat) (l : List UInt8) (bad : Bool) (w : World) (g : Nat) (F : Nat → Prop) (e : Ending) (w' : World) : Prop :=
  ∃ v b l', rd3 m (bad, l) = (v, b, l') ∧ v ≤ m ∧ e = .returned (.int .u64 (v : Int)) ∧ RdAt w' g F l' b ∧ Touch (fun k => k = g) w w'
theorem num_st (g : Nat) (F : Nat → Prop) (bad : Bool) (m : Nat) (l : List UInt8) (w : World) (h : RdAt w g F l bad) :
    Calls Tryz.prog 43 #[.pointer (some ⟨g, 0, none⟩), .int .u64 m] w (NumSt m l bad w g F) :=
  (num_any g F bad m l w h).mono fun e w' ⟨he, hr, t⟩ => ⟨_, _, _, rfl, rdNum_le _ _ _ _, he, hr, t⟩
def FNumSt (m : Nat) (l : List UInt8) (bad : Bool) (w : World) (g : Nat) (F : Nat → Prop) (e : Ending) (w' : World) : Prop :=
  ∃ v b l', rd3 m (bad, l) = (v, b, l') ∧ v ≤ m ∧ e = .returned (.int .u64 (v : Int)) ∧ RfAt w' g F l' b ∧ Touch (fun k => k = g) w w'
theorem fnum_st (g : Nat) (F : Nat → Prop) (bad : Bool) (m : Nat) (l : List UInt8) (w : World) (h : RfAt w g F l bad) :
    Calls Tryz.prog 47 #[.pointer (some ⟨g, 0, none⟩), .int .u64 m] w (FNumSt m l bad w g F) :=
  (rf_num g F bad m l w h).mono fun e w' ⟨he, hr, t⟩ => ⟨_, _, _, rfl, rdNum_le _ _ _ _, he, hr, t⟩
theorem fail_st (g : Nat) (F : Nat → Prop) (l : List UInt8) (bad : Bool) (w : World) (h : RdAt w g F l bad) :
    Calls Tryz.prog 44 #[.pointer (some ⟨g, 0, none⟩)] w (RPost (.tuple #[]) [] true w g F) := by
  obtain ⟨hg, A, cap, hl, hm, hb, hr⟩ := h
  refine (fail_any g A l.length cap bad w hb).mono ?_
  rintro e w1 ⟨rfl, rfl⟩
  exact ⟨rfl, (failPost hg hb).1, (failPost hg hb).2⟩
/-- In the middle of a read into the struct at block p: S has the blocks that may turn. -/
structure In (wS w : World) (g p : Nat) (T : TypeId) (F : Nat → Prop) (l : List UInt8) (bad : Bool) (cs : Array Value) : Prop where
  rd : RdAt w g F l bad
  blk : Blk w p T cs
  t : Touch (fun k => k = g ∨ k = p) wS w
  ne : p ≠ g
  nF : ¬ F p
theorem In.to {wS w w' : World} {g p : Nat} {T : TypeId} {F : Nat → Prop} {l l' : List UInt8} {bad bad' : Bool} {cs : Array Value} (h : In wS w g p T F l bad cs) (h' : RdAt w' g F l' bad') (t : Touch (fun k => k = g) w w') : In wS w' g p T F l' bad' cs :=
  ⟨h', t.blk h.blk h.ne, h.t.trans t (fun _ _ e => .inl e), h.ne, h.nF⟩
theorem In.set {wS w : World} {g p : Nat} {T : TypeId} {F : Nat → Prop} {l : List UInt8} {bad : Bool} {cs : Array Value} (h : In wS w g p T F l bad cs) (i : Nat) (u : Value) : In wS (w.setCell ⟨p, i, none⟩ u) g p T F l bad (cs.setIfInBounds i u) :=
  ⟨rdAt_touch h.rd (Touch.set (S := fun k => k = p) (Touch.refl _ _) (fun _ => rfl) u) (fun e => h.ne e.symm) (fun k hk e => h.nF (e ▸ hk)), h.blk.set_ i u, h.t.set (fun _ => .inr rfl) u, h.ne, h.nF⟩
theorem In.far {wS w w' : World} {g p : Nat} {T : TypeId} {F : Nat → Prop} {l : List UInt8} {bad : Bool} {cs : Array Value} (h : In wS w g p T F l bad cs) (t : Touch (fun _ => False) w w') : In wS w' g p T F l bad cs :=
  ⟨rdAt_touch h.rd t (fun e => e) (fun _ _ e => e), t.blk h.blk (fun e => e), h.t.trans t (fun _ _ e => e.elim), h.ne, h.nF⟩
structure Inf (wS w : World) (g p : Nat) (T : TypeId) (F : Nat → Prop) (l : List UInt8) (bad : Bool) (cs : Array Value) : Prop where
  rd : RfAt w g F l bad
  blk : Blk w p T cs
  t : Touch (fun k => k = g ∨ k = p) wS w
  ne : p ≠ g
  nF : ¬ F p
theorem Inf.to {wS w w' : World} {g p : Nat} {T : TypeId} {F : Nat → Prop} {l l' : List UInt8} {bad bad' : Bool} {cs : Array Value} (h : Inf wS w g p T F l bad cs) (h' : RfAt w' g F l' bad') (t : Touch (fun k => k = g) w w') : Inf wS w' g p T F l' bad' cs :=
  ⟨h', t.blk h.blk h.ne, h.t.trans t (fun _ _ e => .inl e), h.ne, h.nF⟩
theorem Inf.set {wS w : World} {g p : Nat} {T : TypeId} {F : Nat → Prop} {l : List UInt8} {bad : Bool} {cs : Array Value} (h : Inf wS w g p T F l bad cs) (i : Nat) (u : Value) : Inf wS (w.setCell ⟨p, i, none⟩ u) g p T F l bad (cs.setIfInBounds i u) :=
  ⟨rfAt_touch h.rd (Touch.set (S := fun k => k = p) (Touch.refl _ _) (fun _ => rfl) u) (fun e => h.ne e.symm) (fun k hk e => h.nF (e ▸ hk)), h.blk.set_ i u, h.t.set (fun _ => .inr rfl) u, h.ne, h.nF⟩
theorem Inf.far {wS w w' : World} {g p : Nat} {T : TypeId} {F : Nat → Prop} {l : List UInt8} {bad : Bool} {cs : Array Value} (h : Inf wS w g p T F l bad cs) (t : Touch (fun _ => False) w w') : Inf wS w' g p T F l bad cs :=
  ⟨rfAt_touch h.rd t (fun e => e) (fun _ _ e => e), t.blk h.blk (fun e => e), h.t.trans t (fun _ _ e => e.elim), h.ne, h.nF⟩
theorem Inf.done {w wS wb : World} {g p b : Nat} {T : TypeId} {F : Nat → Prop} {l : List UInt8} {bad : Bool} {cs : Array Value} (h : Inf wS wb g p T F l bad cs) (hT : Touch (fun k => k = g) w wS) (hg : g < w.heap.size) (hp : w.heap.size ≤ p) (hb : w.heap.size ≤ b) (hF : ∀ k, F k → k < w.heap.size) (vs : List Value) :
    RfAt (wb.setCells b 0 vs) g F l bad ∧ Touch (fun k => k = g) w (wb.setCells b 0 vs) := by
  have t := Touch.setCells (S := fun k => k = b) (g := b) vs 0 wb (Touch.refl _ _) (fun _ => rfl)
  refine ⟨rfAt_touch h.rd t (by omega) (fun k hk e => by have := hF k hk; omega), (hT.trans h.t (fun k hk e => e.elim id (fun e => by omega))).trans t (fun k hk e => by omega)⟩
theorem In.done {w wS wb : World} {g p b : Nat} {T : TypeId} {F : Nat → Prop} {l : List UInt8} {bad : Bool} {cs : Array Value} (h : In wS wb g p T F l bad cs) (hT : Touch (fun k => k = g) w wS) (hg : g < w.heap.size) (hp : w.heap.size ≤ p) (hb : w.heap.size ≤ b) (hF : ∀ k, F k → k < w.heap.size) (vs : List Value) :
    RdAt (wb.setCells b 0 vs) g F l bad ∧ Touch (fun k => k = g) w (wb.setCells b 0 vs) := by
  have t := Touch.setCells (S := fun k => k = b) (g := b) vs 0 wb (Touch.refl _ _) (fun _ => rfl)
  refine ⟨rdAt_touch h.rd t (by omega) (fun k hk e => by have := hF k hk; omega), (hT.trans h.t (fun k hk e => e.elim id (fun e => by omega))).trans t (fun k hk e => by omega)⟩
def rdI (s : Bool × List UInt8) : Int × Bool × List UInt8 := (rdInt s.1 s.2, (rdNum 9223372036854775807 true s.1 s.2).bad, (rdNum 9223372036854775807 true s.1 s.2).left)
def IntS (l : List UInt8) (bad : Bool) (w : World) (g : Nat) (F : Nat → Prop) (e : Ending) (w' : World) : Prop :=
  ∃ v b l', rdI (bad, l) = (v, b, l') ∧ (-9223372036854775808 ≤ v ∧ v ≤ 9223372036854775807) ∧ e = .returned (.int .i64 v) ∧ RdAt w' g F l' b ∧ Touch (fun k => k = g) w w'
theorem rdInt_in (b : Bool) (l : List UInt8) : -9223372036854775808 ≤ rdInt b l ∧ rdInt b l ≤ 9223372036854775807 := by
  have := rdNum_le 9223372036854775807 true b l
  unfold rdInt; split <;> omega
theorem int_st (g : Nat) (F : Nat → Prop) (bad : Bool) (l : List UInt8) (w : World) (h : RdAt w g F l bad) :
    Calls Tryz.prog 96 #[.pointer (some ⟨g, 0, none⟩)] w (IntS l bad w g F) :=
  (int_any g F bad l w h).mono fun e w' ⟨he, hr, t⟩ => ⟨_, _, _, rfl, rdInt_in _ _, he, hr, t⟩
def FIntS (l : List UInt8) (bad : Bool) (w : World) (g : Nat) (F : Nat → Prop) (e : Ending) (w' : World) : Prop :=
  ∃ v b l', rdI (bad, l) = (v, b, l') ∧ (-9223372036854775808 ≤ v ∧ v ≤ 9223372036854775807) ∧ e = .returned (.int .i64 v) ∧ RfAt w' g F l' b ∧ Touch (fun k => k = g) w w'
theorem fint_st (g : Nat) (F : Nat → Prop) (bad : Bool) (l : List UInt8) (w : World) (h : RfAt w g F l bad) :
    Calls Tryz.prog 100 #[.pointer (some ⟨g, 0, none⟩)] w (FIntS l bad w g F) :=
  (rf_int g F bad l w h).mono fun e w' ⟨he, hr, t⟩ => ⟨_, _, _, rfl, rdInt_in _ _, he, hr, t⟩
def FlagS (l : List UInt8) (bad : Bool) (w : World) (g : Nat) (F : Nat → Prop) (e : Ending) (w' : World) : Prop :=
  ∃ v b l', rd3 1 (bad, l) = (v, b, l') ∧ v ≤ 1 ∧ e = .returned (.bool (v == 1)) ∧ RdAt w' g F l' b ∧ Touch (fun k => k = g) w w'
def FFlagS (l : List UInt8) (bad : Bool) (w : World) (g : Nat) (F : Nat → Prop) (e : Ending) (w' : World) : Prop :=
  ∃ v b l', rd3 1 (bad, l) = (v, b, l') ∧ v ≤ 1 ∧ e = .returned (.bool (v == 1)) ∧ RfAt w' g F l' b ∧ Touch (fun k => k = g) w w'
/-- What is bad stays so. -/
theorem rdNum_bad (m : Nat) (mk : Bool) (l : List UInt8) : (rdNum m mk true l).bad = true := by
  unfold rdNum
  split
  · rfl
  · split
    · split <;> rfl
    · rfl
theorem rd3_bad {m : Nat} {s : Bool × List UInt8} (h : s.1 = true) : (rd3 m s).2.1 = true := by unfold rd3; rw [h]; exact rdNum_bad _ _ _
theorem In.aside {wS w w' : World} {g p : Nat} {T : TypeId} {F : Nat → Prop} {l : List UInt8} {bad : Bool} {cs : Array Value} {S : Nat → Prop} (h : In wS w g p T F l bad cs) (t : Touch S w w') (hS : ∀ k, S k → wS.heap.size ≤ k) (hp : p < wS.heap.size) (hg : g < wS.heap.size) (hF : ∀ k, F k → k < wS.heap.size) : In wS w' g p T F l bad cs :=
  ⟨rdAt_touch h.rd t (fun e => by have := hS _ e; omega) (fun k hk e => by have := hS _ e; have := hF k hk; omega), t.blk h.blk (fun e => by have := hS _ e; omega), h.t.trans t (fun k hk e => by have := hS _ e; omega), h.ne, h.nF⟩
theorem Inf.aside {wS w w' : World} {g p : Nat} {T : TypeId} {F : Nat → Prop} {l : List UInt8} {bad : Bool} {cs : Array Value} {S : Nat → Prop} (h : Inf wS w g p T F l bad cs) (t : Touch S w w') (hS : ∀ k, S k → wS.heap.size ≤ k) (hp : p < wS.heap.size) (hg : g < wS.heap.size) (hF : ∀ k, F k → k < wS.heap.size) : Inf wS w' g p T F l bad cs :=
  ⟨rfAt_touch h.rd t (fun e => by have := hS _ e; omega) (fun k hk e => by have := hS _ e; have := hF k hk; omega), t.blk h.blk (fun e => by have := hS _ e; omega), h.t.trans t (fun k hk e => by have := hS _ e; omega), h.ne, h.nF⟩
end Go.Proofs.YtlcefchbfjfifaaGreat
end
