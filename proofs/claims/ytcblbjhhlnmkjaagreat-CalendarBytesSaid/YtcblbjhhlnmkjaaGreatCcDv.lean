/- Reading rows of spans: the plain law, ref10.spans. (written by gence.py) -/
import Derived.Test.YtcblbjhhlnmkjaaGreatCcCv
import Derived.Test.YtcblbjhhlnmkjaaGreatQuillGv
namespace Go.Proofs.YtcblbjhhlnmkjaaGreat
open Go.RowKit Cal
set_option maxHeartbeats 4000000
set_option maxRecDepth 100000
set_option linter.unusedVariables false

/-- Behind n spans: what was read, what is left, is it bad. -/
def rdSt (l : List UInt8) (b : Bool) : Nat → List Sp × List UInt8 × Bool
  | 0 => ([], l, b)
  | n + 1 => ((rdSt l b n).1 ++ [⟨((rdNum 1125899906842624 false (rdSt l b n).2.2 (rdSt l b n).2.1).val : Int), ((rdNum 1125899906842624 false (rdNum 1125899906842624 false (rdSt l b n).2.2 (rdSt l b n).2.1).bad (rdNum 1125899906842624 false (rdSt l b n).2.2 (rdSt l b n).2.1).left).val : Int)⟩],
      (rdNum 1125899906842624 false (rdNum 1125899906842624 false (rdSt l b n).2.2 (rdSt l b n).2.1).bad (rdNum 1125899906842624 false (rdSt l b n).2.2 (rdSt l b n).2.1).left).left,
      (rdNum 1125899906842624 false (rdNum 1125899906842624 false (rdSt l b n).2.2 (rdSt l b n).2.1).bad (rdNum 1125899906842624 false (rdSt l b n).2.2 (rdSt l b n).2.1).left).bad)
theorem rdSt_succ (l : List UInt8) (b : Bool) (n : Nat) : rdSt l b (n + 1) = ((rdSt l b n).1 ++ [⟨((rdNum 1125899906842624 false (rdSt l b n).2.2 (rdSt l b n).2.1).val : Int), ((rdNum 1125899906842624 false (rdNum 1125899906842624 false (rdSt l b n).2.2 (rdSt l b n).2.1).bad (rdNum 1125899906842624 false (rdSt l b n).2.2 (rdSt l b n).2.1).left).val : Int)⟩],
      (rdNum 1125899906842624 false (rdNum 1125899906842624 false (rdSt l b n).2.2 (rdSt l b n).2.1).bad (rdNum 1125899906842624 false (rdSt l b n).2.2 (rdSt l b n).2.1).left).left,
      (rdNum 1125899906842624 false (rdNum 1125899906842624 false (rdSt l b n).2.2 (rdSt l b n).2.1).bad (rdNum 1125899906842624 false (rdSt l b n).2.2 (rdSt l b n).2.1).left).bad) := rfl
theorem rdSt_len (l : List UInt8) (b : Bool) : ∀ n, (rdSt l b n).1.length = n
  | 0 => rfl
  | n + 1 => by simp [rdSt, rdSt_len l b n]
def rdRow (b : Bool) (l : List UInt8) : List Sp × List UInt8 × Bool := rdSt (rdNum 32 false b l).left (rdNum 32 false b l).bad (rdNum 32 false b l).val
theorem rdRow_len (b : Bool) (l : List UInt8) : (rdRow b l).1.length ≤ 32 := by rw [rdRow, rdSt_len]; exact rdNum_le _ _ _ _
/-- What reading a row gives. -/
def RowPost (b : Bool) (l : List UInt8) (w : World) (g : Nat) (F : Nat → Prop) (e : Ending) (w' : World) : Prop :=
  ∃ A c, e = .returned (.slice A (rdRow b l).1.length c) ∧ SpR w' (fun k => w.heap.size ≤ k) A (rdRow b l).1.length (rdRow b l).1 ∧ RfAt w' g F (rdRow b l).2.1 (rdRow b l).2.2 ∧ Touch (fun q => q = g) w w'
theorem fspans_any (g : Nat) (F : Nat → Prop) (b : Bool) (l : List UInt8) (w : World) (h : RfAt w g F l b) (hF : ∀ k, F k → k < w.heap.size) (hg : g < w.heap.size) :
    Calls Tryz.prog 64 #[.pointer (some ⟨g, 0, none⟩)] w (RowPost b l w g F) := by
  have HN := Lib.hid (rf_num g F b 32 l w h)
  have hle := rdNum_le 32 false b l
  have HV := Lib.hid (show rdRow b l = rdSt (rdNum 32 false b l).left (rdNum 32 false b l).bad (rdNum 32 false b l).val from rfl)
  have HF := Lib.hid hF
  generalize rdNum 32 false b l = R at *
  obtain ⟨N, mk, l1, b1⟩ := R
  simp only at hle HV HN
  obtain ⟨i0, hi, hz0, hz1, hz2⟩ := info_parts infoS
  clear h hF
  go_enter Tryz.func64, Tryz.ntmps64
  go_wp2_with (go_at_call 75; go_must (refine HN.out.mono ?_); rintro e w1 ⟨rfl, r1, t1⟩; have HR1 := Lib.hid (And.intro r1 t1); clear r1 t1)
  clear HN
  go_loopw [3, 5] (fun o i wr => ∃ j : Nat, j ≤ N ∧ i = .int .u64 j ∧ (∃ r, Own wr 102 2 o r (rdSt l1 b1 j).1.length ((rdSt l1 b1 j).1.flatMap spC) ∧ (∀ k, r = some k → w.heap.size ≤ k)) ∧ RfAt wr g F (rdSt l1 b1 j).2.1 (rdSt l1 b1 j).2.2 ∧ Touch (fun q => q = g) w wr) (fun _ i _ => N - (intOf i).toNat)
  case atStart => exact ⟨0, by omega, rfl, ⟨none, Own.nil _ _ _, fun k e => by cases e⟩, HR1.out.1, HR1.out.2⟩
  case round =>
    clear HR1
    obtain ⟨j, hj, rfl, ⟨r, ho, hk⟩, hRf, hT⟩ := hrel
    obtain ⟨A0, c0, rfl, -, -⟩ := ho.form
    have HO := Lib.hid ho
    have HK := Lib.hid hk
    have HRf := Lib.hid hRf
    have HT := Lib.hid hT
    have HLJ := Lib.hid (rdSt_len l1 b1 j)
    clear ho hk hRf hT
    by_cases hjk : j < N
    · have HS := Lib.hid (rdSt_succ l1 b1 j)
      generalize rdSt l1 b1 j = q at *
      obtain ⟨L, l2, b2⟩ := q
      simp only at HO HRf HLJ HS
      have hv1 := rdNum_le 1125899906842624 false b2 l2
      have HN1 := Lib.hid (fun w1 (hh : RfAt w1 g F l2 b2) => rf_num g F b2 1125899906842624 l2 w1 hh)
      generalize rdNum 1125899906842624 false b2 l2 = R1 at *
      obtain ⟨v1, m1, l3, b3⟩ := R1
      simp only at hv1 HN1 HS
      have hv2 := rdNum_le 1125899906842624 false b3 l3
      have HN2 := Lib.hid (fun w1 (hh : RfAt w1 g F l3 b3) => rf_num g F b3 1125899906842624 l3 w1 hh)
      generalize rdNum 1125899906842624 false b3 l3 = R2 at *
      obtain ⟨v2, m2, l4, b4⟩ := R2
      simp only at hv2 HN2 HS
      have hc1 : IntKind.i64.wrap (v1 : Int) = (v1 : Int) := IntWalk.i64_in _ (by omega)
      have hc2 : IntKind.i64.wrap (v2 : Int) = (v2 : Int) := IntWalk.i64_in _ (by omega)
      have hLl : L.length ≤ 32 := by have := HLJ.out; omega
      have hsz := HT.out.size
      have hrg : ∀ k, r = some k → ¬ k = g := fun k e => by have := HK.out k e; omega
      have HRG := Lib.hid hrg
      clear hrg
      go_wp2_with (first
        | (go_at_call 75
           have HM9 := HR2
           go_must (refine (HN2.out _ (by exact HR2.out.1)).mono ?_)
           rintro e w3 ⟨rfl, r3, t3⟩
           have HR3 := Lib.hid (And.intro r3 (HR2.out.2.trans t3 (fun _ _ e => e)))
           have HO3 := Lib.hid (((HO.out.touch HR3.out.2 HRG.out)).touch ((Touch.refl (fun _ => False) w3).alloc (.cells #[.int .i64 v1, .int .i64 v2] 102)) (fun _ _ e => e))
           have HB3 := Lib.hid (Blk.new w3 102 #[.int .i64 v1, .int .i64 v2])
           clear r3 t3)
        | (go_at_call 75
           go_must (refine (HN1.out _ (by exact HRf.out)).mono ?_)
           rintro e w2 ⟨rfl, r2, t2⟩
           have HR2 := Lib.hid (And.intro r2 t2)
           clear r2 t2)
        | (at_builtin
           go_must (refine wpList_own_append rfl _ _ 22 22 rfl 102 i0 (.agg #[.int .i64 0, .int .i64 0]) 2 16 Tryz.underlying22 hi hz0 hz1 hz2 rfl _ r L.length (L.flatMap spC) rfl (by exact HO3.out) _ 1 [.int .i64 v1, .int .i64 v2] rfl (by exact Src.lit Tryz.underlying22 _ 1 1 102 #[.int .i64 v1, .int .i64 v2] HB3.out rfl (fun u hu => by simp at hu; rcases hu with rfl | rfl <;> rfl)) (by simp only [maxLen]; omega) (by omega) ?_)
           intro v5 r5 w5 ho5 ht5 hr5
           have HR5 := Lib.hid (And.intro ho5 (And.intro ht5 hr5))
           clear ho5 ht5 hr5))
      go_roundw
      case rel =>
        obtain ⟨ho5, ht5, hr5⟩ := HR5.out
        obtain ⟨r3, t3⟩ := HR3.out
        have ta := (Touch.refl (fun _ => False) w3).alloc (.cells #[.int .i64 (v1 : Int), .int .i64 (v2 : Int)] 102)
        refine ⟨j + 1, by omega, by go_num, ⟨r5, by rw [HS.out]; simpa [spC] using ho5, fun k e => ?_⟩, ?_, ?_⟩
        · rcases hr5 with e' | ⟨q, e', hq⟩
          · exact HK.out k (e'.symm.trans e)
          · rw [e'] at e; injection e with e; have := t3.size; simp at hq; omega
        · rw [HS.out]
          exact rfAt_touch (rfAt_touch r3 ta (fun e => e) (fun _ _ e => e)) ht5 (fun e => HRG.out g e rfl) (fun k hk e => by have := HK.out k e; have := HF.out k hk; omega)
        · exact ((HT.out.trans t3 (fun _ _ e => e)).trans ta (fun _ _ e => e.elim)).trans ht5 (fun k hk e => by have := HK.out k e; omega)
      case measure => simp [intOf]; omega
    · obtain rfl : j = N := by omega
      have HO := Lib.hid HO.out
      go_wp2
      go_ret
      obtain ⟨A, c, e1, -, -, -, h4⟩ := HO.out.spR rfl rfl
      injection e1 with e1 e2 e3
      subst e1 e3
      refine ⟨A0, c0, by rw [HV.out]; rfl, ?_, ?_, HT.out⟩
      · rw [HV.out]; exact h4.mono (fun k e => HK.out k e)
      · rw [HV.out]; exact HRf.out
end Go.Proofs.YtcblbjhhlnmkjaaGreat
