/- calendar.Read. (written by gencg.py; under way) -/
import Derived.Test.YtlcefchbfjfifaaGreatVCcF
import Derived.Test.YtlcefchbfjfifaaGreatVCalW
import Derived.Test.YtlcefchbfjfifaaGreatVQuillY
namespace Go.Proofs.YtlcefchbfjfifaaGreat
open Go.RowKit Cal
set_option maxHeartbeats 4000000
set_option maxRecDepth 100000
set_option linter.unusedVariables false

/-- In the middle of a read: the result's block, its own block with the two rows, the reader. -/
structure RdI (w wr : World) (g : Nat) (F : Nat → Prop) (o : Int) (v1 v2 : Value) (l : List UInt8) (b : Bool) : Prop where
  t : Touch (fun q => q = g) w wr
  rb : Blk wr w.heap.size 51 #[.int .i64 0, .slice none 0 0, .slice none 0 0]
  tb : Blk wr (w.heap.size + 1) 51 #[.int .i64 o, v1, v2]
  rd : RdAt wr g F l b
section
variable {w wr w' : World} {g : Nat} {F S : Nat → Prop} {o : Int} {v1 v2 : Value} {l l' : List UInt8} {b b' : Bool}
theorem RdI.num (h : RdI w wr g F o v1 v2 l b) (hg : g < w.heap.size) (hr : RdAt w' g F l' b') (t : Touch (fun q => q = g) wr w') : RdI w w' g F o v1 v2 l' b' :=
  ⟨h.t.trans t (fun _ _ e => e), t.blk h.rb (by omega), t.blk h.tb (by omega), hr⟩
theorem RdI.touch (h : RdI w wr g F o v1 v2 l b) (hg : g < w.heap.size) (hF : ∀ k, F k → k < w.heap.size) (t : Touch S wr w') (hS : ∀ k, S k → w.heap.size + 2 ≤ k) : RdI w w' g F o v1 v2 l b :=
  ⟨h.t.trans t (fun q hq e => by have := hS q e; omega), t.blk h.rb (fun e => by have := hS _ e; omega), t.blk h.tb (fun e => by have := hS _ e; omega), rdAt_touch h.rd t (fun e => by have := hS _ e; omega) (fun k hk e => by have := hS _ e; have := hF k hk; omega)⟩
theorem RdI.set0 (h : RdI w wr g F o v1 v2 l b) (hg : g < w.heap.size) (hF : ∀ k, F k → k < w.heap.size) (o' : Int) : RdI w (wr.setCell ⟨w.heap.size + 1, 0, none⟩ (.int .i64 o')) g F o' v1 v2 l b := by
  have t : Touch (fun q => q = w.heap.size + 1) wr (wr.setCell ⟨w.heap.size + 1, 0, none⟩ (.int .i64 o')) := (Touch.refl (fun q => q = w.heap.size + 1) wr).set (fun _ => rfl) _
  exact ⟨h.t.trans t (fun q hq e => by omega), t.blk h.rb (by omega), by simpa using h.tb.set_ 0 (.int .i64 o'), rdAt_touch h.rd t (by omega) (fun k hk e => by have := hF k hk; omega)⟩
theorem RdI.set1 (h : RdI w wr g F o v1 v2 l b) (hg : g < w.heap.size) (hF : ∀ k, F k → k < w.heap.size) (v : Value) : RdI w (wr.setCell ⟨w.heap.size + 1, 1, none⟩ v) g F o v v2 l b := by
  have t : Touch (fun q => q = w.heap.size + 1) wr (wr.setCell ⟨w.heap.size + 1, 1, none⟩ v) := (Touch.refl (fun q => q = w.heap.size + 1) wr).set (fun _ => rfl) _
  exact ⟨h.t.trans t (fun q hq e => by omega), t.blk h.rb (by omega), by simpa using h.tb.set_ 1 v, rdAt_touch h.rd t (by omega) (fun k hk e => by have := hF k hk; omega)⟩
theorem RdI.set2 (h : RdI w wr g F o v1 v2 l b) (hg : g < w.heap.size) (hF : ∀ k, F k → k < w.heap.size) (v : Value) : RdI w (wr.setCell ⟨w.heap.size + 1, 2, none⟩ v) g F o v1 v l b := by
  have t : Touch (fun q => q = w.heap.size + 1) wr (wr.setCell ⟨w.heap.size + 1, 2, none⟩ v) := (Touch.refl (fun q => q = w.heap.size + 1) wr).set (fun _ => rfl) _
  exact ⟨h.t.trans t (fun q hq e => by omega), t.blk h.rb (by omega), by simpa using h.tb.set_ 2 v, rdAt_touch h.rd t (by omega) (fun k hk e => by have := hF k hk; omega)⟩
end
/-- The own row in a field, between two rounds. -/
def Fld (w wr : World) (v : Value) (L : List Sp) (X : Nat → Prop) : Prop := ∃ r, Own wr 92 2 v r L.length (L.flatMap spC) ∧ ∀ k, r = some k → w.heap.size + 2 ≤ k ∧ ¬ X k
def RdO (w : World) (g : Nat) (F : Nat → Prop) (o : Int) (l0 : List UInt8) (b0 : Bool) (wk : List Sp) (l1 : List UInt8) (b1 : Bool) (cl : List Sp) (l2 : List UInt8) (b2 : Bool) : Nat → World → Prop
  | 0, wr => RdI w wr g F o (.slice none 0 0) (.slice none 0 0) l0 b0
  | 1, wr => ∃ A k F1, RdI w wr g F o (.slice A wk.length k) (.slice none 0 0) l1 b1 ∧ SpR wr F1 A wk.length wk ∧ (∀ q, F1 q → w.heap.size + 2 ≤ q ∧ q < wr.heap.size)
  | _, wr => ∃ A k B m, RdI w wr g F o (.slice A wk.length k) (.slice B cl.length m) l2 b2 ∧ CaR wr (fun q => w.heap.size + 2 ≤ q) ⟨o, wk, cl⟩ A B
theorem RdAt.blk {w : World} {g : Nat} {F : Nat → Prop} {l : List UInt8} {bad : Bool} (h : RdAt w g F l bad) : ∃ A cap, Blk w g 103 #[.slice A l.length cap, .bool bad] := by
  obtain ⟨_, A, cap, _, _, hb, _⟩ := h
  exact ⟨A, cap, hb⟩
theorem rd_fail (g : Nat) (F : Nat → Prop) (l : List UInt8) (bad : Bool) (w : World) (h : RdAt w g F l bad) :
    Calls Tryz.prog 44 #[.pointer (some ⟨g, 0, none⟩)] w (RPost (.tuple #[]) [] true w g F) := by
  obtain ⟨hg, A, cap, -, -, hb, -⟩ := h
  refine (fail_any g A l.length cap bad w hb).mono ?_
  rintro e w' ⟨rfl, rfl⟩
  obtain ⟨h1, h2⟩ := failPost hg hb
  exact ⟨rfl, h1, h2⟩
def CrPost (q : CaRes) (w : World) (g : Nat) (F : Nat → Prop) (e : Ending) (w' : World) : Prop :=
  ∃ A B k m, e = .returned (.tuple #[.agg #[.int .i64 q.c.off, .slice A q.c.wk.length k, .slice B q.c.cl.length m], .bool q.ok]) ∧ CaR w' (fun p => w.heap.size ≤ p) q.c A B ∧ RdAt w' g F q.left q.bad ∧ Touch (fun p => p = g) w w'
theorem cread_any (g : Nat) (F : Nat → Prop) (b : Bool) (l : List UInt8) (w : World) (h : RdAt w g F l b) (hF : ∀ k, F k → k < w.heap.size) (hg : g < w.heap.size) :
    Calls Tryz.prog 65 #[.pointer (some ⟨g, 0, none⟩)] w (CrPost (rdRes b l) w g F) := by
  have t0 := ((Touch.refl (fun _ => False) w).alloc (.cells #[.int .i64 0, .slice none 0 0, .slice none 0 0] 51)).alloc (.cells #[.int .i64 0, .slice none 0 0, .slice none 0 0] 51)
  have HI0 := Lib.hid (show RdI w ((w.alloc (.cells #[.int .i64 0, .slice none 0 0, .slice none 0 0] 51)).alloc (.cells #[.int .i64 0, .slice none 0 0, .slice none 0 0] 51)) g F 0 (.slice none 0 0) (.slice none 0 0) l b from
    ⟨t0.mono (fun _ _ e => e.elim), (Blk.new w _ _).alloc _, by simpa using Blk.new (w.alloc (.cells #[.int .i64 0, .slice none 0 0, .slice none 0 0] 51)) 51 #[.int .i64 0, .slice none 0 0, .slice none 0 0], rdAt_touch h t0 (fun e => e) (fun _ _ e => e)⟩)
  have HInt := Lib.hid (int_any g F b l _ HI0.out.rd)
  have HF := Lib.hid (fun k (hk : F k) => hF k hk)
  have HRs := Lib.hid (show rdRes b l = bif rdOkC b l then ⟨rdCa b l, true, (rdC2 b l).2.1, false⟩ else ⟨⟨0, [], []⟩, false, [], true⟩ from rfl)
  have HOk := Lib.hid (show rdOkC b l = (!(rdC2 b l).2.2 && decide (checkE (rdCa b l) = 0)) from rfl)
  have HCa := Lib.hid (show rdCa b l = ⟨rdInt b l, (rdC1 b l).1, (rdC2 b l).1⟩ from rfl)
  have HC1 := Lib.hid (show rdC1 b l = rdRow (rdNum 9223372036854775807 true b l).bad (rdNum 9223372036854775807 true b l).left from rfl)
  have HC2 := Lib.hid (show rdC2 b l = rdRow (rdC1 b l).2.2 (rdC1 b l).2.1 from rfl)
  generalize rdInt b l = o at *
  generalize rdNum 9223372036854775807 true b l = R0 at *
  obtain ⟨v0, m0, l0, b0⟩ := R0
  simp only at HC1 HInt
  generalize rdC1 b l = q1 at *
  obtain ⟨wk, l1, b1⟩ := q1
  simp only at HC2 HCa HC1
  generalize rdC2 b l = q2 at *
  obtain ⟨cl, l2, b2⟩ := q2
  simp only at HCa HOk HRs HC2
  rw [HCa.out] at HOk HRs
  have hl1 : wk.length ≤ 32 := by have := rdRow_len b0 l0; rw [← HC1.out] at this; exact this
  have hl2 : cl.length ≤ 32 := by have := rdRow_len b1 l1; rw [← HC2.out] at this; exact this
  clear t0 h hF
  obtain ⟨i0, hi, hz0, hz1, hz2⟩ := info_parts infoS
  have p0 := HI0.out.tb.frozen 0
  go_enter Tryz.func65, Tryz.ntmps65
  go_wp2_with (go_at_call 96; go_must (refine HInt.out.mono ?_); rintro e w1 ⟨rfl, r1, t1⟩; have HI1 := Lib.hid (HI0.out.num hg r1 t1); have y0 := HI1.out.tb.frozen 0; have x0 := HI1.out.tb.cell 0; simp at x0; clear r1 t1)
  clear HI0 HInt p0 y0 x0
  go_loopw [15] (fun i wr => ∃ j : Nat, j ≤ 2 ∧ i = .int .i64 j ∧ RdO w g F o l0 b0 wk l1 b1 cl l2 b2 j wr) (fun i _ => 2 - (intOf i).toNat)
  case atStart => exact ⟨0, by omega, rfl, HI1.out.set0 hg HF.out o⟩
  case round =>
    obtain ⟨j, hj, rfl, hO⟩ := hrel
    clear HI1
    rcases j with _ | _ | _ | j
    · have HI := Lib.hid (show RdI w wr g F o (.slice none 0 0) (.slice none 0 0) l0 b0 from hO)
      clear hO
      have hix : ∀ w' : World, (Instr.index 187 (.agg #[.pointer (some ⟨w.heap.size + 1, 1, none⟩), .pointer (some ⟨w.heap.size + 1, 2, none⟩)]) (.int .i64 0)).run Tryz.prog w' = .ok (.pointer (some ⟨w.heap.size + 1, 1, none⟩)) w' := fun _ => by kernel_rfl
      have hN := rdNum_le 32 false b0 l0
      have HE := Lib.hid (HC1.out.trans (show rdRow b0 l0 = rdSt (rdNum 32 false b0 l0).left (rdNum 32 false b0 l0).bad (rdNum 32 false b0 l0).val from rfl))
      have HNm := Lib.hid (num_any g F b0 32 l0 _ HI.out.rd)
      generalize rdNum 32 false b0 l0 = R at *
      obtain ⟨N, mk, la, ba⟩ := R
      simp only at hN HE HNm
      go_wp2_with (go_at_call 43; go_must (refine HNm.out.mono ?_); rintro e w1 ⟨rfl, r1, t1⟩; have HI1 := Lib.hid (HI.out.num hg r1 t1); have HT1 := Lib.hid t1; clear r1 t1)
      clear HNm hix
      go_loopw [20] (fun i wr2 => ∃ n : Nat, n ≤ N ∧ i = .int .u64 n ∧ ∃ A k, RdI w wr2 g F o (.slice A (rdSt la ba n).1.length k) (.slice none 0 0) (rdSt la ba n).2.1 (rdSt la ba n).2.2 ∧ Fld w wr2 (.slice A (rdSt la ba n).1.length k) (rdSt la ba n).1 (fun _ => False)) (fun i _ => N - (intOf i).toNat)
      case atStart => exact ⟨0, by omega, rfl, none, 0, by simpa [rdSt] using HI1.out, ⟨none, Own.nil _ _ _, fun k e => by cases e⟩⟩
      case round =>
        obtain ⟨n, hn, rfl, A2, k2, hI2, r, ho, hk⟩ := hrel
        have HI2 := Lib.hid hI2
        have HO := Lib.hid ho
        have HK := Lib.hid (fun k e => (hk k e).1)
        clear HI1 HT1 hI2 ho hk
        by_cases hnk : n < N
        · have HS := Lib.hid (rdSt_succ la ba n)
          have HLJ := Lib.hid (rdSt_len la ba n)
          generalize rdSt la ba n = q at *
          obtain ⟨L, l2', b2'⟩ := q
          simp only at HI2 HO HLJ HS
          have hv1 := rdNum_le 1125899906842624 false b2' l2'
          have HN1 := Lib.hid (fun w1 (hh : RdAt w1 g F l2' b2') => num_any g F b2' 1125899906842624 l2' w1 hh)
          generalize rdNum 1125899906842624 false b2' l2' = R1 at *
          obtain ⟨v1, m1, l3, b3⟩ := R1
          simp only at hv1 HN1 HS
          have hv2 := rdNum_le 1125899906842624 false b3 l3
          have HN2 := Lib.hid (fun w1 (hh : RdAt w1 g F l3 b3) => num_any g F b3 1125899906842624 l3 w1 hh)
          generalize rdNum 1125899906842624 false b3 l3 = R2 at *
          obtain ⟨v2, m2, l4, b4⟩ := R2
          simp only at hv2 HN2 HS
          have hc1 : IntKind.i64.wrap (v1 : Int) = (v1 : Int) := IntWalk.i64_in _ (by omega)
          have hc2 : IntKind.i64.wrap (v2 : Int) = (v2 : Int) := IntWalk.i64_in _ (by omega)
          have hLl : L.length ≤ 32 := by have := HLJ.out; omega
          have HRG := Lib.hid (fun k (e : r = some k) => show ¬ k = g by have := HK.out k e; omega)
          go_wp2_with (first
            | (go_at_call 43
               have HM9 := HI3
               go_must (refine (HN2.out _ (by exact HI3.out.rd)).mono ?_)
               rintro e w4 ⟨rfl, r4, t4⟩
               have HI4 := Lib.hid (HI3.out.num hg r4 t4)
               have HT4 := Lib.hid t4
               have HO3 := Lib.hid (((HO.out.touch HT3.out HRG.out).touch t4 HRG.out).touch ((Touch.refl (fun _ => False) w4).alloc (.cells #[.int .i64 v1, .int .i64 v2] 92)) (fun _ _ e => e))
               have HB3 := Lib.hid (Blk.new w4 92 #[.int .i64 v1, .int .i64 v2])
               have p1 := HI4.out.tb.cell 1
               simp at p1
               have hs4 := HI4.out.tb.lt
               clear r4 t4)
            | (go_at_call 43
               go_must (refine (HN1.out _ (by exact HI2.out.rd)).mono ?_)
               rintro e w3 ⟨rfl, r3, t3⟩
               have HI3 := Lib.hid (HI2.out.num hg r3 t3)
               have HT3 := Lib.hid t3
               clear r3 t3)
            | (at_builtin
               go_must (refine wpList_own_append rfl _ _ 49 49 rfl 92 i0 (.agg #[.int .i64 0, .int .i64 0]) 2 16 Tryz.underlying49 hi hz0 hz1 hz2 rfl _ r L.length (L.flatMap spC) rfl (by exact HO3.out) _ 1 [.int .i64 v1, .int .i64 v2] rfl (by exact Src.lit Tryz.underlying49 _ 1 1 92 #[.int .i64 v1, .int .i64 v2] HB3.out rfl (fun u hu => by simp at hu; rcases hu with rfl | rfl <;> rfl)) (by simp only [maxLen]; omega) (by omega) ?_)
               intro v5 r5 w5 ho5 ht5 hr5
               have HI5 := Lib.hid ((HI4.out.touch hg HF.out ((Touch.refl (fun _ => False) w4).alloc (.cells #[.int .i64 v1, .int .i64 v2] 92)) (fun _ e => e.elim)).touch hg HF.out ht5 (fun k e => HK.out k e))
               obtain ⟨A5, k5, rfl, -, -⟩ := ho5.form
               have x1 := HI5.out.tb.cell 1; have y1 := HI5.out.tb.frozen 1
               simp at x1
               have HR5 := Lib.hid (And.intro ho5 (And.intro ht5 hr5))
               clear ho5 ht5 hr5))
          go_roundw
          case rel =>
            obtain ⟨ho5, ht5, hr5⟩ := HR5.out
            have hk5 : ∀ k, r5 = some k → w.heap.size + 2 ≤ k := fun k e => by
              rcases hr5 with e' | ⟨q, e', hq⟩
              · exact HK.out k (e'.symm.trans e)
              · rw [e'] at e; injection e with e; simp at hq; omega
            have ts : Touch (fun q => q = w.heap.size + 1) w5 (w5.setCell ⟨w.heap.size + 1, 1, none⟩ (.slice A5 (L.length + 1) k5)) := (Touch.refl (fun q => q = w.heap.size + 1) w5).set (fun _ => rfl) _
            refine ⟨n + 1, by omega, by go_num, A5, k5, by rw [HS.out]; simpa using HI5.out.set1 hg HF.out (.slice A5 (L.length + 1) k5), r5, by rw [HS.out]; simpa [spC] using ho5.touch ts (fun k e => by have := hk5 k e; omega), fun k e => ⟨hk5 k e, fun e => e⟩⟩
          case measure => simp [intOf]; omega
        · obtain rfl : n = N := by omega
          go_wp2
          go_roundw
          case rel =>
            have hI := HI2.out
            have hO := HO.out
            rw [← HE.out] at hI hO
            simp only at hI hO
            obtain ⟨A, c, e1, -, -, -, h4⟩ := hO.spR rfl rfl
            injection e1 with e1 e2 e3
            subst e1 e3
            exact ⟨1, by omega, by go_num, A2, k2, _, hI, h4.near, fun q hq => ⟨HK.out q hq.1, hq.2⟩⟩
          case measure => simp [intOf]
    · obtain ⟨A1, k1, F1, hI, hsp, hfb⟩ := hO
      have HI := Lib.hid hI
      have HSp0 := Lib.hid hsp
      have HFb0 := Lib.hid hfb
      clear hI hsp hfb
      have hix : ∀ w' : World, (Instr.index 187 (.agg #[.pointer (some ⟨w.heap.size + 1, 1, none⟩), .pointer (some ⟨w.heap.size + 1, 2, none⟩)]) (.int .i64 1)).run Tryz.prog w' = .ok (.pointer (some ⟨w.heap.size + 1, 2, none⟩)) w' := fun _ => by kernel_rfl
      have hN := rdNum_le 32 false b1 l1
      have HE := Lib.hid (HC2.out.trans (show rdRow b1 l1 = rdSt (rdNum 32 false b1 l1).left (rdNum 32 false b1 l1).bad (rdNum 32 false b1 l1).val from rfl))
      have HNm := Lib.hid (num_any g F b1 32 l1 _ HI.out.rd)
      generalize rdNum 32 false b1 l1 = R at *
      obtain ⟨N, mk, la, ba⟩ := R
      simp only at hN HE HNm
      go_wp2_with (go_at_call 43; go_must (refine HNm.out.mono ?_); rintro e w1 ⟨rfl, r1, t1⟩; have HI1 := Lib.hid (HI.out.num hg r1 t1); have HT1 := Lib.hid t1; clear r1 t1; have HSp := Lib.hid (HSp0.out.touch HT1.out (fun q hq e => by have := (HFb0.out q hq).1; omega)); have HFb := Lib.hid (fun q (hq : F1 q) => And.intro (HFb0.out q hq).1 (show q < w1.heap.size by have := (HFb0.out q hq).2; have := HT1.out.size; omega)))
      clear HNm hix
      go_loopw [20] (fun i wr2 => ∃ n : Nat, n ≤ N ∧ i = .int .u64 n ∧ ∃ A k, RdI w wr2 g F o (.slice A1 wk.length k1) (.slice A (rdSt la ba n).1.length k) (rdSt la ba n).2.1 (rdSt la ba n).2.2 ∧ Fld w wr2 (.slice A (rdSt la ba n).1.length k) (rdSt la ba n).1 F1 ∧ SpR wr2 F1 A1 wk.length wk ∧ w1.heap.size ≤ wr2.heap.size) (fun i _ => N - (intOf i).toNat)
      case atStart => exact ⟨0, by omega, rfl, none, 0, by simpa [rdSt] using HI1.out, ⟨none, Own.nil _ _ _, fun k e => by cases e⟩, HSp.out, Nat.le_refl _⟩
      case round =>
        obtain ⟨n, hn, rfl, A2, k2, hI2, ⟨r, ho, hk⟩, hsp2, hsz2⟩ := hrel
        have HX := Lib.hid (fun k e => (hk k e).2)
        clear HSp
        have HSp := Lib.hid hsp2
        clear hsp2
        have HI2 := Lib.hid hI2
        have HO := Lib.hid ho
        have HK := Lib.hid (fun k e => (hk k e).1)
        clear HI1 HT1 hI2 ho hk
        by_cases hnk : n < N
        · have HS := Lib.hid (rdSt_succ la ba n)
          have HLJ := Lib.hid (rdSt_len la ba n)
          generalize rdSt la ba n = q at *
          obtain ⟨L, l2', b2'⟩ := q
          simp only at HI2 HO HLJ HS
          have hv1 := rdNum_le 1125899906842624 false b2' l2'
          have HN1 := Lib.hid (fun w1 (hh : RdAt w1 g F l2' b2') => num_any g F b2' 1125899906842624 l2' w1 hh)
          generalize rdNum 1125899906842624 false b2' l2' = R1 at *
          obtain ⟨v1, m1, l3, b3⟩ := R1
          simp only at hv1 HN1 HS
          have hv2 := rdNum_le 1125899906842624 false b3 l3
          have HN2 := Lib.hid (fun w1 (hh : RdAt w1 g F l3 b3) => num_any g F b3 1125899906842624 l3 w1 hh)
          generalize rdNum 1125899906842624 false b3 l3 = R2 at *
          obtain ⟨v2, m2, l4, b4⟩ := R2
          simp only at hv2 HN2 HS
          have hc1 : IntKind.i64.wrap (v1 : Int) = (v1 : Int) := IntWalk.i64_in _ (by omega)
          have hc2 : IntKind.i64.wrap (v2 : Int) = (v2 : Int) := IntWalk.i64_in _ (by omega)
          have hLl : L.length ≤ 32 := by have := HLJ.out; omega
          have HRG := Lib.hid (fun k (e : r = some k) => show ¬ k = g by have := HK.out k e; omega)
          go_wp2_with (first
            | (go_at_call 43
               have HM9 := HI3
               go_must (refine (HN2.out _ (by exact HI3.out.rd)).mono ?_)
               rintro e w4 ⟨rfl, r4, t4⟩
               have HI4 := Lib.hid (HI3.out.num hg r4 t4)
               have HT4 := Lib.hid t4
               have HO3 := Lib.hid (((HO.out.touch HT3.out HRG.out).touch t4 HRG.out).touch ((Touch.refl (fun _ => False) w4).alloc (.cells #[.int .i64 v1, .int .i64 v2] 92)) (fun _ _ e => e))
               have HB3 := Lib.hid (Blk.new w4 92 #[.int .i64 v1, .int .i64 v2])
               have p2 := HI4.out.tb.cell 2
               simp at p2
               have hs4 := HI4.out.tb.lt
               clear r4 t4)
            | (go_at_call 43
               go_must (refine (HN1.out _ (by exact HI2.out.rd)).mono ?_)
               rintro e w3 ⟨rfl, r3, t3⟩
               have HI3 := Lib.hid (HI2.out.num hg r3 t3)
               have HT3 := Lib.hid t3
               clear r3 t3)
            | (at_builtin
               go_must (refine wpList_own_append rfl _ _ 49 49 rfl 92 i0 (.agg #[.int .i64 0, .int .i64 0]) 2 16 Tryz.underlying49 hi hz0 hz1 hz2 rfl _ r L.length (L.flatMap spC) rfl (by exact HO3.out) _ 1 [.int .i64 v1, .int .i64 v2] rfl (by exact Src.lit Tryz.underlying49 _ 1 1 92 #[.int .i64 v1, .int .i64 v2] HB3.out rfl (fun u hu => by simp at hu; rcases hu with rfl | rfl <;> rfl)) (by simp only [maxLen]; omega) (by omega) ?_)
               intro v5 r5 w5 ho5 ht5 hr5
               have HI5 := Lib.hid ((HI4.out.touch hg HF.out ((Touch.refl (fun _ => False) w4).alloc (.cells #[.int .i64 v1, .int .i64 v2] 92)) (fun _ e => e.elim)).touch hg HF.out ht5 (fun k e => HK.out k e))
               obtain ⟨A5, k5, rfl, -, -⟩ := ho5.form
               have x2 := HI5.out.tb.cell 2; have y2 := HI5.out.tb.frozen 2
               simp at x2
               have HR5 := Lib.hid (And.intro ho5 (And.intro ht5 hr5))
               clear ho5 ht5 hr5))
          go_roundw
          case rel =>
            obtain ⟨ho5, ht5, hr5⟩ := HR5.out
            have hk5 : ∀ k, r5 = some k → w.heap.size + 2 ≤ k := fun k e => by
              rcases hr5 with e' | ⟨q, e', hq⟩
              · exact HK.out k (e'.symm.trans e)
              · rw [e'] at e; injection e with e; simp at hq; omega
            have ts : Touch (fun q => q = w.heap.size + 1) w5 (w5.setCell ⟨w.heap.size + 1, 2, none⟩ (.slice A5 (L.length + 1) k5)) := (Touch.refl (fun q => q = w.heap.size + 1) w5).set (fun _ => rfl) _
            refine ⟨n + 1, by omega, by go_num, A5, k5, by rw [HS.out]; simpa using HI5.out.set2 hg HF.out (.slice A5 (L.length + 1) k5), ⟨r5, by rw [HS.out]; simpa [spC] using ho5.touch ts (fun k e => by have := hk5 k e; omega), fun k e => ⟨hk5 k e, ?_⟩⟩, ?_, ?_⟩
            · rcases hr5 with e' | ⟨q, e', hq⟩
              · exact HX.out k (e'.symm.trans e)
              · rw [e'] at e; injection e with e; simp at hq; intro hf; have := (HFb.out k hf).2; have := HT3.out.size; have := HT4.out.size; omega
            · exact ((((HSp.out.touch HT3.out (fun q hq e => by have := (HFb.out q hq).1; omega)).touch HT4.out (fun q hq e => by have := (HFb.out q hq).1; omega)).touch ((Touch.refl (fun _ => False) w4).alloc (.cells #[.int .i64 v1, .int .i64 v2] 92)) (fun _ _ e => e)).touch ht5 (fun q hq e => HX.out q e hq)).touch ts (fun q hq e => by have := (HFb.out q hq).1; omega)
            · have := HT3.out.size; have := HT4.out.size; have := ht5.size; simp at this ⊢; omega
          case measure => simp [intOf]; omega
        · obtain rfl : n = N := by omega
          go_wp2
          go_roundw
          case rel =>
            have hI := HI2.out
            have hO := HO.out
            rw [← HE.out] at hI hO
            simp only at hI hO
            obtain ⟨A, c, e1, -, -, -, h4⟩ := hO.spR rfl rfl
            injection e1 with e1 e2 e3
            subst e1 e3
            exact ⟨2, by omega, by go_num, A1, k1, A2, k2, hI, HSp.out.mono (fun q hq => (HFb.out q hq).1), h4.mono (fun q hq => HK.out q hq)⟩
          case measure => simp [intOf]
    · obtain ⟨A, k, B, m, hI, hCR⟩ := hO
      have HI := Lib.hid hI
      have HCR := Lib.hid hCR
      obtain ⟨Ar, cr, hbr⟩ := hI.rd.blk
      have HBr := Lib.hid hbr
      have p0 := hI.tb.cell 0; have p1 := hI.tb.cell 1; have p2 := hI.tb.cell 2
      have x0 := hI.rb.frozen 0; have x1 := hI.rb.frozen 1; have x2 := hI.rb.frozen 2
      have X0 := hI.rb.cell 0; have X1 := hI.rb.cell 1; have X2 := hI.rb.cell 2
      simp at p0 p1 p2 X0 X1 X2
      clear hI hCR hbr
      have HCk := Lib.hid (fun w1 hr => ccheck_any (fun q => w.heap.size + 2 ≤ q) A B k m ⟨o, wk, cl⟩ w1 hr (by simp only; omega) (by simp only; omega))
      simp only at HCk
      generalize checkE ⟨o, wk, cl⟩ = v at *
      cases b2
      · by_cases hv : v = 0
        · subst hv
          simp only [Bool.not_false, Bool.true_and, decide_true] at HOk
          go_wp2_with (first
                  | (go_at_call 21; go_must (refine (bad_any g Ar _ cr _ _ (by exact HBr.out)).mono ?_); rintro e wb ⟨rfl, rfl⟩)
                  | (go_at_call 53; go_must (refine (HCk.out _ (by exact HCR.out)).mono ?_); rintro e we ⟨rfl, t4⟩; have HTx := Lib.hid t4; have HIx := Lib.hid (HI.out.touch hg HF.out t4 (fun _ e => e.elim)); have HBr := Lib.hid (t4.blk HBr.out (fun e => e)); have P0 := HIx.out.tb.cell 0; have P1 := HIx.out.tb.cell 1; have P2 := HIx.out.tb.cell 2; simp at P0 P1 P2; clear x0 x1 x2 X0 X1 X2; have x0 := HIx.out.rb.frozen 0; have x1 := HIx.out.rb.frozen 1; have x2 := HIx.out.rb.frozen 2; have X0 := HIx.out.rb.cell 0; have X1 := HIx.out.rb.cell 1; have X2 := HIx.out.rb.cell 2; simp at X0 X1 X2; clear t4))
          have hs := ((HIx.out.rb.set_ 0 (.int .i64 o)).set_ 1 (.slice A wk.length k)).set_ 2 (.slice B cl.length m)
          have e0 := hs.cell 0; have e1 := hs.cell 1; have e2 := hs.cell 2
          simp at e0 e1 e2
          refine bodyPost_ret (v := .tuple #[.agg #[.int .i64 o, .slice A wk.length k, .slice B cl.length m], .bool true]) (by simp [results, Tryz.results65, go_sem, e0, e1, e2]) rfl ?_
          have tf := (((Touch.refl (fun q => q = w.heap.size) we).set (b := w.heap.size) (o := 0) (fun _ => rfl) (.int .i64 o)).set (b := w.heap.size) (o := 1) (fun _ => rfl) (.slice A wk.length k)).set (b := w.heap.size) (o := 2) (fun _ => rfl) (.slice B cl.length m)
          exact ⟨A, B, k, m, by rw [HRs.out, HOk.out]; rfl, by rw [HRs.out, HOk.out]; exact ⟨(HCR.out.wk.touch HTx.out (fun q hq e => by omega) |>.touch tf (fun q hq e => by omega)).mono (fun q hq => by omega), (HCR.out.cl.touch HTx.out (fun q hq e => by omega) |>.touch tf (fun q hq e => by omega)).mono (fun q hq => by omega)⟩, by rw [HRs.out, HOk.out]; exact rdAt_touch HIx.out.rd tf (by omega) (fun k hk e => by have := HF.out k hk; omega), HIx.out.t.trans tf (fun q hq e => by omega)⟩
        · have hv' : (v != 0) = true := by simpa using hv
          simp only [hv, Bool.not_false, Bool.true_and, decide_false] at HOk
          clear hv
          go_wp2_with (first
                  | (go_at_call 21; go_must (refine (bad_any g Ar _ cr _ _ (by exact HBr.out)).mono ?_); rintro e wb ⟨rfl, rfl⟩)
                  | (go_at_call 53; go_must (refine (HCk.out _ (by exact HCR.out)).mono ?_); rintro e we ⟨rfl, t4⟩; have HTx := Lib.hid t4; have HI2 := Lib.hid (HI.out.touch hg HF.out t4 (fun _ e => e.elim)); have HBr := Lib.hid (t4.blk HBr.out (fun e => e)); have P0 := HI2.out.tb.cell 0; have P1 := HI2.out.tb.cell 1; have P2 := HI2.out.tb.cell 2; simp at P0 P1 P2; clear x0 x1 x2 X0 X1 X2; have x0 := HI2.out.rb.frozen 0; have x1 := HI2.out.rb.frozen 1; have x2 := HI2.out.rb.frozen 2; have X0 := HI2.out.rb.cell 0; have X1 := HI2.out.rb.cell 1; have X2 := HI2.out.rb.cell 2; simp at X0 X1 X2; clear t4)
                  | (go_at_call 44; go_must (refine (rd_fail g F _ _ _ (by exact HI2.out.rd)).mono ?_); rintro e we ⟨rfl, r5, t5⟩; have HIx := Lib.hid (HI2.out.num hg r5 t5); clear x0 x1 x2 X0 X1 X2; have x0 := HIx.out.rb.frozen 0; have x1 := HIx.out.rb.frozen 1; have x2 := HIx.out.rb.frozen 2; have X0 := HIx.out.rb.cell 0; have X1 := HIx.out.rb.cell 1; have X2 := HIx.out.rb.cell 2; simp at X0 X1 X2; clear r5 t5))
          have hs := ((HIx.out.rb.set_ 0 (.int .i64 0)).set_ 1 (.slice none 0 0)).set_ 2 (.slice none 0 0)
          have e0 := hs.cell 0; have e1 := hs.cell 1; have e2 := hs.cell 2
          simp at e0 e1 e2
          refine bodyPost_ret (v := .tuple #[.agg #[.int .i64 0, .slice none 0 0, .slice none 0 0], .bool false]) (by simp [results, Tryz.results65, go_sem, e0, e1, e2]) rfl ?_
          have tf := (((Touch.refl (fun q => q = w.heap.size) we).set (b := w.heap.size) (o := 0) (fun _ => rfl) (.int .i64 0)).set (b := w.heap.size) (o := 1) (fun _ => rfl) (.slice none 0 0)).set (b := w.heap.size) (o := 2) (fun _ => rfl) (.slice none 0 0)
          exact ⟨none, none, 0, 0, by rw [HRs.out, HOk.out]; rfl, by rw [HRs.out, HOk.out]; exact ⟨SpR.nil _ _ _, SpR.nil _ _ _⟩, by rw [HRs.out, HOk.out]; exact rdAt_touch HIx.out.rd tf (by omega) (fun k hk e => by have := HF.out k hk; omega), HIx.out.t.trans tf (fun q hq e => by omega)⟩
      · simp only [Bool.not_true, Bool.false_and] at HOk
        clear HCk
        go_wp2_with (first
                | (go_at_call 21; go_must (refine (bad_any g Ar _ cr _ _ (by exact HBr.out)).mono ?_); rintro e wb ⟨rfl, rfl⟩)
                | (go_at_call 44; go_must (refine (rd_fail g F _ _ _ (by exact HI.out.rd)).mono ?_); rintro e we ⟨rfl, r5, t5⟩; have HIx := Lib.hid (HI.out.num hg r5 t5); clear x0 x1 x2 X0 X1 X2; have x0 := HIx.out.rb.frozen 0; have x1 := HIx.out.rb.frozen 1; have x2 := HIx.out.rb.frozen 2; have X0 := HIx.out.rb.cell 0; have X1 := HIx.out.rb.cell 1; have X2 := HIx.out.rb.cell 2; simp at X0 X1 X2; clear r5 t5))
        have hs := ((HIx.out.rb.set_ 0 (.int .i64 0)).set_ 1 (.slice none 0 0)).set_ 2 (.slice none 0 0)
        have e0 := hs.cell 0; have e1 := hs.cell 1; have e2 := hs.cell 2
        simp at e0 e1 e2
        refine bodyPost_ret (v := .tuple #[.agg #[.int .i64 0, .slice none 0 0, .slice none 0 0], .bool false]) (by simp [results, Tryz.results65, go_sem, e0, e1, e2]) rfl ?_
        have tf := (((Touch.refl (fun q => q = w.heap.size) we).set (b := w.heap.size) (o := 0) (fun _ => rfl) (.int .i64 0)).set (b := w.heap.size) (o := 1) (fun _ => rfl) (.slice none 0 0)).set (b := w.heap.size) (o := 2) (fun _ => rfl) (.slice none 0 0)
        exact ⟨none, none, 0, 0, by rw [HRs.out, HOk.out]; rfl, by rw [HRs.out, HOk.out]; exact ⟨SpR.nil _ _ _, SpR.nil _ _ _⟩, by rw [HRs.out, HOk.out]; exact rdAt_touch HIx.out.rd tf (by omega) (fun k hk e => by have := HF.out k hk; omega), HIx.out.t.trans tf (fun q hq e => by omega)⟩
    · omega
end Go.Proofs.YtlcefchbfjfifaaGreat
