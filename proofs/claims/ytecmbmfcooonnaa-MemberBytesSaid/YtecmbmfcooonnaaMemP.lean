/- What the reference's Read does; the walk of MemberBytes. -/
import Derived.Test.YtecmbmfcooonnaaMemO
namespace Go.Proofs.Ytecmbmfcooonnaa
open Go.RowKit
set_option maxHeartbeats 4000000
set_option maxRecDepth 100000
set_option linter.unusedVariables false

theorem rread_any (F : Nat → Prop) (A : Option Addr) (c : Nat) (l : List UInt8) (w : World) (hr : Rd w F A l.length (l.map B8)) (hF : ∀ k, F k → k < w.heap.size) (hc1 : l.length ≤ c) (hc2 : c ≤ maxLen) :
    Calls Try.prog 38 #[.slice A l.length c] w (NewTwo w ((readL l).map I64) (.bool (readOk l))) := by
  obtain ⟨i0, hi, hz0, hz1, hz2⟩ := info_parts infoI
  have hR : RfAt (w.alloc (.cells #[.slice A l.length c, .bool false] 69)) w.heap.size F l false :=
    ⟨fun h => by have := hF _ h; omega, A, c, hc1, hc2, Blk.new _ _ _, hr.touch ((Touch.refl (fun _ => False) w).alloc _) (fun _ _ e => e)⟩
  have HN := Lib.hid (rf_num w.heap.size F false 127 l _ hR)
  have hle := rdNum_le 127 false false l
  have HOk := Lib.hid (show readOk l = (!((rdNum 127 false false l).bad || !(rdNum 127 false false l).left.isEmpty) && decide ((rdNum 127 false false l).val ≠ 0)) from rfl)
  have HL := Lib.hid (show readL l = if readOk l = true then Row.ofN (rdNum 127 false false l).val else [] from rfl)
  have HT0 := Lib.hid ((Touch.refl (fun _ => False) w).alloc (.cells #[.slice A l.length c, .bool false] 69))
  generalize rdNum 127 false false l = R at *
  obtain ⟨val, mark, left, bad⟩ := R
  simp only at HN hle HOk HL
  have HEnd := Lib.hid (fun w1 (h : RfAt w1 w.heap.size F left bad) => rf_end w.heap.size F bad left w1 h)
  clear hr hR hF hc1 hc2
  cases hE : (bad || !left.isEmpty)
  · rw [hE] at HOk HEnd
    clear hE
    by_cases h0 : val = 0
    · subst h0
      have HW := Lib.hid (show readL l = [] ∧ readOk l = false from ⟨by rw [HL.out, HOk.out]; rfl, by rw [HOk.out]; rfl⟩)
      go_enter Try.func38, Try.ntmps38
      go_wp2_with (first
        | (go_at_call 80; go_must (refine HN.out.mono ?_); rintro e w2 ⟨rfl, h2, t2⟩; have H2 := Lib.hid h2; have HT2 := Lib.hid t2; clear h2 t2)
        | (go_at_call 81; go_must (refine (HEnd.out _ (by exact H2.out)).mono ?_); rintro e w3 ⟨rfl, rfl⟩))
      go_ret2
      rw [HW.out.1, HW.out.2]
      exact NewTwo.none (HT0.out.trans HT2.out (fun q hq e => by omega))
    · have HW := Lib.hid (show readL l = Row.ofN val ∧ readOk l = true from ⟨by rw [HL.out, HOk.out]; simp [h0], by rw [HOk.out]; simp [h0]⟩)
      have hz : ((val : Int) == 0) = false := by simpa using h0
      clear h0
      go_enter Try.func38, Try.ntmps38
      go_wp2_with (first
        | (go_at_call 80; go_must (refine HN.out.mono ?_); rintro e w2 ⟨rfl, h2, t2⟩; have H2 := Lib.hid h2; have HT2 := Lib.hid t2; clear h2 t2)
        | (go_at_call 81; go_must (refine (HEnd.out _ (by exact H2.out)).mono ?_); rintro e w3 ⟨rfl, rfl⟩))
      go_loopw [5, 6, 7] (fun x v i wr => ∃ j : Nat, j ≤ 7 ∧ i = .int .i64 j ∧ x = .int .u64 (val / 2 ^ j : Nat) ∧ (∃ r, Own wr 3 1 v r (Row.ofK val j).length ((Row.ofK val j).map I64) ∧ ∀ k, r = some k → w.heap.size ≤ k) ∧ Touch (fun _ => False) w wr) (fun _ _ i _ => 7 - (intOf i).toNat)
      case atStart => exact ⟨0, by omega, rfl, by simp, ⟨none, Own.nil _ _ _, fun k e => by cases e⟩, HT0.out.trans HT2.out (fun q hq e => by omega)⟩
      case round =>
        obtain ⟨j, hj, rfl, rfl, hM, hT⟩ := hrel
        have HM := Lib.hid hM
        have HT := Lib.hid hT
        obtain ⟨r, ho, hrk⟩ := hM
        obtain ⟨A0, c0, rfl, -, -⟩ := ho.form
        have HO := Lib.hid ho
        have HR := Lib.hid hrk
        clear ho hT HM hrk
        by_cases hjk : j < 7
        · have HU := Lib.hid (Row.ofK_succ val j)
          have HD := Lib.hid (show val / 2 ^ (j + 1) = val / 2 ^ j / 2 by rw [Nat.pow_succ, Nat.div_div_eq_div_mul])
          have hbv := bit_val val j
          have hol := Row.ofK_len val j
          have hxl : val / 2 ^ j ≤ 127 := Nat.le_trans (Nat.div_le_self _ _) hle
          generalize Row.ofK val j = L at *
          generalize val / 2 ^ j = x at *
          have HTl := Lib.hid ((Touch.refl (fun _ => False) wr).alloc (.cells #[.int .i64 (j : Int)] 3))
          have HB := Lib.hid (Blk.new wr 3 #[.int .i64 (j : Int)])
          by_cases hb : val.testBit j
          · rw [if_pos hb] at HU hbv
            have hx2 : (x : Int) % 2 = 1 := by omega
            clear hb hbv
            go_wp2_with (
              at_builtin
              go_must (refine wpList_own_append rfl _ _ 22 22 rfl 3 i0 (.int .i64 0) 1 8 Try.underlying22 hi hz0 hz1 hz2 rfl _ r L.length (L.map I64) rfl (by exact HO.out.touch HTl.out (fun _ _ e => e)) _ 1 [.int .i64 (j : Int)] rfl (by exact Src.lit Try.underlying22 wr.heap.size 1 1 3 #[.int .i64 (j : Int)] HB.out rfl (fun u hu => by simp at hu; subst hu; rfl)) (by simp only [maxLen]; omega) (by omega) ?_)
              intro v1 r1 w1 ho1 ht1 hr1
              have HR1 := Lib.hid (And.intro ho1 (And.intro ht1 hr1))
              clear ho1 ht1 hr1)
            go_roundw
            case rel =>
              obtain ⟨ho1, ht1, hr1⟩ := HR1.out
              have hs := HT.out.size
              refine ⟨j + 1, by omega, by go_num, by rw [HD.out]; go_num, ⟨r1, ?_, ?_⟩, (HT.out.trans HTl.out (fun _ _ e => e)).trans ht1 (fun q hq e => by have := HR.out q e; omega)⟩
              · rw [HU.out, List.length_append, List.map_append]; exact ho1
              · intro k e
                rcases hr1 with e' | ⟨q, e', hq⟩
                · exact HR.out k (e'.symm.trans e)
                · rw [e'] at e; injection e with e; simp at hq; omega
            case measure => simp [intOf]; omega
          · rw [if_neg hb] at HU hbv
            have hx2 : (x : Int) % 2 = 0 := by omega
            clear hb hbv
            go_wp2_with fail
            go_roundw
            case rel => exact ⟨j + 1, by omega, by go_num, by rw [HD.out]; go_num, ⟨r, by rw [HU.out, List.append_nil]; exact HO.out, HR.out⟩, HT.out⟩
            case measure => simp [intOf]; omega
        · obtain rfl : j = 7 := by omega
          go_wp2
          go_ret2
          obtain ⟨A1, c1, hv, hc1, hc2, _, hr⟩ := HO.out.rd
          injection hv with hv1 hv2 hv3
          subst hv1 hv3
          rw [Row.ofK_7] at hc1 hr
          rw [HW.out.1, HW.out.2]
          exact ⟨A0, c0, by rw [List.length_map]; rfl, by simpa using hc1, hc2, by rw [List.length_map]; exact hr.mono fun k hk => HR.out k hk, HT.out⟩
  · rw [hE] at HOk HEnd
    clear hE
    have HW := Lib.hid (show readL l = [] ∧ readOk l = false from ⟨by rw [HL.out, HOk.out]; rfl, by rw [HOk.out]; rfl⟩)
    go_enter Try.func38, Try.ntmps38
    go_wp2_with (first
      | (go_at_call 80; go_must (refine HN.out.mono ?_); rintro e w2 ⟨rfl, h2, t2⟩; have H2 := Lib.hid h2; have HT2 := Lib.hid t2; clear h2 t2)
      | (go_at_call 81; go_must (refine (HEnd.out _ (by exact H2.out)).mono ?_); rintro e w3 ⟨rfl, rfl⟩))
    go_ret2
    rw [HW.out.1, HW.out.2]
    exact NewTwo.none (HT0.out.trans HT2.out (fun q hq e => by omega))
end Go.Proofs.Ytecmbmfcooonnaa
