/- The reference's shelf: many, Bytes. (written by genfb.py) -/
import Derived.Test.YtlcefchbfjfifaaGreatVShS
import Derived.Test.YtlcefchbfjfifaaGreatVShU
namespace Go.Proofs.YtlcefchbfjfifaaGreat
open Go.RowKit Cal Go.Maps
set_option maxHeartbeats 4000000
set_option maxRecDepth 100000
set_option linter.unusedVariables false
attribute [local irreducible] wpPlan

def cntB (bs : List Bool) : Nat := (bs.filter id).length
theorem cntB_le (bs : List Bool) : cntB bs ≤ bs.length := List.length_filter_le _ _
theorem cntB_take {bs : List Bool} {j : Nat} {b : Bool} (h : bs[j]? = some b) : cntB (bs.take (j + 1)) = cntB (bs.take j) + (if b = true then 1 else 0) := by
  unfold cntB
  rw [List.take_add_one, h, List.filter_append]
  cases b <;> simp
theorem fmany_any (F : Nat → Prop) (A : Option Addr) (c : Nat) (bs : List Bool) (w : World) (hr : Rd w F A bs.length (bs.map Value.bool)) (hl : bs.length ≤ 1000) :
    Calls Tryz.prog 61 #[.slice A bs.length c] w fun e w' => e = .returned (.int .u64 (cntB bs : Nat)) ∧ w = w' := by
  have HR := Lib.hid hr
  clear hr
  go_enter Tryz.func61, Tryz.ntmps61
  go_wp2
  go_loopw [3, 4] (fun n i wr => ∃ j : Nat, j ≤ bs.length ∧ i = .int .i64 j ∧ n = .int .u64 (cntB (bs.take j) : Nat) ∧ w = wr) (fun _ i _ => bs.length - (intOf i).toNat)
  case atStart => exact ⟨0, by omega, rfl, by simp [cntB], rfl⟩
  case round =>
    obtain ⟨j, hj, rfl, rfl, rfl⟩ := hrel
    by_cases hjk : j < bs.length
    · obtain ⟨b, hb⟩ : ∃ b, bs[j]? = some b := ⟨_, List.getElem?_eq_getElem hjk⟩
      obtain ⟨ad, off, rfl, -, -, hc⟩ := HR.out.2 (by omega)
      have hcj := hc j (.bool b) (by simp [hb])
      have HX := Lib.hid (cntB_take hb)
      have hle := cntB_le (bs.take j)
      have h9 : (bs.take j).length ≤ 1000 := by simp; omega
      generalize cntB (bs.take j) = n at *
      have hwr : IntKind.u64.wrap ((n : Int) + 1) = (n : Int) + 1 := IntWalk.u64_in _ (by omega)
      clear hb hc
      cases b
      · go_wp2_with fail
        go_roundw
        case rel => exact ⟨j + 1, by omega, by go_num, by rw [HX.out]; rfl, by trivial⟩
        case measure => simp [intOf]; omega
      · go_wp2_with fail
        go_roundw
        case rel => exact ⟨j + 1, by omega, by go_num, by rw [HX.out]; simp, by trivial⟩
        case measure => simp [intOf]; omega
    · obtain rfl : j = bs.length := by omega
      go_wp2
      go_ret
      exact ⟨by rw [List.take_length]; rfl, rfl⟩
/-- The truths of a shelf. -/
def isL {α : Type} (f : Int → Option α) (k : Nat) : List Bool := (List.range k).map fun i : Nat => (f (i : Int)).isSome
theorem isL_cnt {α : Type} (f : Int → Option α) : ∀ k, cntB (isL f k) = cntG f k
  | 0 => rfl
  | k + 1 => by
    have h := isL_cnt f k
    unfold cntB isL at h ⊢
    rw [List.range_succ, List.map_append, List.filter_append, List.length_append, h, cntG]
    cases hs : (f (k : Int)).isSome <;> simp [hs]
theorem isL_len {α : Type} (f : Int → Option α) (k : Nat) : (isL f k).length = k := by simp [isL]
theorem many_cal {w : World} {F : Nat → Prop} {S : Shl} {C : Array Value} (h : RfS w F S C) {w1 : World} {b : Nat} (hb : Blk w1 b 62 C) :
    Calls Tryz.prog 61 #[.slice (some ⟨b, 0, none⟩) 8 8] w1 fun e w' => e = .returned (.int .u64 (cntG S.cal 8 : Nat)) ∧ w1 = w' := by
  have := fmany_any (fun k => k = b) (some ⟨b, 0, none⟩) 8 (isL S.cal 8) w1 ⟨by simp, fun _ => ⟨b, 0, rfl, hb.lt, rfl, fun j u hj => by
    rw [Nat.zero_add]
    refine (hb.cell j).trans ?_
    have hj8 : j < 8 := by
      rcases Nat.lt_or_ge j 8 with h | h
      · exact h
      · rw [List.getElem?_eq_none (by simp [isL]; omega)] at hj; cases hj
    rw [h.lb j hj8, ← hj]
    simp [isL, hj8]⟩⟩ (by simp [isL])
  rw [isL_len, isL_cnt] at this
  exact this
theorem many_con {w : World} {F : Nat → Prop} {S : Shl} {C : Array Value} (h : RfS w F S C) {w1 : World} {b : Nat} (hb : Blk w1 b 62 C) :
    Calls Tryz.prog 61 #[.slice (some ⟨b, 32, none⟩) 16 16] w1 fun e w' => e = .returned (.int .u64 (cntG S.con 16 : Nat)) ∧ w1 = w' := by
  have := fmany_any (fun k => k = b) (some ⟨b, 32, none⟩) 16 (isL S.con 16) w1 ⟨by simp, fun _ => ⟨b, 32, rfl, hb.lt, rfl, fun j u hj => by
    refine (hb.cell (32 + j)).trans ?_
    have hj8 : j < 16 := by
      rcases Nat.lt_or_ge j 16 with h | h
      · exact h
      · rw [List.getElem?_eq_none (by simp [isL]; omega)] at hj; cases hj
    rw [h.sb j hj8, ← hj]
    simp [isL, hj8]⟩⟩ (by simp [isL])
  rw [isL_len, isL_cnt] at this
  exact this
theorem OwnX.readsS {w0 w : World} {l : List UInt8} {v : Value} (h : OwnX w0 w l v) : ∃ A n c, v = .slice A n c ∧ l.length = n ∧ n ≤ c ∧ c ≤ maxLen ∧ Rd w (fun k => w0.heap.size ≤ k ∧ k < w.heap.size) A n (l.map B8) ∧ Touch (fun _ => False) w0 w := by
  obtain ⟨r, ho, hr, t⟩ := h
  obtain ⟨A, c, hv, h1, h2, -, hrd⟩ := ho.rd
  exact ⟨A, _, c, hv, rfl, h1, h2, hrd.insideC.mono (fun k hk => ⟨hr k hk.1, hk.2⟩), t⟩
theorem encN_lenS (n : Nat) : (encN 0 n).length ≤ 9 := encN_len 0 n
theorem rows_lenA {S : Shl} (ok : S.Ok) : ∀ k, k ≤ 8 → (rowsG encCa S.cal k).length ≤ 1300 * k
  | 0, _ => by simp [rowsG]
  | k + 1, h => by
    have ih := rows_lenA ok k (by omega)
    rw [rowsG, List.length_append, rowG]
    cases hc : S.cal (k : Int) with
    | none => simp; omega
    | some c =>
      have := encCa_lenS (ok.cal _ c hc).2
      have := encN_len 0 k
      simp only [List.length_append]; omega
theorem rows_lenB {S : Shl} (ok : S.Ok) : ∀ k, k ≤ 16 → (rowsG encK S.con k).length ≤ 1300 * k
  | 0, _ => by simp [rowsG]
  | k + 1, h => by
    have ih := rows_lenB ok k (by omega)
    rw [rowsG, List.length_append, rowG]
    cases hc : S.con (k : Int) with
    | none => simp; omega
    | some c =>
      have h6 := good_hd (ok.con _ c hc).2.1
      have := encK_len c (by omega)
      have := encN_len 0 k
      simp only [List.length_append]; omega
theorem fputc_any (c : Ca) (hc : checkE c = 0) (F : Nat → Prop) (A B : Option Addr) (k m : Nat) (w : World) (hr : CaR w F c A B) :
    Calls Tryz.prog 62 #[.agg (caA c A B k m)] w (NewOwn w (encCa c)) := by
  have h1 := check_ok hc
  have hl := checkE_len hc
  refine fput10_any F A B k m c w hr (fun s hs => ?_) (by have := h1.off; omega) hl.1 hl.2
  rcases List.mem_append.1 hs with hs | hs
  · have := row_sp (Int.le_refl 0) h1.wk.1 s hs; omega
  · have := row_sp (Int.le_refl 0) h1.cl s hs; omega
theorem fbytes_any (F : Nat → Prop) (S : Shl) (ok : S.Ok) (C : Array Value) (w : World) (h : RfS w F S C) :
    Calls Tryz.prog 30 #[.agg C] w (NewOwn w (encS S)) := by
  obtain ⟨W, hW⟩ : ∃ W, W = w.alloc (.cells C 62) := ⟨_, rfl⟩
  have HT0 := Lib.hid (show Touch (fun _ => False) w W from hW ▸ (Touch.refl _ w).alloc _)
  have HB0 := Lib.hid (show Blk W w.heap.size 62 C from hW ▸ Blk.new w _ _)
  have HR := Lib.hid h
  have HOk := Lib.hid ok
  have HWe := Lib.hid hW.symm
  have HMa := Lib.hid (fun w1 hb => many_cal h (w1 := w1) (b := w.heap.size) hb)
  have HMb := Lib.hid (fun w1 hb => many_con h (w1 := w1) (b := w.heap.size) hb)
  have HQ := Lib.hid (show encS S = encN 0 (cntG S.cal 8) ++ rowsG encCa S.cal 8 ++ (encN 0 (cntG S.con 16) ++ rowsG encK S.con 16) from rfl)
  have c8 := cntG_le S.cal 8
  have c16 := cntG_le S.con 16
  generalize cntG S.cal 8 = n1 at *
  generalize cntG S.con 16 = n2 at *
  obtain ⟨B1, hB1⟩ : ∃ B, B = encN 0 n1 := ⟨_, rfl⟩
  obtain ⟨B2, hB2⟩ : ∃ B, B = encN 0 n2 := ⟨_, rfl⟩
  have HN1 := Lib.hid (fun w1 => hB1.symm ▸ fnum_any n1 w1 (by omega))
  have HN2 := Lib.hid (fun w1 => hB2.symm ▸ fnum_any n2 w1 (by omega))
  have HBl := Lib.hid (show B1.length ≤ 9 by rw [hB1]; exact encN_lenS _)
  have HBm := Lib.hid (show B2.length ≤ 9 by rw [hB2]; exact encN_lenS _)
  have HBp := Lib.hid (show 0 < B1.length by rw [hB1]; simp [encN])
  rw [← hB1, ← hB2] at HQ
  clear h ok hW hB1 hB2
  go_enter Tryz.func30, Tryz.ntmps30
  go_wp2_with fail
  rw [HWe.out]
  refine (HMa.out _ HB0.out).mono ?_
  rintro e w1 ⟨rfl, rfl⟩
  go_wp2_with (first
    | (go_at_call 46; go_must (refine (HN1.out _).mono ?_); intro e w3 h3
       obtain ⟨x, rfl, hx3⟩ := OwnX.of (Touch.refl (fun _ => False) W) h3
       have HM0 := Lib.hid hx3
       clear h3 hx3))
  go_loopw [3, 4] (fun v i wr => ∃ j : Nat, j ≤ 8 ∧ i = .int .i64 j ∧ OwnX W wr (B1 ++ rowsG encCa S.cal j) v) (fun _ i _ => 8 - (intOf i).toNat)
  case atStart => exact ⟨0, by omega, rfl, by simpa [rowsG] using HM0.out⟩
  case round =>
    obtain ⟨j, hj, rfl, hO⟩ := hrel
    obtain ⟨A0, n0, c0, hv0, -⟩ := hO.readsS
    subst hv0
    have HM := Lib.hid hO
    have HB := Lib.hid (hO.blk HB0.out)
    have hln := rows_lenA HOk.out j hj
    clear hO
    by_cases hj8 : j < 8
    · have hj8' : (j : Int) < 8 := by omega
      have hwi : IntKind.u64.wrap (j : Int) = (j : Int) := IntWalk.u64_in _ (by omega)
      have cq := HB.out.cell (j)
      rw [HR.out.lb j hj8] at cq
      have hR := show rowsG encCa S.cal (j + 1) = rowsG encCa S.cal j ++ rowG encCa S.cal j from rfl
      cases hs : S.cal (j : Int) with
      | none =>
        rw [rowG, hs] at hR
        rw [hs] at cq
        have HRr := Lib.hid hR
        clear hR hs
        go_wp2_with fail
        go_roundw
        case rel => exact ⟨j + 1, by omega, by go_num, by rw [HRr.out]; simpa using HM.out⟩
        case measure => simp [intOf]; omega
      | some c =>
        rw [rowG, hs] at hR
        rw [hs] at cq
        simp only at hR
        obtain ⟨A, B, k, m, hE, hRr⟩ := HR.out.cal hj8
        have hpv : plainV S (j : Int) = c := by unfold plainV; rw [hs]; rfl
        rw [hpv] at hE hRr
        have hck := (HOk.out.cal _ c hs).2
        have hcl := encCa_lenS hck
        have HPu := Lib.hid (fun w1 (tt : Touch (fun _ => False) w w1) => fputc_any c hck F A B k m w1 (hRr.touch tt (fun _ _ e => e)))
        obtain ⟨L, hL⟩ : ∃ L, L = caA c A B k m := ⟨_, rfl⟩
        have HLn := Lib.hid (show L.size = 3 by rw [hL]; rfl)
        have HLe := Lib.hid (hE.trans hL.symm)
        rw [← hL] at HPu
        clear hE hRr hpv hck hL
        have HRr := Lib.hid hR
        have hle1 := encN_lenS j
        have hbl := HBl.out
        generalize rowsG encCa S.cal j = R0 at *
        generalize hE1 : encN 0 j = E1 at *
        generalize hE2 : encCa c = E2 at *
        have HN1 := Lib.hid (fun w1 => hE1 ▸ fnum_any j w1 (by omega))
        clear hR hs hE1 hE2
        go_wp2_with fail
        have HMd := Lib.hid (HM.out.far (Touch.refl (fun _ => False) wr).drew)
        have HBd := Lib.hid (HMd.out.blk HB0.out)
        have hWl := HB0.out.lt
        refine wp_region_plan [(0, 1), (0, 2), (1, 0), (1, 5), (1, 6), (1, 7), (1, 8), (2, 3), (2, 4), (2, 9), (2, 10), (0, 11)] (fun q => W.heap.size ≤ q) (by kernel_rfl) (by kernel_rfl) (fun c a d v w h => by cases d <;> exact h) ?_
        iterate 2
          refine plan_s1 rfl (by rfl) (fun Kc hKc => ?_)
          go_simp
          first
            | (refine hKc _ ?_)
          clear hKc Kc
        iterate 4
          apply plan_h
          · rfl
          · rfl
          · intro wh hT
            go_simp
            try rfl
          go_frame
        refine plan_hC rowCa rfl _ rfl rfl w.heap.size (8 + j * 3) rfl L HLn.out (fun wh hT => HLe.out ▸ (hT.blk HBd.out (by omega)).range (8 + j * 3) 3) ?_
        go_frame
        clear cq
        refine plan_a1 rfl (by rfl) (fun Kc hKc => ?_)
        go_simp
        refine (HN1.out _).mono ?_
        rintro e w2 h2
        have t2 := h2.touch
        have HM2 := Lib.hid (HMd.out.far t2)
        obtain ⟨x2, rfl, hx2⟩ := OwnX.of (Touch.refl _ _) h2
        have HX := Lib.hid hx2
        clear h2 hx2
        refine hKc _ _ ⟨t2.mono (fun _ _ e => e.elim), ?_⟩
        clear hKc Kc
        clear t2
        refine plan_a1 rfl (by rfl) (fun Kc hKc => ?_)
        refine own_append_op _ _ rfl _ _ _ _ rfl rfl HM2.out HX.out (by first | omega | (simp only [List.length_append]; omega)) ?_
        intro v4 w4 h4 t4
        have HM4 := Lib.hid h4
        refine hKc _ _ ⟨t4.mono (fun q _ e => by simpa using e), ?_⟩
        clear hKc Kc h4 t4
        refine plan_a1 rfl (by rfl) (fun Kc hKc => ?_)
        go_simp
        refine (HPu.out _ (by exact HT0.out.trans HM4.out.touch (fun _ _ e => e))).mono ?_
        rintro e w5 h5
        have t5 := h5.touch
        have HM5 := Lib.hid (HM4.out.far t5)
        obtain ⟨x5, rfl, hx5⟩ := OwnX.of (Touch.refl _ _) h5
        have HX5 := Lib.hid hx5
        clear h5 hx5
        refine hKc _ _ ⟨t5.mono (fun _ _ e => e.elim), ?_⟩
        clear hKc Kc
        clear t5
        refine plan_a1 rfl (by rfl) (fun Kc hKc => ?_)
        refine own_append_op _ _ rfl _ _ _ _ rfl rfl HM5.out HX5.out (by first | omega | (simp only [List.length_append]; omega)) ?_
        intro v6 w6 h6 t6
        have HM6 := Lib.hid h6
        refine hKc _ _ ⟨t6.mono (fun q _ e => by simpa using e), ?_⟩
        clear hKc Kc h6 t6
        iterate 1
          refine plan_s1 rfl (by rfl) (fun Kc hKc => ?_)
          go_simp
          first
            | (refine hKc _ ?_)
          clear hKc Kc
        refine plan_done ?_
        go_wp2_with fail
        go_roundw
        case rel => exact ⟨j + 1, by omega, by go_num, by rw [HRr.out]; simpa [List.append_assoc] using HM6.out⟩
        case measure => simp [intOf]; omega
    · obtain rfl : j = 8 := by omega
      clear hj8
      obtain ⟨L1, hL1⟩ : ∃ L, L = B1 ++ rowsG encCa S.cal 8 := ⟨_, rfl⟩
      have hl1 : L1.length ≤ 10409 := by rw [hL1, List.length_append]; have := HBl.out; omega
      have HL1 := Lib.hid hL1
      rw [← hL1] at HM
      have hb2 := HBm.out
      clear hL1
      go_wp2_with (first
        | (go_at_call 61; go_must (refine (HMb.out _ (by exact HB.out)).mono ?_); rintro e w1 ⟨rfl, rfl⟩)
        | (go_at_call 46; go_must (refine (HN2.out _).mono ?_); intro e w7 h7
           have hm7 := HM.out.far h7.touch
           obtain ⟨x7, rfl, hx7⟩ := OwnX.of (Touch.refl _ _) h7
           have HM7 := Lib.hid hm7
           have HX7 := Lib.hid hx7
           clear h7 hm7 hx7)
        | (at_builtin
           go_must (refine own_append_list rfl _ _ rfl _ _ _ _ rfl rfl HM7.out HX7.out (by omega) ?_)
           intro v8 w8 h8 t8
           have HM8 := Lib.hid h8
           clear h8 t8))
      obtain ⟨L2, hL2⟩ : ∃ L, L = L1 ++ B2 := ⟨_, rfl⟩
      have HL2 := Lib.hid hL2
      have HBl := Lib.hid (show L2.length ≤ 10418 by rw [hL2, List.length_append]; omega)
      rw [← hL2] at HM8
      have HM0 := HM8
      clear hL2 hb2 hln
      go_loopw [3, 5] (fun v i wr => ∃ j : Nat, j ≤ 16 ∧ i = .int .i64 j ∧ OwnX W wr (L2 ++ rowsG encK S.con j) v) (fun _ i _ => 16 - (intOf i).toNat)
      case atStart => exact ⟨0, by omega, rfl, by simpa [rowsG] using HM0.out⟩
      case round =>
        obtain ⟨j, hj, rfl, hO⟩ := hrel
        obtain ⟨A0, n0, c0, hv0, -⟩ := hO.readsS
        subst hv0
        have HM := Lib.hid hO
        have HB := Lib.hid (hO.blk HB0.out)
        have hln := rows_lenB HOk.out j hj
        clear hO
        by_cases hj8 : j < 16
        · have hj8' : (j : Int) < 16 := by omega
          have hwi : IntKind.u64.wrap (j : Int) = (j : Int) := IntWalk.u64_in _ (by omega)
          have cq := HB.out.cell (32 + j)
          rw [HR.out.sb j hj8] at cq
          have hR := show rowsG encK S.con (j + 1) = rowsG encK S.con j ++ rowG encK S.con j from rfl
          cases hs : S.con (j : Int) with
          | none =>
            rw [rowG, hs] at hR
            rw [hs] at cq
            have HRr := Lib.hid hR
            clear hR hs
            go_wp2_with fail
            go_roundw
            case rel => exact ⟨j + 1, by omega, by go_num, by rw [HRr.out]; simpa using HM.out⟩
            case measure => simp [intOf]; omega
          | some c =>
            rw [rowG, hs] at hR
            rw [hs] at cq
            simp only at hR
            obtain ⟨A, k, hE, hRr⟩ := HR.out.con hj8
            have hpv : termsV S (j : Int) = c := by unfold termsV; rw [hs]; rfl
            rw [hpv] at hE hRr
            have hck := (HOk.out.con _ c hs).2.1
            have hc6 := good_hd hck
            have hcl := encK_len c (by omega)
            have hcl2 : (encK c).length ≤ 200 := by omega
            have HPu := Lib.hid (fun w1 (tt : Touch (fun _ => False) w w1) => (show Calls Tryz.prog 18 #[.agg (conA c A k)] w1 (NewOwn w1 (encK c)) from fputk_any c F A k w1 (hRr.touch tt (fun _ _ e => e)) hck))
            obtain ⟨L, hL⟩ : ∃ L, L = conA c A k := ⟨_, rfl⟩
            have HLn := Lib.hid (show L.size = 4 by rw [hL]; rfl)
            have HLe := Lib.hid (hE.trans hL.symm)
            rw [← hL] at HPu
            clear hE hRr hpv hck hL hc6 hcl
            have HRr := Lib.hid hR
            have hle1 := encN_lenS j
            have hbl := HBl.out
            generalize rowsG encK S.con j = R0 at *
            generalize hE1 : encN 0 j = E1 at *
            generalize hE2 : encK c = E2 at *
            have HN1 := Lib.hid (fun w1 => hE1 ▸ fnum_any j w1 (by omega))
            clear hR hs hE1 hE2
            go_wp2_with fail
            have HMd := Lib.hid (HM.out.far (Touch.refl (fun _ => False) wr).drew)
            have HBd := Lib.hid (HMd.out.blk HB0.out)
            have hWl := HB0.out.lt
            refine wp_region_plan [(0, 1), (0, 2), (1, 0), (1, 5), (1, 6), (1, 7), (1, 8), (2, 3), (2, 4), (2, 9), (2, 10), (0, 11)] (fun q => W.heap.size ≤ q) (by kernel_rfl) (by kernel_rfl) (fun c a d v w h => by cases d <;> exact h) ?_
            iterate 2
              refine plan_s1 rfl (by rfl) (fun Kc hKc => ?_)
              go_simp
              first
                | (refine hKc _ ?_)
              clear hKc Kc
            iterate 4
              apply plan_h
              · rfl
              · rfl
              · intro wh hT
                go_simp
                try rfl
              go_frame
            refine plan_hC rowCo rfl _ rfl rfl w.heap.size (48 + j * 4) rfl L HLn.out (fun wh hT => HLe.out ▸ (hT.blk HBd.out (by omega)).range (48 + j * 4) 4) ?_
            go_frame
            clear cq
            refine plan_a1 rfl (by rfl) (fun Kc hKc => ?_)
            go_simp
            refine (HN1.out _).mono ?_
            rintro e w2 h2
            have t2 := h2.touch
            have HM2 := Lib.hid (HMd.out.far t2)
            obtain ⟨x2, rfl, hx2⟩ := OwnX.of (Touch.refl _ _) h2
            have HX := Lib.hid hx2
            clear h2 hx2
            refine hKc _ _ ⟨t2.mono (fun _ _ e => e.elim), ?_⟩
            clear hKc Kc
            clear t2
            refine plan_a1 rfl (by rfl) (fun Kc hKc => ?_)
            refine own_append_op _ _ rfl _ _ _ _ rfl rfl HM2.out HX.out (by first | omega | (simp only [List.length_append]; omega)) ?_
            intro v4 w4 h4 t4
            have HM4 := Lib.hid h4
            refine hKc _ _ ⟨t4.mono (fun q _ e => by simpa using e), ?_⟩
            clear hKc Kc h4 t4
            refine plan_a1 rfl (by rfl) (fun Kc hKc => ?_)
            go_simp
            refine (HPu.out _ (by exact HT0.out.trans HM4.out.touch (fun _ _ e => e))).mono ?_
            rintro e w5 h5
            have t5 := h5.touch
            have HM5 := Lib.hid (HM4.out.far t5)
            obtain ⟨x5, rfl, hx5⟩ := OwnX.of (Touch.refl _ _) h5
            have HX5 := Lib.hid hx5
            clear h5 hx5
            refine hKc _ _ ⟨t5.mono (fun _ _ e => e.elim), ?_⟩
            clear hKc Kc
            clear t5
            refine plan_a1 rfl (by rfl) (fun Kc hKc => ?_)
            refine own_append_op _ _ rfl _ _ _ _ rfl rfl HM5.out HX5.out (by first | omega | (simp only [List.length_append]; omega)) ?_
            intro v6 w6 h6 t6
            have HM6 := Lib.hid h6
            refine hKc _ _ ⟨t6.mono (fun q _ e => by simpa using e), ?_⟩
            clear hKc Kc h6 t6
            iterate 1
              refine plan_s1 rfl (by rfl) (fun Kc hKc => ?_)
              go_simp
              first
                | (refine hKc _ ?_)
              clear hKc Kc
            refine plan_done ?_
            go_wp2_with fail
            go_roundw
            case rel => exact ⟨j + 1, by omega, by go_num, by rw [HRr.out]; simpa [List.append_assoc] using HM6.out⟩
            case measure => simp [intOf]; omega
        · obtain rfl : j = 16 := by omega
          clear hj8
          have hp := HBp.out
          have HE := Lib.hid (show encS S = L2 ++ rowsG encK S.con 16 by rw [HQ.out, HL2.out, HL1.out]; simp)
          have hpos : 0 < (encS S).length := by rw [HE.out, HL2.out, HL1.out]; simp only [List.length_append]; omega
          go_wp2_with fail
          go_ret
          exact NewOwn.before HT0.out (OwnX.new (by rw [HE.out]; exact HM.out) hpos)
end Go.Proofs.YtlcefchbfjfifaaGreat
