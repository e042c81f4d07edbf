/- What Get, Once, All, Sum do; law05.lives. -/
import Derived.Test.YtomapfklpoijbaaMetC
namespace Go.Proofs.Ytomapfklpoijbaa
open Go.RowKit
set_option maxHeartbeats 4000000
set_option maxRecDepth 100000
set_option linter.unusedVariables false

def getV (cs : List Nat) (i : Int) : Nat := if inR cs i then cs.getD i.toNat 0 else 0
def onceB (cs : List Nat) (i : Int) : Bool := decide (inR cs i) && decide (cs.getD i.toNat 0 = 0)
def onceC (cs : List Nat) (i : Int) : List Nat := if onceB cs i = true then cs.set i.toNat 1 else cs

theorem mget_any (g : Nat) (i : Int) (cs : List Nat) (w : World) (h : MAt w g cs) (h0 : 0 < cs.length) :
    Calls Try.prog 33 #[.pointer (some ⟨g, 0, none⟩), .int .i64 i] w fun e w' => e = .returned (.int .u64 (getV cs i : Nat)) ∧ w = w' := by
  by_cases hi : inR cs i
  · obtain ⟨k, rfl⟩ := Int.eq_ofNat_of_zero_le hi.1
    have hk : k < cs.length := by have := hi.2; omega
    have HV := Lib.hid (show getV cs (k : Int) = cs.getD k 0 by rw [getV, if_pos hi, Int.toNat_natCast])
    have HA := Lib.hid (at_ok g k cs w h hk)
    have HL := Lib.hid (load_any g k (cs.getD k 0) w (h.cell k hk))
    clear h hi h0
    generalize cs.getD k 0 = v at *
    go_enter Try.func33, Try.ntmps33
    go_wp2_with (first
      | (go_at_call 65; go_must (refine HA.out.mono ?_); rintro e w1 ⟨rfl, rfl⟩)
      | (go_at_call 75; go_must (refine HL.out.mono ?_); rintro e w1 ⟨rfl, rfl⟩))
    go_ret
    rw [HV.out]
    exact ⟨rfl, rfl⟩
  · have HV := Lib.hid (show getV cs i = 0 by rw [getV, if_neg hi])
    have HA := Lib.hid (at_out g i cs w h h0 (by unfold inR at hi; omega))
    clear h hi h0
    go_enter Try.func33, Try.ntmps33
    go_wp2_with (go_at_call 65; go_must (refine HA.out.mono ?_); rintro e w1 ⟨rfl, rfl⟩)
    go_ret
    rw [HV.out]
    exact ⟨rfl, rfl⟩
theorem mget_none (p : Value) (i : Int) (w : World) (hat : ∀ w, Calls Try.prog 65 #[p, .int .i64 i] w fun o w' => o = .returned (.tuple #[.pointer none, .int .i64 1]) ∧ w = w') :
    Calls Try.prog 33 #[p, .int .i64 i] w fun e w' => e = .returned (.int .u64 0) ∧ w = w' := by
  have HA := Lib.hid (hat w)
  clear hat
  go_enter Try.func33, Try.ntmps33
  go_wp2_with (go_at_call 65; go_must (refine HA.out.mono ?_); rintro e w1 ⟨rfl, rfl⟩)
  go_ret
  exact ⟨rfl, rfl⟩

theorem monce_any (g : Nat) (i : Int) (cs : List Nat) (w : World) (h : MAt w g cs) (h0 : 0 < cs.length) :
    Calls Try.prog 26 #[.pointer (some ⟨g, 0, none⟩), .int .i64 i] w fun e w' => e = .returned (.bool (onceB cs i)) ∧ MAt w' g (onceC cs i) ∧ Touch (fun k => k = g) w w' := by
  by_cases hi : inR cs i
  · obtain ⟨k, rfl⟩ := Int.eq_ofNat_of_zero_le hi.1
    have hk : k < cs.length := by have := hi.2; omega
    have HA := Lib.hid (at_ok g k cs w h hk)
    have hcell := h.cell k hk
    by_cases hv : cs.getD k 0 = 0
    · have HB := Lib.hid (show onceB cs (k : Int) = true by rw [onceB, decide_eq_true hi, Int.toNat_natCast, hv]; rfl)
      have HC := Lib.hid (show onceC cs (k : Int) = cs.set k 1 by rw [onceC, if_pos HB.out, Int.toNat_natCast])
      rw [hv] at hcell
      have HS := Lib.hid (cas_hit g k 0 1 w hcell (h.2.2.frozen k))
      have HM := Lib.hid (h.set k 1 hk (by omega))
      clear h hi h0 hv hcell
      go_enter Try.func26, Try.ntmps26
      go_wp2_with (first
        | (go_at_call 65; go_must (refine HA.out.mono ?_); rintro e w1 ⟨rfl, rfl⟩)
        | (go_at_call 66; go_must (refine HS.out.mono ?_); rintro e w1 ⟨rfl, rfl⟩))
      go_ret
      rw [HB.out, HC.out]
      exact ⟨rfl, HM.out, (Touch.refl (fun k => k = g) w).set (fun _ => rfl) _⟩
    · have HB := Lib.hid (show onceB cs (k : Int) = false by rw [onceB, Int.toNat_natCast, decide_eq_false hv, Bool.and_false])
      have HC := Lib.hid (show onceC cs (k : Int) = cs by rw [onceC, if_neg (by rw [HB.out]; simp)])
      have HS := Lib.hid (cas_miss g k (cs.getD k 0) 0 1 w hcell (h.2.2.frozen k) hv)
      have HM := Lib.hid h
      clear h hi h0 hv hcell
      go_enter Try.func26, Try.ntmps26
      go_wp2_with (first
        | (go_at_call 65; go_must (refine HA.out.mono ?_); rintro e w1 ⟨rfl, rfl⟩)
        | (go_at_call 66; go_must (refine HS.out.mono ?_); rintro e w1 ⟨rfl, rfl⟩))
      go_ret
      rw [HB.out, HC.out]
      exact ⟨rfl, HM.out, Touch.refl _ _⟩
  · have HB := Lib.hid (show onceB cs i = false by rw [onceB, decide_eq_false hi]; rfl)
    have HC := Lib.hid (show onceC cs i = cs by rw [onceC, if_neg (by rw [HB.out]; simp)])
    have HA := Lib.hid (at_out g i cs w h h0 (by unfold inR at hi; omega))
    have HM := Lib.hid h
    clear h hi h0
    go_enter Try.func26, Try.ntmps26
    go_wp2_with (go_at_call 65; go_must (refine HA.out.mono ?_); rintro e w1 ⟨rfl, rfl⟩)
    go_ret
    rw [HB.out, HC.out]
    exact ⟨rfl, HM.out, Touch.refl _ _⟩
theorem monce_none (p : Value) (i : Int) (w : World) (hat : ∀ w, Calls Try.prog 65 #[p, .int .i64 i] w fun o w' => o = .returned (.tuple #[.pointer none, .int .i64 1]) ∧ w = w') :
    Calls Try.prog 26 #[p, .int .i64 i] w fun e w' => e = .returned (.bool false) ∧ w = w' := by
  have HA := Lib.hid (hat w)
  clear hat
  go_enter Try.func26, Try.ntmps26
  go_wp2_with (go_at_call 65; go_must (refine HA.out.mono ?_); rintro e w1 ⟨rfl, rfl⟩)
  go_ret
  exact ⟨rfl, rfl⟩

theorem infoU : (Try.prog.info? 29).map (fun i => (i.zero, i.size, i.bytes)) = some (some (.int .u64 0), 1, 8) := by kernel_rfl
theorem take_U64 (cs : List Nat) (j : Nat) (hj : j < cs.length) : (cs.take (j + 1)).map U64 = (cs.take j).map U64 ++ [.int .u64 (cs.getD j 0 : Nat)] := by
  rw [List.take_succ_eq_append_getElem hj, List.map_append]
  simp [List.getD, List.getElem?_eq_getElem hj, U64]

theorem mall_any (g : Nat) (cs : List Nat) (w : World) (h : MAt w g cs) :
    Calls Try.prog 29 #[.pointer (some ⟨g, 0, none⟩)] w (NewSl w (cs.map U64)) := by
  obtain ⟨i0, hi, hz0, hz1, hz2⟩ := info_parts infoU
  have HL := Lib.hid (mlen_any g cs w h)
  have hl := h.1
  have H := Lib.hid h
  clear h
  go_enter Try.func29, Try.ntmps29
  go_wp2_with (go_at_call 31; go_must (refine HL.out.mono ?_); rintro e w1 ⟨rfl, rfl⟩)
  go_loopw [2, 6] (fun v i wr => ∃ j : Nat, j ≤ cs.length ∧ i = .int .i64 j ∧ (∃ r, Own wr 29 1 v r j ((cs.take j).map U64) ∧ ∀ k, r = some k → w.heap.size ≤ k) ∧ Touch (fun _ => False) w wr) (fun _ i _ => cs.length - (intOf i).toNat)
  case atStart => exact ⟨0, by omega, rfl, ⟨none, Own.nil _ _ _, fun k e => by cases e⟩, Touch.refl _ _⟩
  case round =>
    obtain ⟨j, hj, rfl, hM, hT⟩ := hrel
    have HM := Lib.hid hM
    have HT := Lib.hid hT
    obtain ⟨r, ho, hrk⟩ := hM
    obtain ⟨A0, c0, rfl, -, -⟩ := ho.form
    have HO := Lib.hid ho
    have HR := Lib.hid hrk
    clear ho hT HM hrk
    by_cases hjk : j < cs.length
    · have HU := Lib.hid (take_U64 cs j hjk)
      have HLo := Lib.hid (load_any g j (cs.getD j 0) wr ((H.out.touch HT.out (fun e => e)).cell j hjk))
      generalize cs.getD j 0 = v at *
      have HTl := Lib.hid ((Touch.refl (fun _ => False) wr).alloc (.cells #[.int .u64 (v : Int)] 29))
      have HB := Lib.hid (Blk.new wr 29 #[.int .u64 (v : Int)])
      go_wp2_with (first
        | (go_at_call 75; go_must (refine HLo.out.mono ?_); rintro e w1 ⟨rfl, rfl⟩)
        | (at_builtin
           go_must (refine wpList_own_append rfl _ _ 33 33 rfl 29 i0 (.int .u64 0) 1 8 Try.underlying33 hi hz0 hz1 hz2 rfl _ r j ((cs.take j).map U64) rfl (by exact HO.out.touch HTl.out (fun _ _ e => e)) _ 1 [.int .u64 (v : Int)] rfl (by exact Src.lit Try.underlying33 wr.heap.size 1 1 29 #[.int .u64 (v : Int)] HB.out rfl (fun u hu => by simp at hu; subst hu; rfl)) (by simp only [maxLen]; omega) (by omega) ?_)
           intro v1 r1 w1 ho1 ht1 hr1
           have HR1 := Lib.hid (And.intro ho1 (And.intro ht1 hr1))
           clear ho1 ht1 hr1))
      go_roundw
      case rel =>
        obtain ⟨ho1, ht1, hr1⟩ := HR1.out
        have hs := HT.out.size
        refine ⟨j + 1, by omega, by go_num, ⟨r1, ?_, ?_⟩, (HT.out.trans HTl.out (fun _ _ e => e)).trans ht1 (fun q hq e => by have := HR.out q e; omega)⟩
        · rw [HU.out]; exact ho1
        · intro k e
          rcases hr1 with e' | ⟨q, e', hq⟩
          · exact HR.out k (e'.symm.trans e)
          · rw [e'] at e; injection e with e; simp at hq; omega
      case measure => simp [intOf]; omega
    · obtain rfl : j = cs.length := by omega
      go_wp2
      go_ret
      obtain ⟨A1, c1, hv, hc1, hc2, _, hr⟩ := HO.out.rd
      injection hv with hv1 hv2 hv3
      subst hv1 hv3
      rw [List.take_length] at hr
      exact ⟨A0, c0, by rw [List.length_map]; rfl, by rw [List.length_map]; exact hc1, hc2, by rw [List.length_map]; exact hr.mono fun k hk => HR.out k hk, HT.out⟩
theorem mlen_nil (w : World) : Calls Try.prog 31 #[.pointer none] w fun e w' => e = .returned (.int .i64 0) ∧ w = w' := by
  go_enter Try.func31, Try.ntmps31
  go_wp2
  go_ret
  exact ⟨rfl, rfl⟩
theorem mall_nil (w : World) : Calls Try.prog 29 #[.pointer none] w (NewSl w []) := by
  go_enter Try.func29, Try.ntmps29
  go_wp2_with (go_at_call 31; go_must (refine (mlen_nil _).mono ?_); rintro e w1 ⟨rfl, rfl⟩)
  refine wp_loop_rounds 1 ?_
  rw [rounds_succ]
  go_wp2
  go_ret
  exact ⟨none, 0, rfl, Nat.le_refl _, by simp, Rd.nil _ _ _, Touch.refl _ _⟩

/-- All together, as Go's own '+' of 64 bits has it. -/
def sumM (cs : List Nat) : Nat := cs.foldl (fun s x => (s + x) % 18446744073709551616) 0
theorem sumM_take (cs : List Nat) (j : Nat) (hj : j < cs.length) : sumM (cs.take (j + 1)) = (sumM (cs.take j) + cs.getD j 0) % 18446744073709551616 := by
  rw [sumM, List.take_succ_eq_append_getElem hj, List.foldl_append]
  simp [sumM, List.getD, List.getElem?_eq_getElem hj]
theorem sumM_lt (cs : List Nat) : sumM cs < 18446744073709551616 := by
  rcases List.eq_nil_or_concat cs with rfl | ⟨l, a, rfl⟩
  · decide
  · rw [List.concat_eq_append, sumM, List.foldl_append]; simp; omega
theorem get_U64 {l : List Nat} {j : Nat} (hj : j < l.length) : (l.map U64)[j]? = some (U64 (l.getD j 0)) := by simp [List.getD, List.getElem?_eq_getElem hj]

theorem msum_any (p : Value) (cs : List Nat) (w : World) (hall : Calls Try.prog 29 #[p] w (NewSl w (cs.map U64))) (hl : cs.length ≤ 16) :
    Calls Try.prog 30 #[p] w fun e w' => e = .returned (.int .u64 (sumM cs : Nat)) ∧ Touch (fun _ => False) w w' := by
  have HA := Lib.hid hall
  clear hall
  go_enter Try.func30, Try.ntmps30
  go_wp2_with (go_at_call 29; go_must (refine HA.out.mono ?_); rintro e w1 ⟨A1, c1, rfl, q1, q2, hr1, t1⟩; rw [List.length_map] at q1 hr1 ⊢; have HR := Lib.hid hr1; have HT := Lib.hid t1; clear q1 q2 hr1 t1)
  go_loopw [2, 8] (fun v i wr => ∃ j : Nat, j ≤ cs.length ∧ i = .int .i64 j ∧ v = .int .u64 (sumM (cs.take j) : Nat) ∧ wr = w1) (fun _ i _ => cs.length - (intOf i).toNat)
  case atStart => exact ⟨0, by omega, rfl, rfl, rfl⟩
  case round =>
    obtain ⟨j, hj, rfl, rfl, rfl⟩ := hrel
    by_cases hjk : j < cs.length
    · obtain ⟨a, off, rfl, _, _, hc⟩ := HR.out.2 (by omega)
      have hcj := hc j _ (get_U64 hjk)
      simp only [U64] at hcj
      have HE := Lib.hid (sumM_take cs j hjk)
      have h1 := sumM_lt (cs.take j)
      generalize cs.getD j 0 = x at *
      generalize sumM (cs.take j) = s at *
      clear hc
      have hw : IntKind.u64.wrap ((s : Int) + (x : Int)) = (((s + x) % 18446744073709551616 : Nat) : Int) := by rw [IntKind.wrap_u64]; omega
      go_wp2_with fail
      go_roundw
      case rel => exact ⟨j + 1, by omega, by go_num, by rw [HE.out]; rfl, trivial⟩
      case measure => simp [intOf]; omega
    · obtain rfl : j = cs.length := by omega
      go_wp2
      go_ret
      rw [List.take_length]
      exact ⟨rfl, HT.out⟩

theorem MAt.le16 {w : World} {g : Nat} {cs : List Nat} (h : MAt w g cs) : cs.length ≤ 16 := h.1
theorem l05_1 : opC addF (List.replicate 2 0) 1 5 = [0, 5] ∧ opN addF (List.replicate 2 0) 1 5 = 5 ∧ opE addF (List.replicate 2 0) 1 5 = 0 := by decide +kernel
theorem l05_2 : opC raiseF [0, 5] 1 3 = [0, 5] ∧ opE raiseF [0, 5] 1 3 = 0 := by decide +kernel
theorem l05_3 : opC swapF [0, 5] 1 0 = [0, 0] ∧ opW swapF [0, 5] 1 0 = 5 ∧ opE swapF [0, 5] 1 0 = 0 := by decide +kernel
theorem l05_4 : getV [0, 0] 1 = 0 := by decide +kernel

theorem lives05_any (w : World) : Calls Try.prog 24 #[] w fun e w' => e = .returned (.bool true) ∧ Touch (fun _ => False) w w' := by
  go_enter Try.func24, Try.ntmps24
  go_wp2_with (first
    | (go_at_call 25; go_must (refine (mnew_ok 2 w (by omega) (by omega)).mono ?_); rintro e w1 ⟨rfl, hm, t1⟩; have HM1 := Lib.hid hm; have HT1 := Lib.hid t1; clear hm t1)
    | (go_at_call 32; go_must (refine (madd_any w.heap.size 5 1 (List.replicate 2 0) w1 HM1.out (by simp)).mono ?_); rintro e w2 ⟨rfl, hm, t1⟩; rw [l05_1.1] at hm; rw [l05_1.2.1, l05_1.2.2]; have HM2 := Lib.hid hm; have HT2 := Lib.hid (HT1.out.trans t1 (fun q hq e => by omega)); clear hm t1)
    | (go_at_call 34; go_must (refine (mraise_any w.heap.size 3 1 [0, 5] w2 HM2.out (by simp)).mono ?_); rintro e w3 ⟨rfl, hm, t1⟩; rw [l05_2.1] at hm; rw [l05_2.2]; have HM3 := Lib.hid hm; have HT3 := Lib.hid (HT2.out.trans t1 (fun q hq e => by omega)); clear hm t1)
    | (go_at_call 27; go_must (refine (mswap_any w.heap.size 0 1 [0, 5] w3 HM3.out (by simp)).mono ?_); rintro e w4 ⟨rfl, hm, t1⟩; rw [l05_3.1] at hm; rw [l05_3.2.1, l05_3.2.2]; have HM4 := Lib.hid hm; have HT4 := Lib.hid (HT3.out.trans t1 (fun q hq e => by omega)); clear hm t1)
    | (go_at_call 33; go_must (refine (mget_any w.heap.size 1 [0, 0] w4 HM4.out (by simp)).mono ?_); rintro e w5 ⟨rfl, rfl⟩; rw [l05_4]))
  go_ret
  exact ⟨rfl, HT4.out⟩
end Go.Proofs.Ytomapfklpoijbaa
