/- The walk of MeterOnce. -/
import Derived.Test.YtomapfklpoijbaaMetD
import Derived.Test.YtomapfklpoijbaaArgs
namespace Go.Proofs.Ytomapfklpoijbaa
open Go.RowKit Go.ChangeShapes Go.WideShapes Go.Deep
set_option maxHeartbeats 4000000
set_option maxRecDepth 100000
set_option linter.unusedVariables false

theorem bd_i64 {n : Int} (h : (Lit.int .i64 n).wf = true) : -9223372036854775808 ≤ n ∧ n ≤ 9223372036854775807 := by
  simp [Lit.wf, IntKind.min, IntKind.max, IntKind.signed, IntKind.bits] at h; omega
section
variable {H : Type} {enc : TypeId × Value → H} {P : Program} {w : World} {spare : Nat → Bool} {held : Bool}
theorem elem_i64 {e : TypeId} (he : P.underlying e = some (.int .i64)) {fuel : Nat} {cs : List Value} {x : DataW H × List MemPlace} (h : DataW.trod enc P w 0 spare held fuel e cs = some x) :
    ∃ c : Int, cs = [I64 c] ∧ (-9223372036854775808 ≤ c ∧ c ≤ 9223372036854775807) := by
  obtain ⟨n, rfl, _, hw⟩ := DataW.trod_int he h
  exact ⟨n, rfl, bd_i64 hw⟩
/-- A []int. -/
theorem open_i64s {t e : TypeId} {v : Value} {d : DataW H} {ps : List MemPlace} (ht : P.underlying t = some (.slice e)) (he : P.underlying e = some (.int .i64)) (hsz : P.cellsOf e = 1)
    (A : Option Addr) (n c : Nat) (hv : v = .slice A n c) (h : DataW.Trod enc P w 0 spare held t v d ps) :
    ∃ l : List Int, l.length = n ∧ (∀ x ∈ l, -9223372036854775808 ≤ x ∧ x ≤ 9223372036854775807) ∧ (A = none → c = 0) ∧ n ≤ c ∧ c ≤ maxLen ∧ Rd w (fun k => k < w.heap.size) A n (l.map I64) := by
  obtain ⟨l, h1, ho, _, h2, h3, h4, h5⟩ := open_list (fun c => [I64 c]) _ ht hsz (by decide) (fun _ _ _ hx => elem_i64 he hx) A n c hv h
  rw [flat_map1] at h5
  exact ⟨l, h1, ho, h2, h3, h4, h5.rd⟩
end
theorem get_I64 {l : List Int} {j : Nat} (hj : j < l.length) : (l.map I64)[j]? = some (I64 (l.getD j 0)) := by simp [List.getD, List.getElem?_eq_getElem hj]

/-- A row that the kit calls owned is the call's own, its block told. -/
theorem Own.of_owns {w : World} {base : Nat} {e : TypeId} {g n c : Nat} {xs : List Value} (h : w.ownsRow base e 1 (.slice (some ⟨g, 0, none⟩) n c) n xs) : Own w e 1 (.slice (some ⟨g, 0, none⟩) n c) (some g) n xs := by
  refine ⟨h.1, ?_⟩
  rcases h.2 with ⟨hv, _⟩ | ⟨g', cap, cur, hv, hb, hg, hn, hc, hs, ht⟩
  · cases hv
  · refine .inr ⟨g', cap, cur, ?_, hv, hg, hn, hc, hs, ht⟩
    injection hv with h1 h2 h3
    injection h1 with h1
    injection h1 with h1
    rw [h1]
theorem Own.storeAt {w : World} {e : TypeId} {g n : Nat} {v : Value} {xs : List Value} (h : Own w e 1 v (some g) n xs) (k : Nat) (hk : k < n) (u : Value) : Own (w.setCell ⟨g, k, none⟩ u) e 1 v (some g) n (xs.set k u) := by
  obtain ⟨hl, h2⟩ := h
  refine ⟨by simpa using hl, ?_⟩
  rcases h2 with ⟨_, _, hr⟩ | ⟨g', cap, cur, hr, hv, hb, hn, hc, hs, ht⟩
  · cases hr
  · injection hr with hr; subst hr
    refine .inr ⟨g, cap, _, rfl, hv, hb.set_ k u, hn, hc, by simpa using hs, ?_⟩
    rw [Array.toList_setIfInBounds, List.take_set, ht]

def metV (c : Nat) : Value := .bool (decide (c ≠ 0))
theorem infoB : (Try.prog.info? 4).map (fun i => (i.zero, i.size, i.bytes)) = some (some (.bool false), 1, 1) := by kernel_rfl
theorem metV_0 (n : Nat) : (List.replicate n 0).map metV = List.replicate n (.bool false) := by rw [List.map_replicate]; rfl
theorem get_metV {cs : List Nat} {k : Nat} (hk : k < cs.length) : (cs.map metV)[k]? = some (metV (cs.getD k 0)) := by simp [List.getD, List.getElem?_eq_getElem hk]
theorem made_metV (n : Nat) : (madeCells (Value.bool false).cells (n * 1)).toList = (List.replicate n 0).map metV := by
  rw [metV_0, Nat.mul_one]
  simp only [madeCells, Value.cells, Array.toList_map, Array.toList_range]
  rw [List.eq_replicate_iff]
  refine ⟨by simp, ?_⟩
  intro b hb
  obtain ⟨x, _, rfl⟩ := List.mem_map.1 hb
  rw [show x % #[Value.bool false].size = 0 from Nat.mod_one x]
  rfl
theorem swap_zero (cs : List Nat) (j : Nat) (hj : j < cs.length) : opC swapF cs (j : Int) 0 = cs.set j 0 := by
  rw [opC, if_pos ⟨⟨by omega, by omega⟩, by simp [swapF]⟩, Int.toNat_natCast]
  rfl
theorem once_zero (cs : List Nat) (j : Nat) (hj : j < cs.length) : onceB (cs.set j 0) (j : Int) = true ∧ onceC (cs.set j 0) (j : Int) = (cs.set j 0).set j 1 := by
  have h : onceB (cs.set j 0) (j : Int) = true := by
    rw [onceB, decide_eq_true (show inR (cs.set j 0) (j : Int) from ⟨by omega, by simp; omega⟩), Int.toNat_natCast]
    simp [List.getD, hj]
  exact ⟨h, by rw [onceC, if_pos h, Int.toNat_natCast]⟩
theorem once_one (cs : List Nat) (j : Nat) (hj : j < cs.length) : onceB ((cs.set j 0).set j 1) (j : Int) = false ∧ onceC ((cs.set j 0).set j 1) (j : Int) = (cs.set j 0).set j 1 := by
  have h : onceB ((cs.set j 0).set j 1) (j : Int) = false := by
    rw [onceB, Int.toNat_natCast]
    simp [List.getD, hj]
  exact ⟨h, by rw [onceC, if_neg (by rw [h]; simp)]⟩
theorem onceC_len (cs : List Nat) (i : Int) : (onceC cs i).length = cs.length := by unfold onceC; split <;> simp

theorem walk_MeterOnce {w : World} (a0 : Int) (k0 : -9223372036854775808 ≤ a0 ∧ a0 ≤ 9223372036854775807)
    (A1 : Option Addr) (n1 c1 : Nat) (l1 : List Int) (e1 : l1.length = n1) (o1 : ∀ x ∈ l1, -9223372036854775808 ≤ x ∧ x ≤ 9223372036854775807) (g1 : A1 = none → c1 = 0) (u1 : n1 ≤ c1) (m1 : c1 ≤ maxLen) (s1 : Rd w (fun k => k < w.heap.size) A1 n1 (l1.map I64)) :
    Calls Try.prog 5 #[.int .i64 a0, .slice A1 n1 c1] w fun e w' => e = .returned (.bool true) ∧ Below w.heap.size w w' := by
  subst e1
  have HRa := Lib.hid s1
  clear o1 g1 u1 m1 s1 k0
  by_cases hlo : a0 < 1
  · go_enter Try.func5, Try.ntmps5
    go_wp2_with (go_at_call 24; go_must (refine (lives05_any _).mono ?_); rintro e w1 ⟨rfl, t1⟩; have HT := Lib.hid t1; clear t1)
    go_ret
    exact ⟨rfl, HT.out.below⟩
  by_cases hhi : 16 < a0
  · go_enter Try.func5, Try.ntmps5
    go_wp2_with (go_at_call 24; go_must (refine (lives05_any _).mono ?_); rintro e w1 ⟨rfl, t1⟩; have HT := Lib.hid t1; clear t1)
    go_ret
    exact ⟨rfl, HT.out.below⟩
  by_cases hbig : 200 < (l1.length : Int)
  · go_enter Try.func5, Try.ntmps5
    go_wp2_with (go_at_call 24; go_must (refine (lives05_any _).mono ?_); rintro e w1 ⟨rfl, t1⟩; have HT := Lib.hid t1; clear t1)
    go_ret
    exact ⟨rfl, HT.out.below⟩
  obtain ⟨n, rfl⟩ := Int.eq_ofNat_of_zero_le (show 0 ≤ a0 by omega)
  have hn1 : 1 ≤ n := by omega
  have hn16 : n ≤ 16 := by omega
  have hll : l1.length ≤ 200 := by omega
  obtain ⟨i0, hi, hz0, hz1, hz2⟩ := info_parts infoB
  go_enter Try.func5, Try.ntmps5
  go_wp2_with (first
    | (go_at_call 25; go_must (refine (mnew_ok n w hn1 hn16).mono ?_); rintro e w1 ⟨rfl, hm, t1⟩; have HM := Lib.hid hm; have HT := Lib.hid t1; clear hm t1)
    | (refine wpList_make_full _ rfl _ _ 50 rfl 0 4 i0 (.bool false) 1 Try.underlying50 hi hz0 hz1 .i64 .i64 n n n rfl rfl rfl rfl (by rw [hz2]; omega) (by simp only [maxLen]; omega) (Nat.zero_le _) ?_
       intro w2 hown hgr
       have HO := Lib.hid (Own.of_owns hown)
       have HG := Lib.hid hgr
       clear hown hgr))
  have HT2 := Lib.hid (HT.out.trans (Touch.of_grown HG.out) (fun q hq e => by cases e))
  have hs1 := HT.out.size
  have hml := HM.out.2.2.lt
  have tg := Touch.of_grown HG.out
  have HM2 := Lib.hid (HM.out.touch tg (by simp))
  clear tg
  have HO2 : Own w2 4 1 (.slice (some ⟨w1.heap.size, 0, none⟩) n n) (some w1.heap.size) n ((List.replicate n 0).map metV) := by rw [← made_metV]; exact HO.out
  have HO2 := Lib.hid HO2
  generalize hgm : w1.heap.size = gm at *
  have HGM := Lib.hid hgm
  clear hgm
  go_loopw [29] (fun i wr => ∃ j : Nat, j ≤ l1.length ∧ i = .int .i64 j ∧ (∃ cs : List Nat, cs.length = n ∧ MAt wr w.heap.size cs ∧ Own wr 4 1 (.slice (some ⟨gm, 0, none⟩) n n) (some gm) n (cs.map metV)) ∧ Touch (fun _ => False) w wr) (fun i _ => l1.length - (intOf i).toNat)
  case atStart => exact ⟨0, by omega, rfl, ⟨List.replicate n 0, by simp, HM2.out, HO2.out⟩, HT2.out⟩
  case round =>
    obtain ⟨j, hj, rfl, hR, hT⟩ := hrel
    have HT := Lib.hid hT
    obtain ⟨cs, hcl, hm, ho⟩ := hR
    subst hcl
    have HM := Lib.hid hm
    have HO := Lib.hid ho
    clear hT hm ho
    by_cases hjk : j < l1.length
    · obtain ⟨a, off, rfl, _, _, hc⟩ := (HRa.out.touch HT.out (fun _ _ e => e)).2 (by omega)
      have hcj := hc j _ (get_I64 hjk)
      simp only [I64] at hcj
      generalize l1.getD j 0 = i at *
      have HOn := Lib.hid (monce_any w.heap.size i cs wr HM.out (by omega))
      clear hc
      by_cases hin : inR cs i
      · obtain ⟨k, rfl⟩ := Int.eq_ofNat_of_zero_le hin.1
        have hk : k < cs.length := by have := hin.2; omega
        have hck := HO.out.cellAt k (by simpa using hk)
        rw [get_metV hk] at hck
        simp only [metV] at hck
        have hfz : wr.frozen? ⟨gm, k, none⟩ = false := by
          rcases HO.out.2 with ⟨hv, _⟩ | ⟨g', cap, cur, hr, hv, hb, _⟩
          · cases hv
          · injection hr with hr; subst hr; exact hb.frozen k
        by_cases h0 : cs.getD k 0 = 0
        · rw [show decide (cs.getD k 0 ≠ 0) = false from decide_eq_false (fun h => h h0)] at hck
          have HB := Lib.hid (show onceB cs (k : Int) = true by rw [onceB, decide_eq_true hin, Int.toNat_natCast, h0]; rfl)
          have HC := Lib.hid (show onceC cs (k : Int) = cs.set k 1 by rw [onceC, if_pos HB.out, Int.toNat_natCast])
          rw [HB.out, HC.out] at HOn
          have HMV := Lib.hid (show (cs.map metV).set k (.bool true) = (cs.set k 1).map metV by rw [List.map_set]; rfl)
          clear hin h0
          go_wp2_with (go_at_call 26; go_must (refine HOn.out.mono ?_); rintro e w3 ⟨rfl, hm3, t3⟩
                       have HM3 := Lib.hid hm3
                       have HT3 := Lib.hid t3
                       have hck3 := (t3.cell (p := ⟨gm, k, none⟩) (by have := HO.out.lt gm rfl; exact this) (show ¬ gm = w.heap.size by omega)).trans hck
                       have hfz3 : w3.frozen? ⟨gm, k, none⟩ = false := by
                         rcases (HO.out.touch t3 (fun q hq e => by injection hq with hq; omega)).2 with ⟨hv, _⟩ | ⟨g', cap, cur, hr, hv, hb, _⟩
                         · cases hv
                         · injection hr with hr; subst hr; exact hb.frozen k
                       clear hm3 t3)
          go_roundw
          case rel =>
            refine ⟨j + 1, by omega, by go_num, ⟨cs.set k 1, by simp, HM3.out.touch ((Touch.refl (fun q => q = gm) w3).set (fun _ => rfl) _) (by omega), ?_⟩, ?_⟩
            · have := (HO.out.touch HT3.out (fun q hq e => by injection hq with hq; omega)).storeAt k hk (.bool true)
              rw [HMV.out] at this
              exact this
            · exact (HT.out.trans HT3.out (fun q hq e => by omega)).trans ((Touch.refl (fun q => q = gm) w3).set (fun _ => rfl) _) (fun q hq e => by omega)
          case measure => simp [intOf]; omega
        · rw [show decide (cs.getD k 0 ≠ 0) = true from decide_eq_true h0] at hck
          have HB := Lib.hid (show onceB cs (k : Int) = false by rw [onceB, Int.toNat_natCast, decide_eq_false h0, Bool.and_false])
          have HC := Lib.hid (show onceC cs (k : Int) = cs by rw [onceC, if_neg (by rw [HB.out]; simp)])
          rw [HB.out, HC.out] at HOn
          clear hin h0
          go_wp2_with (go_at_call 26; go_must (refine HOn.out.mono ?_); rintro e w3 ⟨rfl, hm3, t3⟩; have HM3 := Lib.hid hm3; have HT3 := Lib.hid t3; clear hm3 t3)
          go_roundw
          case rel => exact ⟨j + 1, by omega, by go_num, ⟨cs, rfl, HM3.out, HO.out.touch HT3.out (fun q hq e => by injection hq with hq; omega)⟩, HT.out.trans HT3.out (fun q hq e => by omega)⟩
          case measure => simp [intOf]; omega
      · have HB := Lib.hid (show onceB cs i = false by rw [onceB, decide_eq_false hin]; rfl)
        have HC := Lib.hid (show onceC cs i = cs by rw [onceC, if_neg (by rw [HB.out]; simp)])
        rw [HB.out, HC.out] at HOn
        have hin2 : i < 0 ∨ (cs.length : Int) ≤ i := by unfold inR at hin; omega
        clear hin
        by_cases hneg : i < 0
        · clear hin2
          go_wp2_with (go_at_call 26; go_must (refine HOn.out.mono ?_); rintro e w3 ⟨rfl, hm3, t3⟩; have HM3 := Lib.hid hm3; have HT3 := Lib.hid t3; clear hm3 t3)
          go_roundw
          case rel => exact ⟨j + 1, by omega, by go_num, ⟨cs, rfl, HM3.out, HO.out.touch HT3.out (fun q hq e => by injection hq with hq; omega)⟩, HT.out.trans HT3.out (fun q hq e => by omega)⟩
          case measure => simp [intOf]; omega
        · have hge : (cs.length : Int) ≤ i := by omega
          clear hin2
          go_wp2_with (go_at_call 26; go_must (refine HOn.out.mono ?_); rintro e w3 ⟨rfl, hm3, t3⟩; have HM3 := Lib.hid hm3; have HT3 := Lib.hid t3; clear hm3 t3)
          go_roundw
          case rel => exact ⟨j + 1, by omega, by go_num, ⟨cs, rfl, HM3.out, HO.out.touch HT3.out (fun q hq e => by injection hq with hq; omega)⟩, HT.out.trans HT3.out (fun q hq e => by omega)⟩
          case measure => simp [intOf]; omega
    · obtain rfl : j = l1.length := by omega
      clear HO
      have hcl := HM.out.le16
      go_wp2
      go_loopw [58] (fun i w3 => ∃ j : Nat, j ≤ cs.length ∧ i = .int .i64 j ∧ (∃ ds : List Nat, ds.length = cs.length ∧ MAt w3 w.heap.size ds) ∧ Touch (fun _ => False) w w3) (fun i _ => cs.length - (intOf i).toNat)
      case atStart => exact ⟨0, by omega, rfl, ⟨cs, rfl, HM.out⟩, HT.out⟩
      case round =>
        obtain ⟨j, hj, rfl, hR, hT⟩ := hrel
        have HT := Lib.hid hT
        obtain ⟨ds, hdl, hm⟩ := hR
        have HM := Lib.hid hm
        clear hT hm
        by_cases hjk : j < cs.length
        · have hjd : j < ds.length := by omega
          have HS := Lib.hid (swap_zero ds j hjd)
          have HZ := Lib.hid (once_zero ds j hjd)
          have HOe := Lib.hid (once_one ds j hjd)
          go_wp2_with (first
            | (go_at_call 27; go_must (refine (mswap_any w.heap.size 0 j ds _ (by exact HM.out) (by omega)).mono ?_); rintro e w3 ⟨rfl, hm, t3⟩; rw [HS.out] at hm; have HM3 := Lib.hid hm; have HT := Lib.hid (HT.out.trans t3 (fun q hq e => by omega)); clear hm t3)
            | (go_at_call 26; have HM9 := HM4; go_must (refine (monce_any w.heap.size j ((ds.set j 0).set j 1) _ (by exact HM4.out) (by simp; omega)).mono ?_); rintro e w5 ⟨rfl, hm, t3⟩; rw [HOe.out.1]; rw [HOe.out.2] at hm; have HM5 := Lib.hid hm; have HT := Lib.hid (HT.out.trans t3 (fun q hq e => by omega)); clear hm t3)
            | (go_at_call 26; go_must (refine (monce_any w.heap.size j (ds.set j 0) _ (by exact HM3.out) (by simp; omega)).mono ?_); rintro e w4 ⟨rfl, hm, t3⟩; rw [HZ.out.1]; rw [HZ.out.2] at hm; have HM4 := Lib.hid hm; have HT := Lib.hid (HT.out.trans t3 (fun q hq e => by omega)); clear hm t3))
          go_roundw
          case rel => exact ⟨j + 1, by omega, by go_num, ⟨(ds.set j 0).set j 1, by simp; omega, HM5.out⟩, HT.out⟩
          case measure => simp [intOf]; omega
        · obtain rfl : j = cs.length := by omega
          go_wp2_with (go_at_call 24; go_must (refine (lives05_any _).mono ?_); rintro e w1 ⟨rfl, t1⟩; have HT := Lib.hid (HT.out.trans t1 (fun _ _ e => e)); clear t1)
          go_ret
          exact ⟨rfl, HT.out.below⟩
end Go.Proofs.Ytomapfklpoijbaa
