/- slices.BinarySearch at int64; week.Nth. What calendar.Due's loop holds. -/
import Derived.Test.YtlcefchbfjfifaaGreatVCalU
import Derived.Test.YtlcefchbfjfifaaGreatVCalZ
section
namespace Go.Proofs.YtlcefchbfjfifaaGreat
open Go.RowKit Cal
set_option maxHeartbeats 4000000
set_option maxRecDepth 100000
set_option linter.unusedVariables false
attribute [local irreducible] wpPlan

theorem cnan_any (x : Int) (w : World) : Calls Tryz.prog 141 #[.int .i64 x] w fun e w' => e = .returned (.bool false) ∧ w = w' := by
  go_enter Tryz.func141, Tryz.ntmps141
  go_wp2
  go_ret
  exact ⟨by simp, rfl⟩
theorem snan_any (x : Int) (w : World) : Calls Tryz.prog 128 #[.int .i64 x] w fun e w' => e = .returned (.bool false) ∧ w = w' := by
  go_enter Tryz.func128, Tryz.ntmps128
  go_wp2
  go_ret
  exact ⟨by simp, rfl⟩
theorem less64_any (x y : Int) (w : World) : Calls Tryz.prog 127 #[.int .i64 x, .int .i64 y] w fun e w' => e = .returned (.bool (decide (x < y))) ∧ w = w' := by
  go_enter Tryz.func127, Tryz.ntmps127
  go_wp2_with (go_at_call 141; go_must (refine (cnan_any _ _).mono ?_); rintro e w1 ⟨rfl, rfl⟩)
  go_ret
  exact ⟨rfl, rfl⟩
def Bs64P (xs : List Int) (x : Int) (w : World) (e : Ending) (w' : World) : Prop :=
  ∃ (i : Nat) (bl : Bool), i ≤ xs.length ∧ (∀ (j : Nat) (y : Int), xs[j]? = some y → (j < i ↔ y < x)) ∧ e = .returned (.tuple #[.int .i64 i, .bool bl]) ∧ w = w'
theorem bs64_any (F : Nat → Prop) (A : Option Addr) (n c : Nat) (xs : List Int) (x : Int) (w : World) (hr : Rd w F A n (xs.map V64)) (hs : ∀ (i j : Nat) (y z : Int), xs[i]? = some y → xs[j]? = some z → i < j → y ≤ z) (hn : n ≤ 1000000) :
    Calls Tryz.prog 107 #[.slice A n c, .int .i64 x] w (Bs64P xs x w) := by
  have hxl : xs.length = n := by simpa using hr.1
  have HR := Lib.hid hr
  have HS := Lib.hid hs
  clear hr hs
  go_enter Tryz.func107, Tryz.ntmps107
  go_wp2_with fail
  go_loopw [7, 8] (fun lo hi wr => ∃ i j : Nat, lo = .int .i64 i ∧ hi = .int .i64 j ∧ i ≤ j ∧ j ≤ n ∧ (∀ (q : Nat) (y : Int), xs[q]? = some y → q < i → y < x) ∧ (∀ (q : Nat) (y : Int), xs[q]? = some y → j ≤ q → ¬ y < x) ∧ w = wr) (fun lo hi _ => (intOf hi - intOf lo).toNat)
  case atStart => exact ⟨0, n, rfl, rfl, by omega, by omega, (fun q s h1 h2 => by omega), (fun q s h1 h2 => by have := (List.getElem?_eq_some_iff.1 h1).1; omega), rfl⟩
  case round =>
    obtain ⟨i, j, rfl, rfl, hij, hj, h1, h2, rfl⟩ := hrel
    have H1 := Lib.hid h1
    have H2 := Lib.hid h2
    clear h1 h2
    by_cases hlt : i < j
    · have hml : (i + j) / 2 < xs.length := by omega
      have ha : xs[(i + j) / 2]? = some (xs[(i + j) / 2]'hml) := List.getElem?_eq_getElem _
      obtain ⟨g, off, rfl, hg, -, hc⟩ := HR.out.2 (by omega)
      have hc0 := hc ((i + j) / 2) (V64 (xs[(i + j) / 2]'hml)) (by rw [List.getElem?_map, ha]; rfl)
      simp only [V64] at hc0
      have HA := Lib.hid ha
      generalize xs[(i + j) / 2]'hml = y at *
      clear ha hc
      have hxl' := Lib.hid hxl
      clear hxl hml
      by_cases hyx : y < x
      · go_wp2_with (go_at_call 127; go_must (refine (less64_any y x _).mono ?_); rintro e w1 ⟨rfl, rfl⟩; rw [decide_eq_true hyx])
        go_roundw
        case rel =>
          refine ⟨(i + j) / 2 + 1, j, by rw [show ((i : Int) + (j : Int)) / 2 + 1 = (((i + j) / 2 + 1 : Nat) : Int) by omega], rfl, by omega, hj, fun q s hq hqi => ?_, ?_, trivial⟩
          · rcases Nat.lt_or_ge q ((i + j) / 2) with hlt' | hge
            · have := HS.out q _ s _ hq HA.out hlt'
              omega
            · have : q = (i + j) / 2 := by omega
              subst this
              have := HA.out
              rw [hq] at this
              injection this with this
              omega
          · intro q s hq hqj
            have := H2.out q s hq hqj
            omega
        case measure => simp [intOf]; omega
      · go_wp2_with (go_at_call 127; go_must (refine (less64_any y x _).mono ?_); rintro e w1 ⟨rfl, rfl⟩; rw [decide_eq_false hyx])
        go_roundw
        case rel =>
          refine ⟨i, (i + j) / 2, rfl, by rw [show ((i : Int) + (j : Int)) / 2 = (((i + j) / 2 : Nat) : Int) by omega], by omega, by omega, H1.out, fun q s hq hqj => ?_, trivial⟩
          rcases Nat.lt_or_ge ((i + j) / 2) q with hlt' | hge
          · have := HS.out _ q _ s HA.out hq hlt'
            omega
          · have : q = (i + j) / 2 := by omega
            subst this
            have := HA.out
            rw [hq] at this
            injection this with this
            omega
        case measure => simp [intOf]; omega
    · obtain rfl : j = i := by omega
      have HP := Lib.hid (show j ≤ xs.length ∧ (∀ (q : Nat) (y : Int), xs[q]? = some y → (q < j ↔ y < x)) from ⟨by omega, fun q s hq => ⟨H1.out q s hq, fun h => by
        rcases Nat.lt_or_ge q j with h' | h'
        · exact h'
        · have := H2.out q s hq h'; omega⟩⟩)
      by_cases hjl : j < n
      · have hml : j < xs.length := by omega
        have ha : xs[j]? = some (xs[j]'hml) := List.getElem?_eq_getElem _
        obtain ⟨g, off, rfl, hg, -, hc⟩ := HR.out.2 (by omega)
        have hc0 := hc j (V64 (xs[j]'hml)) (by rw [List.getElem?_map, ha]; rfl)
        simp only [V64] at hc0
        generalize xs[j]'hml = y at *
        have hxl' := Lib.hid hxl
        clear ha hc hxl hml
        by_cases hyx : y = x
        · subst hyx
          go_wp2_with (go_at_call 128; go_must (refine (snan_any _ _).mono ?_); rintro e w1 ⟨rfl, rfl⟩)
          go_ret2
          exact ⟨j, _, HP.out.1, HP.out.2, rfl, rfl⟩
        · have hyb : (y == x) = false := by simpa using hyx
          go_wp2_with (go_at_call 128; go_must (refine (snan_any _ _).mono ?_); rintro e w1 ⟨rfl, rfl⟩)
          go_ret2
          exact ⟨j, _, HP.out.1, HP.out.2, rfl, rfl⟩
      · obtain rfl : j = n := by omega
        have hxl' := Lib.hid hxl
        clear hxl
        go_wp2
        go_ret2
        exact ⟨j, _, HP.out.1, HP.out.2, rfl, rfl⟩
def NthR (g : Nat) (wk : List Sp) (b : Nat) (G : Nat → Prop) (n : Int) (w : World) (e : Ending) (w' : World) : Prop :=
  ∃ t, e = .returned (.tuple #[.int .i64 t, .int .i64 0]) ∧ 0 ≤ t ∧ t ≤ 2251799813685248 ∧ hasB wk (t % 604800) = true ∧ U wk t = n ∧ PnAt w' g wk b (More G w w') ∧ Touch (fun q => q = b) w w'
theorem nth_quot {wk : List Sp} (hw : Week wk) {n L : Int} (h0 : 0 ≤ n) (hy : 0 < len wk) (hL0 : 0 ≤ L) (hn : n < U wk L) : 0 ≤ n / len wk ∧ n / len wk ≤ L / 604800 ∧ 0 ≤ n % len wk ∧ n % len wk < len wk := by
  have h1 := within_bd hw.1 (a := 0) (b := L % 604800) (by omega)
  have h2 : within wk 0 (L % 604800) ≤ len wk := by
    have h3 := within_bd hw.1 (a := L % 604800) (b := 604800) (by omega)
    have key : ∀ (l : List Sp) (e x : Int), Row e l → 0 ≤ x → ∀ m : Nat, within l 0 x ≤ within l 0 (x + m) := by
      intro l e x hl hx m
      induction m with
      | zero => simp
      | succ m ih =>
        have := within_step l e 0 (x + m) hl (by omega)
        rw [show x + ((m + 1 : Nat) : Int) = x + m + 1 by omega, this]
        split <;> omega
    have := key wk 0 (L % 604800) hw.1 (by omega) (604800 - L % 604800).toNat
    rw [show L % 604800 + ((604800 - L % 604800).toNat : Int) = 604800 by omega] at this
    rw [hw.len_eq]; exact this
  refine ⟨Int.ediv_nonneg h0 (by omega), ?_, Int.emod_nonneg _ (by omega), Int.emod_lt_of_pos _ hy⟩
  have h4 : n < (L / 604800 + 1) * len wk := by
    unfold U at hn
    rw [Int.add_mul]; omega
  have h5 : n / len wk < L / 604800 + 1 := Int.ediv_lt_of_lt_mul hy h4
  omega
theorem sums_mono {wk : List Sp} (hw : Week wk) : ∀ (i j : Nat) (y z : Int), (sumsN wk wk.length)[i]? = some y → (sumsN wk wk.length)[j]? = some z → i < j → y ≤ z := by
  intro i j y z hi hj hij
  have hjl := (List.getElem?_eq_some_iff.1 hj).1
  rw [sumsN_len] at hjl
  rw [sumsN_get wk _ i (by omega)] at hi
  rw [sumsN_get wk _ j (by omega)] at hj
  injection hi with hi
  injection hj with hj
  subst hi hj
  have e : wk.take j = wk.take i ++ (wk.drop i).take (j - i) := by
    rw [show j = i + (j - i) by omega, List.take_add]; congr 2; omega
  rw [e, longS_append]
  have := longS_nn ((wk.drop i).take (j - i)) (fun s hs => (Row.mem hw.1 s (List.mem_of_mem_drop (List.mem_of_mem_take hs))).2.1)
  omega
/-- What Nth's arithmetic comes to. -/
theorem nth_plain {wk : List Sp} (hw : Week wk) {n L : Int} (h0 : 0 ≤ n) (hy : 0 < len wk) (hL0 : 0 ≤ L) (hL : L ≤ 2251799813685248) (hn : n < U wk L) {i : Nat} (hi : i ≤ wk.length + 1) (hs : ∀ (j : Nat) (y : Int), (sumsN wk wk.length)[j]? = some y → (j < i ↔ y < n % len wk + 1)) :
    1 ≤ i ∧ ∃ s, wk[i - 1]? = some s ∧ 0 ≤ s.f ∧ s.f ≤ 604800 ∧ 0 ≤ longS (wk.take (i - 1)) ∧ longS (wk.take (i - 1)) ≤ n % len wk ∧ (∀ t, t = n / len wk * 604800 + s.f + n % len wk - longS (wk.take (i - 1)) → 0 ≤ t ∧ t ≤ 2251799813685248 ∧ hasB wk (t % 604800) = true ∧ U wk t = n) := by
  obtain ⟨q0, q1, r0, r1⟩ := nth_quot hw h0 hy hL0 hn
  have hN : NthP wk (n % len wk) i := ⟨hi, fun j hj => by
    have := hs j _ (sumsN_get wk wk.length j hj)
    omega⟩
  obtain ⟨i1, s, hs1, k1, k2, k3, k4, k5, k6⟩ := nth_week hw r0 r1 hN
  have hst := Row.getE hw.1 hs1
  have hsw := hw.2.2 _ (List.mem_of_getElem? hs1)
  have hb := sums_bd hw (i - 1)
  refine ⟨i1, s, hs1, k4, by omega, hb.1, k1, fun t ht => ?_⟩
  have e1 : t % 604800 = s.f + n % len wk - longS (wk.take (i - 1)) := by omega
  have e2 : t / 604800 = n / len wk := by omega
  have hU : U wk t = n := by
    unfold U
    rw [e1, e2, k6]
    have := Int.mul_ediv_add_emod n (len wk)
    rw [Int.mul_comm] at this
    exact this
  have ht0 : 0 ≤ t := by omega
  refine ⟨ht0, ?_, by rw [e1]; exact k5, hU⟩
  rcases Int.lt_or_le t L with h | h
  · omega
  · have e3 := cnt_of (p := fun u => hasB wk (u % 604800)) (U wk) h (fun u h1 h2 => U_step hw (by omega))
    have e4 := cnt_pos (p := fun u => hasB wk (u % 604800)) h
    omega
theorem nth_any (g : Nat) (wk : List Sp) (b : Nat) (G : Nat → Prop) (n L : Int) (w : World) (h : PnAt w g wk b G) (h0 : 0 ≤ n) (hy : 0 < len wk) (hL0 : 0 ≤ L) (hL : L ≤ 2251799813685248) (hn : n < U wk L) :
    Calls Tryz.prog 76 #[.pointer (some ⟨g, 0, none⟩), .int .i64 n] w (NthR g wk b G n w) := by
  obtain ⟨A, k, hp⟩ := h.pl
  have HN := Lib.hid (fun w1 A k G (hh : PlAt w1 g wk A k b G) => wnone_any g wk A k b G w1 hh)
  have hgl := hp.blk.lt
  have hgb : g ≠ b := fun e => h.nb (e ▸ h.gG)
  have hbl := h.lz.lt
  have HGb := Lib.hid h.nb
  have HT := Lib.hid (fun w1 G (hh : PnAt w1 g wk b G) => total_any g wk b G w1 hh)
  have HG := Lib.hid (fun w1 G (hh : PnAt w1 g wk b G) => get_any g wk b G w1 hh)
  have HBs := Lib.hid (fun (F : Nat → Prop) A c x w1 (hr : Rd w1 F A (wk.length + 1) ((sumsN wk wk.length).map V64)) => bs64_any F A (wk.length + 1) c (sumsN wk wk.length) x w1 hr (sums_mono h.wk) (by have := h.wk.2.1; omega))
  have HPl := Lib.hid (fun i hi hs => nth_plain h.wk h0 hy hL0 hL hn (i := i) hi hs)
  have HH := Lib.hid h
  have HSL := Lib.hid (sumsN_len wk wk.length)
  have hlb := h.wk.len_bd
  obtain ⟨q0, q1, r0, r1⟩ := nth_quot h.wk h0 hy hL0 hn
  have hq2 : n / len wk ≤ 3723213977 := by omega
  have htd : n.tdiv (len wk) = n / len wk := Int.tdiv_eq_ediv_of_nonneg h0
  generalize len wk = y at *
  generalize n / y = q at *
  generalize hrr : n % y = r at *
  clear h hp hn q1 hL hL0
  have hyz : (y == 0) = false := by simp; omega
  go_enter Tryz.func76, Tryz.ntmps76
  go_wp2_with (first
    | (go_at_call 73; go_must (refine (HT.out _ _ (by exact HH.out)).mono ?_); rintro e w1 ⟨rfl, p1, t1⟩; have HP1 := Lib.hid p1; have HT1 := Lib.hid t1; obtain ⟨A1, k1, hp1⟩ := p1.pl; have HPl1 := Lib.hid hp1; have c1 := hp1.blk.cell 1; simp at c1; clear p1 t1 hp1)
    | (go_at_call 102; go_must (refine (HN.out _ _ _ _ (by exact HPl1.out)).mono ?_); rintro e w0 ⟨rfl, rfl⟩)
    | (go_at_call 103; go_must (refine (HG.out _ _ (by exact HP1.out)).mono ?_); rintro e w2 ⟨A2, c2, rfl, r2, p2, t2⟩; have HR2 := Lib.hid r2; have HP2 := Lib.hid p2; have HT2 := Lib.hid t2; clear r2 p2 t2)
    | (go_at_call 107; go_must (refine (HBs.out _ _ _ _ _ (by exact HR2.out)).mono ?_); rintro e w3 ⟨i, bl, hi, hs, rfl, rfl⟩; rw [HSL.out] at hi; have HI := Lib.hid (HPl.out i hi hs); clear hs))
  obtain ⟨i1, s, hs1, k4, k5, b0, b1, hfin⟩ := HI.out
  have HFin := Lib.hid hfin
  clear hfin HI
  obtain ⟨A3, k3, hp3⟩ := HP2.out.pl
  have d0 := hp3.blk.cell 0; have d1 := hp3.blk.cell 1
  simp at d0 d1
  have hgl3 := hp3.blk.lt
  obtain ⟨g4, o4, rfl, hg4, hG4, hc0, hc1⟩ := hp3.row.at_ hs1
  have hwl : wk.length ≤ 32 := HH.out.wk.2.1
  have hil : i - 1 < wk.length := (List.getElem?_eq_some_iff.1 hs1).1
  have hg4b : g4 ≠ b := fun e => HP2.out.nb (e ▸ hG4)
  have HZ := Lib.hid (fun F A n w (h : Rd w F A n ((sumsN wk wk.length).map V64)) => h.sum (i := i - 1) (by omega))
  generalize longS (wk.take (i - 1)) = z at *
  obtain ⟨f, t⟩ := s
  simp only at hc0 hc1 k4 k5 HFin
  clear hs1 hp3 hG4
  have hy0 : ¬ y = 0 := by omega
  have hwq : IntKind.i64.wrap q = q := IntWalk.i64_in _ (by omega)
  have hw1 : IntKind.i64.wrap (q * 604800) = q * 604800 := IntWalk.i64_in _ (by omega)
  have hw2 : IntKind.i64.wrap (q * 604800 + f) = q * 604800 + f := IntWalk.i64_in _ (by omega)
  have hw3 : IntKind.i64.wrap (q * 604800 + f + r) = q * 604800 + f + r := IntWalk.i64_in _ (by omega)
  have hw4 : IntKind.i64.wrap (q * 604800 + f + r - z) = q * 604800 + f + r - z := IntWalk.i64_in _ (by omega)
  have hwi : IntKind.i64.wrap ((i : Int) - 1) = ((i - 1 : Nat) : Int) := by rw [IntWalk.i64_in _ (by omega)]; omega
  refine wp_region_plan [(0, 16), (0, 17), (0, 18), (0, 19), (1, 0), (1, 1), (1, 2), (1, 3), (1, 4), (1, 5), (1, 6), (1, 7), (1, 8), (1, 9), (1, 10), (1, 11), (1, 12), (1, 13), (1, 14), (1, 15), (1, 21), (1, 22), (2, 20), (0, 23), (0, 24), (0, 25), (0, 26)] (fun q => q = b) (by kernel_rfl) (by kernel_rfl) (fun c a d v w h => by cases d <;> exact h) ?_
  iterate 4
    refine plan_s1 rfl (by rfl) (fun Kc hKc => ?_)
    go_simp
    first
      | (refine hKc _ ?_)
    clear hKc Kc
  iterate 18
    apply plan_h
    · rfl
    · rfl
    · intro wh hT
      have hf0 := (hT.cell (p := ⟨g, 0, none⟩) hgl3 hgb).trans d0
      have hf1 := (hT.cell (p := ⟨g4, o4 + (i - 1) * 2, none⟩) hg4 hg4b).trans hc0
      go_simp
      try rfl
    go_frame
  refine plan_a1 rfl (by rfl) (fun Kc hKc => ?_)
  go_simp
  refine (HG.out _ _ (by exact HP2.out.drew)).mono ?_
  rintro e w4 ⟨A5, c5, rfl, r5, p5, t5⟩
  refine hKc _ _ ⟨t5, ?_⟩
  clear hKc Kc
  obtain ⟨g6, o6, rfl, -, hx6⟩ := HZ.out _ _ _ _ r5
  have HP5 := Lib.hid p5
  have HT5 := Lib.hid t5
  clear r5 p5 t5
  have hlt : ((i - 1 : Nat) : Int) < (wk.length : Int) + 1 := by omega
  have hl0 : (0 : Int) ≤ ((i - 1 : Nat) : Int) := by omega
  iterate 4
    refine plan_s1 rfl (by rfl) (fun Kc hKc => ?_)
    go_simp
    first
      | (refine hKc _ ?_)
    clear hKc Kc
  refine plan_done ?_
  clear hlt hl0 hwq hw1 hw2 hw3 hw4 hwi
  obtain ⟨x, hx⟩ : ∃ x, x = q * 604800 + f + r - z := ⟨_, rfl⟩
  obtain ⟨y1, y2, y3, y4⟩ := HFin.out x hx
  have HX := Lib.hid (And.intro y1 (And.intro y2 (And.intro y3 y4)))
  rw [← hx]
  clear y3 y4 hx
  go_wp2
  go_ret2
  obtain ⟨y1, y2, y3, y4⟩ := HX.out
  have s1 := HT1.out.size
  have s2 := HT2.out.size
  have s5 : w2.heap.size ≤ w4.heap.size := HT5.out.size
  exact ⟨x, rfl, y1, y2, y3, y4, ((HP5.out.more2 (w := w1) s2 s5 HP1.out.nb HP1.out.lz.lt).more2 s1 (Nat.le_trans s2 s5) HGb.out hbl), ((HT1.out.trans HT2.out (fun _ _ e => e)).drew.trans HT5.out (fun _ _ e => e))⟩
end Go.Proofs.YtlcefchbfjfifaaGreat
end

section
namespace Go.Proofs.YtlcefchbfjfifaaGreat
open Go.RowKit Cal
set_option maxHeartbeats 4000000
set_option maxRecDepth 100000
set_option linter.unusedVariables false

theorem KeepT.of_grown {W W' : World} {row : Option Nat} (hg : W.grownBy W' row) (hr : ∀ r, row = some r → ∃ o : Obj, W.heap[r]? = some o ∧ o.isCells = false) : KeepT (fun _ => False) W W' :=
  ⟨hg.size, fun k o hk hc _ => (grownBy_keeps_cells hg hr hk hc).trans hk⟩
section
variable {w w' : World} {F G T : Nat → Prop}
theorem SpR.keep {A : Option Addr} {n : Nat} {l : List Sp} (h : SpR w F A n l) (hk : KeepT T w w') (hF : ∀ q, F q → ¬ T q) : SpR w' F A n l :=
  ⟨h.1, h.2.1, fun hn => by
    obtain ⟨g, off, e, hl, hf, hc⟩ := h.2.2 hn
    exact ⟨g, off, e, Nat.lt_of_lt_of_le hl hk.1, hf, fun j u hj => hk.cell (hF g hf) (hc j u hj)⟩⟩
theorem Rd.keep {A : Option Addr} {n : Nat} {xs : List Value} (h : Rd w F A n xs) (hk : KeepT T w w') (hF : ∀ q, F q → ¬ T q) : Rd w' F A n xs :=
  ⟨h.1, fun hn => by
    obtain ⟨g, off, e, hl, hf, hc⟩ := h.2 hn
    exact ⟨g, off, e, Nat.lt_of_lt_of_le hl hk.1, hf, fun j u hj => hk.cell (hF g hf) (hc j u hj)⟩⟩
theorem CkAt.keep {k a p b : Nat} {c : Ca} (h : CkAt w k a p b c G) (hk : KeepT T w w') (hb : ¬ T b) (hG : ∀ q, G q → ¬ T q) : CkAt w' k a p b c G := by
  obtain ⟨B, m, ha⟩ := h.al
  obtain ⟨A, n, hp⟩ := h.pn.pl
  refine ⟨hk.blk h.blk (hG _ h.gk), ⟨B, m, ha.keep (hG _ h.ga) hG hk⟩, ⟨⟨A, n, hk.blk hp.blk (hG _ h.pn.gG), hp.row.keep hk hG⟩, ?_, h.pn.gG, h.pn.nb, h.pn.wk⟩, h.gk, h.ga, h.ok⟩
  rcases h.pn.lz with ⟨sm, ak, h1⟩ | ⟨sm, ak, A', c', h1, h2⟩
  · exact .inl ⟨sm, ak, hk.blk h1 hb⟩
  · exact .inr ⟨sm, ak, A', c', hk.blk h1 hb, h2.keep hk hG⟩
/-- Only what lies there already. -/
theorem CkAt.shrink {k a p b : Nat} {c : Ca} (h : CkAt w k a p b c G) : CkAt w k a p b c (fun q => G q ∧ q < w.heap.size) := by
  obtain ⟨B, m, ha⟩ := h.al
  obtain ⟨A, n, hp⟩ := h.pn.pl
  refine ⟨h.blk, ⟨B, m, ha.blk, ha.row.near⟩, ⟨⟨A, n, hp.blk, hp.row.near⟩, ?_, ⟨h.pn.gG, hp.blk.lt⟩, fun e => h.nb e.1, h.pn.wk⟩, ⟨h.gk, h.blk.lt⟩, ⟨h.ga, ha.blk.lt⟩, h.ok⟩
  rcases h.pn.lz with ⟨sm, ak, h1⟩ | ⟨sm, ak, A', c', h1, h2⟩
  · exact .inl ⟨sm, ak, h1⟩
  · exact .inr ⟨sm, ak, A', c', h1, h2.near_⟩
end
/-- What Due has between two rounds: v is what is left of the budget; r0, r1 the results. -/
structure DueI (w wL : World) (k a p b : Nat) (c : Ca) (GL : Nat → Prop) (v r0 r1 : Int) (W : World) : Prop where
  kb : Blk W w.heap.size 80 #[.pointer (some ⟨k, 0, none⟩)]
  bb : Blk W (w.heap.size + 1) 2 #[.int .i64 v]
  c0 : Blk W (w.heap.size + 2) 2 #[.int .i64 r0]
  c1 : Blk W (w.heap.size + 3) 27 #[.int .i64 r1]
  ck : CkAt W k a p b c (More GL wL W)
  t : Touch (fun q => q = b) w W
  sz : wL.heap.size ≤ W.heap.size
/-- The blocks that the loop's body writes. -/
def DueT (w : World) (b : Nat) : Nat → Prop := fun q => q = b ∨ (w.heap.size + 1 ≤ q ∧ q ≤ w.heap.size + 3)
section
variable {w wL W W' : World} {k a p b : Nat} {c : Ca} {GL S : Nat → Prop} {v r0 r1 : Int}
theorem DueI.touch (h : DueI w wL k a p b c GL v r0 r1 W) (ht : Touch (fun _ => False) W W') : DueI w wL k a p b c GL v r0 r1 W' := by
  have hs := ht.size
  refine ⟨ht.blk h.kb (fun e => e), ht.blk h.bb (fun e => e), ht.blk h.c0 (fun e => e), ht.blk h.c1 (fun e => e), ?_, h.t.trans ht (fun _ _ e => e.elim), Nat.le_trans h.sz hs⟩
  refine (h.ck.none ht).grow (fun q hq => ?_) (fun e => ?_)
  · rcases hq with hq | hq
    · exact .inl hq
    · exact .inr (by omega)
  · rcases e with e | e
    · exact h.ck.nb (.inl e)
    · have := h.ck.bl; exact h.ck.nb (.inr (by omega))
theorem DueI.rebase (h : DueI w wL k a p b c GL v r0 r1 W) (hbw : b < w.heap.size) (hw : w.heap.size ≤ wL.heap.size) (hn : ¬ GL b) : DueI w W k a p b c (More GL wL W) v r0 r1 W :=
  ⟨h.kb, h.bb, h.c0, h.c1, h.ck.grow (fun q hq => .inl hq) (fun e => by
    rcases e with (e | e) | e
    · exact hn e
    · omega
    · omega), h.t, Nat.le_refl _⟩
theorem DueI.grown (h : DueI w wL k a p b c GL v r0 r1 W) (hw : w.heap.size ≤ wL.heap.size) {row : Option Nat} (hg : W.grownBy W' row) (hr : ∀ r, row = some r → wL.heap.size ≤ r ∧ ∃ o : Obj, W.heap[r]? = some o ∧ o.isCells = false) : DueI w wL k a p b c GL v r0 r1 W' := by
  have hk := KeepT.of_grown hg (fun r e => (hr r e).2)
  have hs := hk.1
  refine ⟨hk.blk h.kb (fun e => e), hk.blk h.bb (fun e => e), hk.blk h.c0 (fun e => e), hk.blk h.c1 (fun e => e), ?_, ?_, Nat.le_trans h.sz hs⟩
  · refine (h.ck.keep hk (fun e => e) (fun _ _ e => e)).grow (fun q hq => ?_) (fun e => ?_)
    · rcases hq with hq | hq
      · exact .inl hq
      · exact .inr (by omega)
    · rcases e with e | e
      · exact h.ck.nb (.inl e)
      · have := h.ck.bl; exact h.ck.nb (.inr (by omega))
  · refine h.t.trans (S' := fun q => wL.heap.size ≤ q) ⟨hg.os, hg.tape, hg.output, hg.size, fun q hq hn => hg.block q hq (fun e => hn (hr q e.symm).1)⟩ (fun q hq e => by omega)
/-- Behind a call that may have filled the lazy cell. -/
theorem DueI.get (h : DueI w wL k a p b c GL v r0 r1 W) (hbw : b < w.heap.size) (ht : Touch (fun q => q = b) W W') (hc : CkAt W' k a p b c (More (More GL wL W) W W')) : DueI w wL k a p b c GL v r0 r1 W' := by
  have hs := ht.size
  exact ⟨ht.blk h.kb (by omega), ht.blk h.bb (by omega), ht.blk h.c0 (by omega), ht.blk h.c1 (by omega), hc.grow (more_trans h.sz hs) (fun e => by
    rcases e with e | e
    · exact h.ck.nb (.inl e)
    · have := h.ck.bl; exact h.ck.nb (.inr (by omega))), h.t.trans ht (fun _ _ e => e), Nat.le_trans h.sz hs⟩
theorem DueI.setB (h : DueI w wL k a p b c GL v r0 r1 W) (hG : ∀ q, GL q → ¬ DueT w b q) (hw : w.heap.size + 4 ≤ wL.heap.size) (hbw : b < w.heap.size) (v' : Int) : DueI w wL k a p b c GL v' r0 r1 (W.setCell ⟨w.heap.size + 1, 0, none⟩ (.int .i64 v')) := by
  have ht : Touch (fun q => q = w.heap.size + 1) W (W.setCell ⟨w.heap.size + 1, 0, none⟩ (.int .i64 v')) := (Touch.refl (fun q => q = w.heap.size + 1) W).set (fun _ => rfl) _
  have hM : ∀ q, More GL wL W q → ¬ q = w.heap.size + 1 := fun q hq e => by
    rcases hq with hq | hq
    · exact hG q hq (.inr (by omega))
    · omega
  refine ⟨ht.blk h.kb (by omega), by simpa using h.bb.set_ 0 (.int .i64 v'), ht.blk h.c0 (by omega), ht.blk h.c1 (by omega), ?_, h.t.set (fun e => by omega) _, by simpa using h.sz⟩
  rw [show More GL wL (W.setCell ⟨w.heap.size + 1, 0, none⟩ (.int .i64 v')) = More GL wL W by funext q; simp [More]]
  exact h.ck.touch ht (by omega) hM
theorem DueI.setR (h : DueI w wL k a p b c GL v r0 r1 W) (hG : ∀ q, GL q → ¬ DueT w b q) (hw : w.heap.size + 4 ≤ wL.heap.size) (hbw : b < w.heap.size) (d e : Int) : DueI w wL k a p b c GL v d e ((W.setCell ⟨w.heap.size + 2, 0, none⟩ (.int .i64 d)).setCell ⟨w.heap.size + 3, 0, none⟩ (.int .i64 e)) := by
  have ht : Touch (fun q => w.heap.size + 2 ≤ q ∧ q ≤ w.heap.size + 3) W ((W.setCell ⟨w.heap.size + 2, 0, none⟩ (.int .i64 d)).setCell ⟨w.heap.size + 3, 0, none⟩ (.int .i64 e)) := ((Touch.refl (fun q => w.heap.size + 2 ≤ q ∧ q ≤ w.heap.size + 3) W).set (fun _ => by omega) _).set (fun _ => by omega) _
  have hM : ∀ q, More GL wL W q → ¬ (w.heap.size + 2 ≤ q ∧ q ≤ w.heap.size + 3) := fun q hq e => by
    rcases hq with hq | hq
    · exact hG q hq (.inr (by omega))
    · omega
  refine ⟨ht.blk h.kb (by omega), ht.blk h.bb (by omega), ?_, ?_, ?_, (h.t.set (fun e => by omega) _).set (fun e => by omega) _, by simpa using h.sz⟩
  · have := (h.c0.set_ 0 (.int .i64 d)).far (p := ⟨w.heap.size + 3, 0, none⟩) (by simp) (.int .i64 e)
    simpa using this
  · have := (h.c1.far (p := ⟨w.heap.size + 2, 0, none⟩) (by simp) (.int .i64 d)).set_ 0 (.int .i64 e)
    simpa using this
  · rw [show More GL wL ((W.setCell ⟨w.heap.size + 2, 0, none⟩ (.int .i64 d)).setCell ⟨w.heap.size + 3, 0, none⟩ (.int .i64 e)) = More GL wL W by funext q; simp [More]]
    exact h.ck.touch ht (by omega) hM
end
end Go.Proofs.YtlcefchbfjfifaaGreat
end
