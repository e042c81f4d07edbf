/- The walk of QuillBack: what was written is read as it was. -/
import Derived.Test.YtomapfklpoijbaaQuillPW
import Derived.Test.YtomapfklpoijbaaQuillLaw
namespace Go.Proofs.Ytomapfklpoijbaa
open Go.RowKit Go.ChangeShapes Go.WideShapes Go.Deep
set_option maxHeartbeats 4000000
set_option maxRecDepth 100000
set_option linter.unusedVariables false

theorem Rd.within {w : World} {F : Nat → Prop} {A : Option Addr} {n : Nat} {xs : List Value} (h : Rd w F A n xs) : Rd w (fun k => F k ∧ k < w.heap.size) A n xs :=
  ⟨h.1, fun hn => by
    obtain ⟨g, off, e, hl, hF, hc⟩ := h.2 hn
    exact ⟨g, off, e, hl, ⟨hF, hl⟩, hc⟩⟩
theorem rdlen {w : World} {g : Nat} {F : Nat → Prop} {l : List UInt8} {bad : Bool} (h : RdAt w g F l bad) : True := trivial
theorem encItems_drop (xs : List ItemV) (j : Nat) (hj : j < xs.length) : (xs.drop j).flatMap encItem = encItem xs[j] ++ (xs.drop (j + 1)).flatMap encItem := by
  rw [List.drop_eq_getElem_cons hj, List.flatMap_cons]

theorem back_lives (A0 : Option Addr) (n0 c0 : Nat) (xs : List ItemV) (w : World) (hL : Calls Try.prog 44 #[.slice A0 n0 c0] w fun e w' => e = .returned (.bool (lightB xs)) ∧ Touch (fun _ => False) w w')
    (h : lightB xs = false) :
    Calls Try.prog 11 #[.slice A0 n0 c0] w fun e w' => e = .returned (.bool true) ∧ Below w.heap.size w w' := by
  rw [h] at hL
  have HL := Lib.hid hL
  have HV := Lib.hid lives01_any
  clear hL h
  go_enter Try.func11, Try.ntmps11
  go_wp2_with (first
    | (go_at_call 44; go_must (refine HL.out.mono ?_); rintro e w1 ⟨rfl, t1⟩; have HT := Lib.hid t1; clear t1)
    | (go_at_call 35; go_must (refine (HV.out _).mono ?_); rintro e w2 ⟨rfl, t2⟩; have HT2 := Lib.hid t2; clear t2))
  go_ret
  exact ⟨rfl, (HT.out.trans HT2.out (fun _ _ e => e)).below⟩

theorem walk_QuillBack {w : World} (A0 : Option Addr) (n0 c0 : Nat) (xs : List ItemV) (e0 : xs.length = n0) (o0 : ∀ a ∈ xs, a.wf) (z0 : ∀ a ∈ xs, a.cells.length = 5) (g0 : A0 = none → c0 = 0) (u0 : n0 ≤ c0) (m0 : c0 ≤ maxLen) (s0 : RdZ w (fun k => k < w.heap.size) 5 A0 n0 (xs.flatMap ItemV.cells)) :
    Calls Try.prog 11 #[.slice A0 n0 c0] w fun e w' => e = .returned (.bool true) ∧ Below w.heap.size w w' := by
  unfold maxLen at m0
  have hL := light_any A0 n0 c0 xs w e0 o0 z0 (by omega) s0
  by_cases hcase : lightB xs = false
  · exact back_lives A0 n0 c0 xs w hL hcase
  have hlt : lightB xs = true := by simpa using hcase
  rw [hlt] at hL
  obtain ⟨hx1, hx2⟩ := light_ok hlt o0
  have HL := Lib.hid hL
  have HV := Lib.hid lives01_any
  have HS0 := Lib.hid s0
  have HX2 := Lib.hid hx2
  have HZ0 := Lib.hid z0
  have HE0 := Lib.hid e0
  have hn0 : n0 ≤ 200 := by omega
  clear hL hcase hlt s0 hx2 z0 o0 e0 g0 m0 u0 hx1
  go_enter Try.func11, Try.ntmps11
  go_wp2_with (first
    | (go_at_call 44; go_must (refine HL.out.mono ?_); rintro e w1 ⟨rfl, t1⟩; have HT := Lib.hid t1; have hs1 := t1.size; clear t1))
  have HT0 := Lib.hid (HT.out.alloc (.cells #[.slice none 0 0] 83))
  have HW0 := Lib.hid (show WAt (w1.alloc (.cells #[.slice none 0 0] 83)) w1.heap.size none [] from ⟨by simp, _, Blk.new w1 83 #[.slice none 0 0], Own.nil _ _ _⟩)
  go_loopw [16] (fun i wx => ∃ j : Nat, j ≤ n0 ∧ i = .int .i64 j ∧ (∃ r, WAt wx w1.heap.size r ((xs.take j).flatMap encItem) ∧ ∀ k, r = some k → w1.heap.size ≤ k) ∧ Touch (fun _ => False) w wx) (fun i _ => n0 - (intOf i).toNat)
  case atStart => exact ⟨0, by omega, rfl, ⟨none, by simpa using HW0.out, by simp⟩, HT0.out⟩
  case round =>
    obtain ⟨j, hj, rfl, ⟨r, hw, hrg⟩, hT⟩ := hrel
    have HTr := Lib.hid hT
    have HW := Lib.hid hw
    have HG := Lib.hid hrg
    by_cases hjk : j < n0
    · have ha : xs[j]? = some (xs[j]'(by rw [HE0.out]; exact hjk)) := List.getElem?_eq_getElem _
      have hmem := List.mem_of_getElem? ha
      obtain ⟨a, off, rfl, _, _, hc⟩ := (HS0.out.touch HTr.out (fun _ _ e => e)).at_ HZ0.out HE0.out ha
      have hok := HX2.out _ hmem
      have HTk := Lib.hid (encItems_take xs j (by rw [HE0.out]; exact hjk))
      have hlen : ((xs.take j).flatMap encItem).length ≤ 1009 * 200 := by
        have h1 := encItems_len (xs.take j) (fun x hx => HX2.out x (List.mem_of_mem_take hx))
        have h2 : (xs.take j).length ≤ 200 := by rw [List.length_take]; omega
        omega
      clear hmem
      generalize xs[j]'(by rw [HE0.out]; exact hjk) = x at *
      have q0 := hc 0 _ rfl
      have q1 := hc 1 _ rfl
      have q2 := hc 2 _ rfl
      have q3 := hc 3 _ rfl
      have q4 := hc 4 _ rfl
      simp only [Nat.add_zero, ← Nat.add_assoc] at q0 q1 q2 q3 q4
      have HOK := Lib.hid hok
      have HTi := Lib.hid ((Touch.refl (fun _ => False) wr).alloc (.cells #[.int .i64 x.kind, .int .u64 x.num, .int .i64 x.int, .bool x.flag, .string x.text] 92))
      clear hc ha hw hrg hok hT
      generalize (xs.take j).flatMap encItem = l at *
      go_wp2_with (first
        | (go_at_call 45
           go_must (refine (write_any w1.heap.size r l x _ (by exact HW.out.touch HTi.out (fun e => e) (fun _ _ e => e)) HOK.out (by omega)).mono ?_)
           rintro e w2 ⟨A4, c4, r4, rfl, hA4, hc41, hc42, hrd4, hw4, ht4, hf4⟩
           have HR4 := Lib.hid (And.intro hw4 (And.intro ht4 hf4))
           clear hrd4 hw4 ht4 hf4 hA4))
      go_roundw
      case rel =>
        obtain ⟨hw4, ht4, hf4⟩ := HR4.out
        have hwl := HW.out.lt
        refine ⟨j + 1, by omega, by go_num, ⟨r4, by rw [HTk.out]; exact hw4, fun k hk => ?_⟩, (HTr.out.trans HTi.out (fun _ _ e => e)).trans ht4 (fun k hk e => ?_)⟩
        · rcases hf4 with e | ⟨q, e, hq⟩
          · exact HG.out k (by rw [← e]; exact hk)
          · rw [e] at hk; injection hk with hk; simp at hq; omega
        · rcases e with e | e
          · omega
          · have := HG.out k e; omega
      case measure => simp [intOf]; omega
    · obtain rfl : n0 = j := by omega
      have hall : xs.take n0 = xs := by rw [← HE0.out, List.take_length]
      have hlen : (xs.flatMap encItem).length ≤ 1009 * 200 := by
        have h1 := encItems_len xs (fun x hx => HX2.out x hx)
        have h2 := HE0.out
        omega
      rw [hall] at hw
      have HW := Lib.hid hw
      clear hall hw hrg hT
      generalize hLx : xs.flatMap encItem = L at *
      have HLx := Lib.hid hLx
      clear hLx
      have hwb := HTr.out.size
      go_wp2_with (first
        | (go_at_call 42
           go_must (refine (wbytes_any w1.heap.size r _ _ (by exact HW.out) (by omega)).mono ?_)
           rintro e w3 ⟨A3, c3, rfl, hn3, hc3, hr3, t3⟩
           rw [List.length_map] at hn3
           have HR3 := Lib.hid (show Rd w3 (fun k => wr.heap.size ≤ k ∧ k < w3.heap.size) A3 (L).length ((L).map B8) from by have := hr3.within; rw [List.length_map] at this; exact this)
           have HT3 := Lib.hid (HTr.out.trans t3 (fun _ _ e => e))
           have hs3 := t3.size
           clear hr3 t3)
        | (go_at_call 36
           go_must (refine (open_any _ _ _ _).mono ?_)
           rintro e w4 ⟨rfl, rfl⟩))
      have HT4 := Lib.hid (HT3.out.alloc (.cells #[.slice A3 (L).length c3, .bool false] 110))
      have HRA := Lib.hid (show RdAt (w3.alloc (.cells #[.slice A3 (L).length c3, .bool false] 110)) w3.heap.size (fun k => wr.heap.size ≤ k ∧ k < w3.heap.size) (L) false from
        ⟨fun h => by omega, A3, c3, hn3, hc3, Blk.new w3 110 _, HR3.out.touch ((Touch.refl (fun _ => False) w3).alloc _) (fun _ _ e => e)⟩)
      have hs4 := HT4.out.size
      obtain ⟨F, hF⟩ : ∃ F : Nat → Prop, (fun k => wr.heap.size ≤ k ∧ k < w3.heap.size) = F := ⟨_, rfl⟩
      rw [hF] at HRA
      have hFl : ∀ k, F k → w.heap.size ≤ k ∧ k < w3.heap.size := fun k hk => by rw [← hF] at hk; exact ⟨by omega, hk.2⟩
      have HFl := Lib.hid hFl
      clear hF hFl
      go_loopw [27] (fun i wx => ∃ j : Nat, j ≤ n0 ∧ i = .int .i64 j ∧ RdAt wx w3.heap.size F ((xs.drop j).flatMap encItem) false ∧ Touch (fun _ => False) w wx) (fun i _ => n0 - (intOf i).toNat)
      case atStart => exact ⟨0, by omega, rfl, by rw [List.drop_zero, HLx.out]; exact HRA.out, HT4.out⟩
      case round =>
        obtain ⟨jb, hjb, rfl, hR, hTb⟩ := hrel
        have HTb := Lib.hid hTb
        have HR := Lib.hid hR
        clear hR hTb
        by_cases hjkb : jb < n0
        · have ha : xs[jb]? = some (xs[jb]'(by rw [HE0.out]; exact hjkb)) := List.getElem?_eq_getElem _
          have hmem := List.mem_of_getElem? ha
          obtain ⟨a, off, rfl, _, _, hc⟩ := (HS0.out.touch HTb.out (fun _ _ e => e)).at_ HZ0.out HE0.out ha
          have hok := HX2.out _ hmem
          have HTk := Lib.hid (encItems_drop xs jb (by rw [HE0.out]; exact hjkb))
          clear hmem
          generalize xs[jb]'(by rw [HE0.out]; exact hjkb) = x at *
          have q0 := hc 0 _ rfl
          have q1 := hc 1 _ rfl
          have q2 := hc 2 _ rfl
          have q3 := hc 3 _ rfl
          have q4 := hc 4 _ rfl
          simp only [Nat.add_zero, ← Nat.add_assoc] at q0 q1 q2 q3 q4
          obtain ⟨x1, x2, x3, x4⟩ := hok
          obtain ⟨K, num, int, flag, text⟩ := x
          simp only at q0 q1 q2 q3 q4 x1 x2 x3 x4
          have hR2 := HR.out
          rw [HTk.out] at hR2
          have hgw : w3.heap.size < wr.heap.size := by obtain ⟨_, _, _, _, _, hb, _⟩ := hR2; exact hb.lt
          have hnum : num < 18446744073709551616 := by simpa using x1
          have HXs := Lib.hid (And.intro x1 (And.intro x2 (And.intro x3 x4)))
          have htx : text.size ≤ 9223372036854775807 := by omega
          have hwx := HTb.out.size
          clear hc ha x1
          have hdl := encItems_len (xs.drop jb) (fun x hx => HX2.out x (List.mem_of_mem_drop hx))
          have hdl2 : (xs.drop jb).length ≤ 200 := by rw [List.length_drop]; have := HE0.out; omega
          rw [HTk.out] at hdl
          have HDL := Lib.hid (show (encItem ⟨K, num, int, flag, text⟩ ++ (xs.drop (jb + 1)).flatMap encItem).length ≤ 201800 from by omega)
          clear hdl hdl2
          generalize hrs : (xs.drop (jb + 1)).flatMap encItem = rest at *
          have HRest := Lib.hid hrs
          clear hrs
          by_cases hK1 : K = 1
          · subst hK1
            have HE := Lib.hid (show encItem ⟨1, num, int, flag, text⟩ = encI int from by simp [encItem])
            have HTi := Lib.hid ((Touch.refl (fun _ => False) wr).alloc (.cells #[.int .i64 1, .int .u64 num, .int .i64 int, .bool flag, .string text] 92))
            rw [HE.out] at hR2
            have HR2 := Lib.hid (rdAt_touch hR2 HTi.out (fun e => e) (fun _ _ e => e))
            have hll : (encI int ++ rest).length ≤ 201800 := by rw [← HE.out]; exact HDL.out
            have HB := Lib.hid (Blk.new wr 92 #[.int .i64 1, .int .u64 num, .int .i64 int, .bool flag, .string text])
            clear hR2
            go_wp2_with fail
            refine wp_region_plan [(0, 0), (1, 2), (1, 3), (2, 1), (0, 4), (0, 5)] (fun k => k = w3.heap.size) (by kernel_rfl) (by kernel_rfl) (fun c a d v w h => by cases d <;> exact h) ?_
            iterate 1
              first
                | (refine plan_s1 rfl (by rfl) (fun Kc hKc => ?_)
                   go_simp
                   first
                     | (refine hKc _ ?_)
                   clear hKc Kc)
                | (refine plan_s0 rfl (by rfl) ?_; go_frame)
            iterate 2
              first
                | (apply plan_h
                   · rfl
                   · rfl
                   · intro wh hT
                     have hf0 := (Touch.blk hT (by exact HB.out) (fun e => by omega)).cell 2
                     have hf1 := (by simp at hf0; exact hf0 : wh.cell? ⟨wr.heap.size, 2, none⟩ = some (.int .i64 int))
                     go_simp
                     try rfl
                   go_frame)
                | (refine plan_hn rfl (by rfl) ?_; go_frame)
            refine plan_a1 rfl (by rfl) (fun Kc hKc => ?_)
            go_simp
            refine (int_any w3.heap.size F false _ _ (by exact HR2.out)).mono ?_
            rintro e w5 ⟨rfl, k5, t5⟩
            refine hKc _ _ ⟨t5, ?_⟩
            clear hKc Kc
            obtain ⟨y1, y2, y3⟩ := written_readI int false rest HXs.out.2.1 HXs.out.2.2.1
            rw [y2, y3] at k5
            have hy := y1
            have HR5 := Lib.hid k5
            have HT5 := Lib.hid t5
            obtain ⟨_, A6, c6, _, _, hb6, _⟩ := k5
            have HB5 := Lib.hid hb6
            clear t5 hb6
            iterate 2
              first
                | (refine plan_s1 rfl (by rfl) (fun Kc hKc => ?_)
                   go_simp
                   first
                     | (refine hKc _ ?_)
                   clear hKc Kc)
                | (refine plan_s0 rfl (by rfl) ?_; go_frame)
            refine plan_done ?_
            go_wp2_with (first
              | (go_at_call 41; go_must (refine (bad_any _ _ _ _ _ _ (by exact HB5.out)).mono ?_); rintro e w6 ⟨rfl, rfl⟩))
            go_roundw
            case rel => exact ⟨jb + 1, by omega, by go_num, by rw [HRest.out]; exact HR5.out, (HTb.out.trans HTi.out (fun _ _ e => e)).drew.trans HT5.out (fun k hk e => by omega)⟩
            case measure => simp [intOf]; omega
          by_cases hK2 : K = 2
          · subst hK2
            have HE := Lib.hid (show encItem ⟨2, num, int, flag, text⟩ = encN 0 (if flag then 1 else 0) from by cases flag <;> simp [encItem, encF])
            have HTi := Lib.hid ((Touch.refl (fun _ => False) wr).alloc (.cells #[.int .i64 2, .int .u64 num, .int .i64 int, .bool flag, .string text] 92))
            rw [HE.out] at hR2
            have HR2 := Lib.hid (rdAt_touch hR2 HTi.out (fun e => e) (fun _ _ e => e))
            have hll : (encN 0 (if flag then 1 else 0) ++ rest).length ≤ 201800 := by rw [← HE.out]; exact HDL.out
            have HB := Lib.hid (Blk.new wr 92 #[.int .i64 2, .int .u64 num, .int .i64 int, .bool flag, .string text])
            clear hR2
            go_wp2_with fail
            refine wp_region_plan [(0, 0), (1, 2), (1, 3), (2, 1), (0, 4), (0, 5)] (fun k => k = w3.heap.size) (by kernel_rfl) (by kernel_rfl) (fun c a d v w h => by cases d <;> exact h) ?_
            iterate 1
              first
                | (refine plan_s1 rfl (by rfl) (fun Kc hKc => ?_)
                   go_simp
                   first
                     | (refine hKc _ ?_)
                   clear hKc Kc)
                | (refine plan_s0 rfl (by rfl) ?_; go_frame)
            iterate 2
              first
                | (apply plan_h
                   · rfl
                   · rfl
                   · intro wh hT
                     have hf0 := (Touch.blk hT (by exact HB.out) (fun e => by omega)).cell 3
                     have hf1 := (by simp at hf0; exact hf0 : wh.cell? ⟨wr.heap.size, 3, none⟩ = some (.bool flag))
                     go_simp
                     try rfl
                   go_frame)
                | (refine plan_hn rfl (by rfl) ?_; go_frame)
            refine plan_a1 rfl (by rfl) (fun Kc hKc => ?_)
            go_simp
            refine (flag_any w3.heap.size F false _ _ (by exact HR2.out)).mono ?_
            rintro e w5 ⟨rfl, k5, t5⟩
            refine hKc _ _ ⟨t5, ?_⟩
            clear hKc Kc
            have y := written_read 1 (if flag then 1 else 0) false rest (by split <;> omega) (by split <;> omega)
            rw [y] at k5
            rw [y]
            have hy : (((if flag then 1 else 0 : Nat) == 1)) = flag := by cases flag <;> rfl
            have HR5 := Lib.hid k5
            have HT5 := Lib.hid t5
            obtain ⟨_, A6, c6, _, _, hb6, _⟩ := k5
            have HB5 := Lib.hid hb6
            clear t5 hb6
            iterate 2
              first
                | (refine plan_s1 rfl (by rfl) (fun Kc hKc => ?_)
                   go_simp
                   first
                     | (refine hKc _ ?_)
                   clear hKc Kc)
                | (refine plan_s0 rfl (by rfl) ?_; go_frame)
            refine plan_done ?_
            go_wp2_with (first
              | (go_at_call 41; go_must (refine (bad_any _ _ _ _ _ _ (by exact HB5.out)).mono ?_); rintro e w6 ⟨rfl, rfl⟩))
            go_roundw
            case rel => exact ⟨jb + 1, by omega, by go_num, by rw [HRest.out]; exact HR5.out, (HTb.out.trans HTi.out (fun _ _ e => e)).drew.trans HT5.out (fun k hk e => by omega)⟩
            case measure => simp [intOf]; omega
          by_cases hK3 : K = 3
          · subst hK3
            have HE := Lib.hid (show encItem ⟨3, num, int, flag, text⟩ = encT text from by simp [encItem])
            have HTi := Lib.hid ((Touch.refl (fun _ => False) wr).alloc (.cells #[.int .i64 3, .int .u64 num, .int .i64 int, .bool flag, .string text] 92))
            rw [HE.out] at hR2
            have HR2 := Lib.hid (rdAt_touch hR2 HTi.out (fun e => e) (fun _ _ e => e))
            have hll : (encT text ++ rest).length ≤ 201800 := by rw [← HE.out]; exact HDL.out
            have HB := Lib.hid (Blk.new wr 92 #[.int .i64 3, .int .u64 num, .int .i64 int, .bool flag, .string text])
            clear hR2
            go_wp2_with fail
            refine wp_region_plan [(0, 0), (0, 1), (0, 2), (0, 3), (1, 5), (1, 6), (2, 4), (0, 7), (0, 8)] (fun k => k = w3.heap.size) (by kernel_rfl) (by kernel_rfl) (fun c a d v w h => by cases d <;> exact h) ?_
            iterate 4
              first
                | (refine plan_s1 rfl (by rfl) (fun Kc hKc => ?_)
                   go_simp
                   first
                     | (refine hKc _ ?_)
                   clear hKc Kc)
                | (refine plan_s0 rfl (by rfl) ?_; go_frame)
            iterate 2
              first
                | (apply plan_h
                   · rfl
                   · rfl
                   · intro wh hT
                     have hf0 := (Touch.blk hT (by exact HB.out) (fun e => by omega)).cell 4
                     have hf1 := (by simp at hf0; exact hf0 : wh.cell? ⟨wr.heap.size, 4, none⟩ = some (.string text))
                     go_simp
                     try rfl
                   go_frame)
                | (refine plan_hn rfl (by rfl) ?_; go_frame)
            refine plan_a1 rfl (by rfl) (fun Kc hKc => ?_)
            go_simp
            refine (text_any w3.heap.size F false text.size _ _ (by exact HR2.out) (by omega) (by omega) (by omega)).mono ?_
            rintro e w5 ⟨rfl, k5, t5⟩
            refine hKc _ _ ⟨t5, ?_⟩
            clear hKc Kc
            have y := written_readT text text.size false rest (by have := HXs.out.2.2.2; omega) (by omega) (by omega)
            rw [y] at k5
            rw [y]
            have HR5 := Lib.hid k5
            have HT5 := Lib.hid t5
            obtain ⟨_, A6, c6, _, _, hb6, _⟩ := k5
            have HB5 := Lib.hid hb6
            clear t5 hb6
            iterate 2
              first
                | (refine plan_s1 rfl (by rfl) (fun Kc hKc => ?_)
                   go_simp
                   first
                     | (refine hKc _ ?_)
                   clear hKc Kc)
                | (refine plan_s0 rfl (by rfl) ?_; go_frame)
            refine plan_done ?_
            go_wp2_with (first
              | (go_at_call 41; go_must (refine (bad_any _ _ _ _ _ _ (by exact HB5.out)).mono ?_); rintro e w6 ⟨rfl, rfl⟩))
            go_roundw
            case rel => exact ⟨jb + 1, by omega, by go_num, by rw [HRest.out]; exact HR5.out, (HTb.out.trans HTi.out (fun _ _ e => e)).drew.trans HT5.out (fun k hk e => by omega)⟩
            case measure => simp [intOf]; omega
          by_cases hK4 : K = 4
          · subst hK4
            have HE := Lib.hid (show encItem ⟨4, num, int, flag, text⟩ = text.data.toList from by simp [encItem])
            have HTi := Lib.hid ((Touch.refl (fun _ => False) wr).alloc (.cells #[.int .i64 4, .int .u64 num, .int .i64 int, .bool flag, .string text] 92))
            rw [HE.out] at hR2
            have HR2 := Lib.hid (rdAt_touch hR2 HTi.out (fun e => e) (fun _ _ e => e))
            have hll : (text.data.toList ++ rest).length ≤ 201800 := by rw [← HE.out]; exact HDL.out
            have HB := Lib.hid (Blk.new wr 92 #[.int .i64 4, .int .u64 num, .int .i64 int, .bool flag, .string text])
            have hts : text.data.toList.length = text.size := Array.length_toList
            clear hR2
            go_wp2_with fail
            refine wp_region_plan [(0, 0), (0, 1), (0, 2), (0, 3), (1, 6), (1, 7), (2, 4), (0, 5), (0, 8), (0, 9)] (fun k => k = w3.heap.size) (by kernel_rfl) (by kernel_rfl) (fun c a d v w h => by cases d <;> exact h) ?_
            iterate 4
              first
                | (refine plan_s1 rfl (by rfl) (fun Kc hKc => ?_)
                   go_simp
                   first
                     | (refine hKc _ ?_)
                   clear hKc Kc)
                | (refine plan_s0 rfl (by rfl) ?_; go_frame)
            iterate 2
              first
                | (apply plan_h
                   · rfl
                   · rfl
                   · intro wh hT
                     have hf0 := (Touch.blk hT (by exact HB.out) (fun e => by omega)).cell 4
                     have hf1 := (by simp at hf0; exact hf0 : wh.cell? ⟨wr.heap.size, 4, none⟩ = some (.string text))
                     go_simp
                     try rfl
                   go_frame)
                | (refine plan_hn rfl (by rfl) ?_; go_frame)
            refine plan_a1 rfl (by rfl) (fun Kc hKc => ?_)
            go_simp
            refine (raw_ok w3.heap.size F false text.size _ _ (by exact HR2.out) (by rw [List.length_append, hts]; omega) (by omega)).mono ?_
            rintro e w5 ⟨A5, c5, rfl, _, _, r5, k5, t5⟩
            refine hKc _ _ ⟨t5, ?_⟩
            clear hKc Kc
            rw [← hts, List.take_left] at r5
            rw [← hts, List.drop_left] at k5
            have hs5 := Rd.str (n := text.size) (by rw [hts] at r5; exact r5) c5
            clear r5
            have HR5 := Lib.hid k5
            have HT5 := Lib.hid t5
            obtain ⟨_, A6, c6, _, _, hb6, _⟩ := k5
            have HB5 := Lib.hid hb6
            clear t5 hb6
            iterate 3
              first
                | (refine plan_s1 rfl (by rfl) (fun Kc hKc => ?_)
                   go_simp
                   first
                     | (refine hKc _ ?_)
                   clear hKc Kc)
                | (refine plan_s0 rfl (by rfl) ?_; go_frame)
            refine plan_done ?_
            go_wp2_with (first
              | (go_at_call 41; go_must (refine (bad_any _ _ _ _ _ _ (by exact HB5.out)).mono ?_); rintro e w6 ⟨rfl, rfl⟩))
            go_roundw
            case rel => exact ⟨jb + 1, by omega, by go_num, by rw [HRest.out]; exact HR5.out, (HTb.out.trans HTi.out (fun _ _ e => e)).drew.trans HT5.out (fun k hk e => by omega)⟩
            case measure => simp [intOf]; omega
          have HE := Lib.hid (show encItem ⟨K, num, int, flag, text⟩ = encN 0 num from by simp [encItem, hK1, hK2, hK3, hK4])
          have HTi := Lib.hid ((Touch.refl (fun _ => False) wr).alloc (.cells #[.int .i64 K, .int .u64 num, .int .i64 int, .bool flag, .string text] 92))
          rw [HE.out] at hR2
          have HR2 := Lib.hid (rdAt_touch hR2 HTi.out (fun e => e) (fun _ _ e => e))
          have hll : (encN 0 num ++ rest).length ≤ 201800 := by rw [← HE.out]; exact HDL.out
          have HB := Lib.hid (Blk.new wr 92 #[.int .i64 K, .int .u64 num, .int .i64 int, .bool flag, .string text])
          have hk1 : (K == 1) = false := by simp [hK1]
          have hk2 : (K == 2) = false := by simp [hK2]
          have hk3 : (K == 3) = false := by simp [hK3]
          have hk4 : (K == 4) = false := by simp [hK4]
          clear hK1 hK2 hK3 hK4
          clear hR2
          go_wp2_with fail
          refine wp_region_plan [(0, 0), (0, 1), (0, 2), (1, 4), (1, 5), (2, 3), (0, 6), (0, 7)] (fun k => k = w3.heap.size) (by kernel_rfl) (by kernel_rfl) (fun c a d v w h => by cases d <;> exact h) ?_
          iterate 3
            first
              | (refine plan_s1 rfl (by rfl) (fun Kc hKc => ?_)
                 go_simp
                 first
                   | (refine hKc _ ?_)
                 clear hKc Kc)
              | (refine plan_s0 rfl (by rfl) ?_; go_frame)
          iterate 2
            first
              | (apply plan_h
                 · rfl
                 · rfl
                 · intro wh hT
                   have hf0 := (Touch.blk hT (by exact HB.out) (fun e => by omega)).cell 1
                   have hf1 := (by simp at hf0; exact hf0 : wh.cell? ⟨wr.heap.size, 1, none⟩ = some (.int .u64 num))
                   go_simp
                   try rfl
                 go_frame)
              | (refine plan_hn rfl (by rfl) ?_; go_frame)
          refine plan_a1 rfl (by rfl) (fun Kc hKc => ?_)
          go_simp
          refine (num_any w3.heap.size F false num _ _ (by exact HR2.out)).mono ?_
          rintro e w5 ⟨rfl, k5, t5⟩
          refine hKc _ _ ⟨t5, ?_⟩
          clear hKc Kc
          have y := written_read num num false rest HXs.out.1 (Nat.le_refl _)
          rw [y] at k5
          rw [y]
          have HR5 := Lib.hid k5
          have HT5 := Lib.hid t5
          obtain ⟨_, A6, c6, _, _, hb6, _⟩ := k5
          have HB5 := Lib.hid hb6
          clear t5 hb6
          iterate 2
            first
              | (refine plan_s1 rfl (by rfl) (fun Kc hKc => ?_)
                 go_simp
                 first
                   | (refine hKc _ ?_)
                 clear hKc Kc)
              | (refine plan_s0 rfl (by rfl) ?_; go_frame)
          refine plan_done ?_
          go_wp2_with (first
            | (go_at_call 41; go_must (refine (bad_any _ _ _ _ _ _ (by exact HB5.out)).mono ?_); rintro e w6 ⟨rfl, rfl⟩))
          go_roundw
          case rel => exact ⟨jb + 1, by omega, by go_num, by rw [HRest.out]; exact HR5.out, (HTb.out.trans HTi.out (fun _ _ e => e)).drew.trans HT5.out (fun k hk e => by omega)⟩
          case measure => simp [intOf]; omega
        · obtain rfl : n0 = jb := by omega
          have hdr : xs.drop n0 = [] := by rw [← HE0.out]; simp
          have hR2 := HR.out
          rw [hdr, List.flatMap_nil] at hR2
          have HR2 := Lib.hid hR2
          clear hR2 hdr HR
          go_wp2_with (first
            | (go_at_call 50; go_must (refine (end_any w3.heap.size F false [] _ (by exact HR2.out)).mono ?_); rintro e w5 ⟨rfl, rfl⟩)
            | (go_at_call 35; go_must (refine (HV.out _).mono ?_); rintro e w6 ⟨rfl, t6⟩))
          go_ret
          exact ⟨rfl, (HTb.out.trans t6 (fun _ _ e => e)).below⟩
end Go.Proofs.Ytomapfklpoijbaa
