/- The walk of ProgressPlays. -/
import Derived.Test.YtpgakkpmpnebnaaVPrJ
namespace Go.Proofs.Ytpgakkpmpnebnaa
open Go.RowKit Go.Maps Prg
set_option maxHeartbeats 4000000
set_option maxRecDepth 100000
set_option linter.unusedVariables false
attribute [local irreducible] wpPlan

theorem refT_none : refT noneT = zTb := rfl
theorem refused_ok' {t : Tb} (h : t.Ok) (n : Int) (k : Nat) : (refusedT t n k).Ok := by
  unfold refusedT; cases ht : t n with
  | none => exact h
  | some x => exact putT_ok h ⟨(h n x ht).1, (h n x ht).2.1⟩ (refused_ok (h n x ht).2.2 k)
theorem heard_ok' {t : Tb} (h : t.Ok) (n : Int) {k : Nat} (hk : k < 18446744073709551616) : (heardT t n k).Ok := by
  unfold heardT; cases ht : t n with
  | none => exact h
  | some x => exact putT_ok h ⟨(h n x ht).1, (h n x ht).2.1⟩ (heard_ok (h n x ht).2.2 hk)
theorem took_ok' {t : Tb} (h : t.Ok) (n : Int) (k : Nat) : (tookT t n k).Ok := by
  unfold tookT; cases ht : t n with
  | none => exact h
  | some x =>
    simp only
    split
    · rename_i hk; exact putT_ok h ⟨(h n x ht).1, (h n x ht).2.1⟩ (took_ok (h n x ht).2.2 hk)
    · exact h
theorem stepT_ok {t : Tb} (h : t.Ok) (o : POpV) (ho : o.n < 18446744073709551616) : (stepT o t).Ok := by
  unfold stepT
  split
  · exact refused_ok' h _ _
  split
  · exact heard_ok' h _ ho
  split
  · exact setR_ok h _ _
  split
  · exact calmT_ok h
  · exact took_ok' h _ _
/-- In a law's loop: a table, all of its blocks new. -/
structure PgL (w wr : World) (g b : Nat) (t : Tb) (F : Nat → Prop) : Prop where
  at_ : PgAt wr g b t F
  new : ∀ k, F k → w.heap.size ≤ k
  g : w.heap.size ≤ g
  t : Touch (fun _ => False) w wr
theorem PgL.none_ {w w1 w2 : World} {g b : Nat} {t : Tb} {F : Nat → Prop} (h : PgL w w1 g b t F) (tt : Touch (fun _ => False) w1 w2) : PgL w w2 g b t F := ⟨h.at_.none_ tt, h.new, h.g, h.t.trans tt (fun _ _ e => e)⟩
theorem PgL.step {w w1 w2 : World} {g b : Nat} {t t' : Tb} {F F' : Nat → Prop} (h : PgL w w1 g b t F) (hp : PgAt w2 g b t' F') (hF : ∀ k, F' k → F k ∨ w1.heap.size ≤ k) (tt : Touch F w1 w2) : PgL w w2 g b t' F' :=
  ⟨hp, fun k hk => by rcases hF k hk with h1 | h1; exact h.new k h1; have := h.t.size; omega, h.g, h.t.trans tt (fun q hq e => by have := h.new q e; omega)⟩
theorem walk_ProgressPlays {w : World} (A0 : Option Addr) (n0 c0 : Nat) (l0 : List Int) (e0 : l0.length = n0) (o0 : ∀ x ∈ l0, -9223372036854775808 ≤ x ∧ x ≤ 9223372036854775807) (g0 : A0 = none → c0 = 0) (u0 : n0 ≤ c0) (m0 : c0 ≤ maxLen) (s0 : Rd w (fun k => k < w.heap.size) A0 n0 (l0.map I64))
    (a1 : Int) (k1 : 0 ≤ a1 ∧ a1 ≤ 18446744073709551615)
    (A2 : Option Addr) (n2 c2 : Nat) (l2 : List POpV) (e2 : l2.length = n2) (o2 : ∀ x ∈ l2, x.ok w) (z2 : ∀ a ∈ l2, a.cells.length = 4) (g2 : A2 = none → c2 = 0) (u2 : n2 ≤ c2) (m2 : c2 ≤ maxLen) (s2 : RdZ w (fun k => k < w.heap.size) 4 A2 n2 (l2.flatMap POpV.cells))
    (A3 : Option Addr) (n3 c3 : Nat) (l3 : List Int) (e3 : l3.length = n3) (o3 : ∀ x ∈ l3, -9223372036854775808 ≤ x ∧ x ≤ 9223372036854775807) (g3 : A3 = none → c3 = 0) (u3 : n3 ≤ c3) (m3 : c3 ≤ maxLen) (s3 : Rd w (fun k => k < w.heap.size) A3 n3 (l3.map I64))
    (a4 : Int) (k4 : -9223372036854775808 ≤ a4 ∧ a4 ≤ 9223372036854775807) (a5 : Int) (k5 : 0 ≤ a5 ∧ a5 ≤ 18446744073709551615) :
    Calls Try.prog 5 #[.slice A0 n0 c0, .int .u64 a1, .slice A2 n2 c2, .slice A3 n3 c3, .int .i64 a4, .int .u64 a5] w fun e w' => e = .returned (.bool true) ∧ Below w.heap.size w w' := by
  subst e0 e2 e3
  obtain ⟨last, rfl⟩ := Int.eq_ofNat_of_zero_le k1.1
  obtain ⟨own, rfl⟩ := Int.eq_ofNat_of_zero_le k5.1
  unfold maxLen at m0 m2 m3
  have HS0 := Lib.hid s0
  have HS2 := Lib.hid s2
  have HS3 := Lib.hid s3
  have HO2 := Lib.hid o2
  have HLi := Lib.hid (light31_any _ A2 c2 l2 w s2 (by omega))
  have hlast : last < 18446744073709551616 := by omega
  have hown : own < 18446744073709551616 := by omega
  clear o0 o2 o3 z2 g0 g2 g3 s0 s2 s3 u0 u2 u3 k1 k5
  by_cases hbig : 40 < (l0.length : Int)
  · clear HLi
    go_enter Try.func5, Try.ntmps5
    go_wp2_with (go_at_call 13; go_must (refine (lives31_any _).mono ?_); rintro e w1 ⟨rfl, t1⟩; have HT := Lib.hid t1; clear t1)
    go_ret
    exact ⟨rfl, HT.out.below⟩
  by_cases hbig2 : 40 < (l3.length : Int)
  · clear HLi
    go_enter Try.func5, Try.ntmps5
    go_wp2_with (go_at_call 13; go_must (refine (lives31_any _).mono ?_); rintro e w1 ⟨rfl, t1⟩; have HT := Lib.hid t1; clear t1)
    go_ret
    exact ⟨rfl, HT.out.below⟩
  cases hl : lightB31 l2
  · rw [hl] at HLi
    clear hl
    go_enter Try.func5, Try.ntmps5
    go_wp2_with (first
      | (go_at_call 11; go_must (refine HLi.out.mono ?_); rintro e w1 ⟨rfl, t1⟩; have HT := Lib.hid t1; clear t1)
      | (go_at_call 13; go_must (refine (lives31_any _).mono ?_); rintro e w2 ⟨rfl, t2⟩; have HT := Lib.hid (HT.out.trans t2 (fun _ _ e => e)); clear t2))
    go_ret
    exact ⟨rfl, HT.out.below⟩
  rw [hl] at HLi
  have HLo := Lib.hid (show ∀ x ∈ l2, x.list.length ≤ 40 from fun x hx => by
    simp only [lightB31, Bool.and_eq_true, List.all_eq_true] at hl
    have := hl.1 x hx
    simpa [lightO31] using this)
  have hlen2 : l2.length ≤ 200 := by simp only [lightB31, Bool.and_eq_true, decide_eq_true_eq] at hl; exact hl.2
  clear hl
  have hl0 : l0.length ≤ 40 := by omega
  have hl3 : l3.length ≤ 40 := by omega
  have HSet := Lib.hid (fun w1 (tt : Touch (fun _ => False) w w1) => fset_any _ A0 c0 l0 noneT noneT_ok last hlast w1 (HS0.out.touch tt (fun _ _ e => e)) (by omega))
  unfold ROp at HSet
  have HN0 := Lib.hid (show (refT noneT).size = 35 from rfl)
  by_cases hi : last ≤ 1152921504606846976
  · have hB : setB last = true := by simpa [setB] using hi
    have hV : setR noneT l0 last = setT noneT l0 last := by rw [setR, hB]; rfl
    rw [hB, hV] at HSet
    have HNew := Lib.hid (fun w1 (tt : Touch (fun _ => False) w w1) => pnewT_yes _ A0 c0 l0 last hi w1 (HS0.out.touch tt (fun _ _ e => e)) (by omega))
    clear hB hV
    obtain ⟨t0, ht0⟩ : ∃ t0, t0 = setT noneT l0 last := ⟨_, rfl⟩
    unfold NewTP at HNew
    rw [← ht0] at HSet HNew
    have HOk0 := Lib.hid (show t0.Ok from ht0 ▸ setT_ok noneT_ok l0 hi)
    have HN1 := Lib.hid (refT_size t0)
    have H11 := Lib.hid (refT_one t0)
    clear ht0 hi
    go_enter Try.func5, Try.ntmps5
    go_wp2_with (first
      | (go_at_call 11; go_must (refine HLi.out.mono ?_); rintro e w1 ⟨rfl, t1⟩; have HT := Lib.hid t1; clear t1)
      | (go_at_call 14; go_must (refine (HNew.out _ (by exact HT.out)).mono ?_)
         rintro e w2 ⟨g, b, F, rfl, hp, hF, hg, t2⟩
         have hz1 := HT.out.size
         have HP := Lib.hid (show PgL w w2 g b t0 F from ⟨hp, fun k hk => by have := hF k hk; omega, by omega, HT.out.trans t2 (fun _ _ e => e)⟩)
         have HTb := Lib.hid (show Blk (w2.alloc (.cells zTb 37)) w2.heap.size 37 (refT noneT) from refT_none ▸ Blk.new w2 _ _)
         have HTA := Lib.hid ((Touch.refl (fun _ => False) w2).alloc (.cells zTb 37))
         have HPl := Lib.hid (fun k (hk : F k) => hp.lt k hk)
         have hgl := hp.gl
         clear hp hF hg t2 hz1)
      | ((with_reducible apply HTb.out.ld rowTb HN0.out); exact rfl; exact rfl; exact rfl)
      | (go_at_call 19; go_must (refine (HSet.out _ (by exact HP.out.t.trans HTA.out (fun _ _ e => e))).mono ?_); rintro e w3 ⟨rfl, t3⟩
         have HT3 := Lib.hid (HTA.out.trans t3 (fun _ _ e => e))
         have HTb3 := Lib.hid (t3.blk HTb.out (fun e => e))
         clear t3)
      | ((with_reducible apply HTb3.out.st rowTb HN0.out HN1.out H11.out); exact rfl; exact rfl; exact rfl; exact rfl; intro w4 hb4 t4
         have HTb4 := Lib.hid hb4
         have HT4 := Lib.hid (HT3.out.trans t4 (S := fun _ => False) (fun q hq e => by omega))
         clear hb4 t4)
      | (go_at_call 20; go_must (refine (like31_any g b t0 F _ (by exact (HP.out.none_ HT4.out).at_)).mono ?_); rintro e w5 ⟨rfl, t5⟩
         have HP5 := Lib.hid ((HP.out.none_ HT4.out).none_ t5)
         have HTb5 := Lib.hid (t5.blk HTb4.out (fun e => e))
         clear t5)
      | ((with_reducible apply HTb4.out.ld rowTb HN1.out); exact rfl; exact rfl; exact rfl))
    have hzt : w.heap.size ≤ w2.heap.size := HP.out.t.size
    obtain ⟨tb, htb⟩ : ∃ tb, tb = w2.heap.size := ⟨_, rfl⟩
    have HFt := Lib.hid (show ∀ k, F k → k ≠ tb from fun k hk => by have := HPl.out k hk; omega)
    have hgt : g ≠ tb := by omega
    rw [← htb] at HTb5 hzt ⊢
    clear HTb HTA HTb3 HTb4 HT3 HT4 HP HT HPl hgl htb HNew HSet HN0
    go_loopw [17, 18, 19, 61] (fun _ _ _ i wr => ∃ j : Nat, j ≤ l2.length ∧ i = .int .i64 j ∧ ∃ t F, PgL w wr g b t F ∧ (∀ k, F k → k ≠ tb) ∧ t.Ok ∧ Blk wr tb 37 (refT t)) (fun _ _ _ i _ => l2.length - (intOf i).toNat)
    case atStart => exact ⟨0, by omega, rfl, t0, F, HP5.out, HFt.out, HOk0.out, HTb5.out⟩
    case round =>
      clear HP5 HTb5 HFt HOk0 HN1 H11
      obtain ⟨j, hj, rfl, t, F, hP, hFt, hOk, hTb⟩ := hrel
      have HP := Lib.hid hP
      have HFt := Lib.hid hFt
      have HOk := Lib.hid hOk
      have HTb := Lib.hid hTb
      clear hP hFt hOk hTb
      by_cases hjk : j < l2.length
      · have ha : l2[j]? = some (l2[j]'hjk) := List.getElem?_eq_getElem _
        have HI := Lib.hid (HO2.out _ (List.getElem_mem hjk))
        have hln := HLo.out _ (List.getElem_mem hjk)
        obtain ⟨a, off, rfl, -, -, hc⟩ := (HS2.out.touch HP.out.t (fun _ _ e => e)).at_ (fun a _ => pop_len a) rfl ha
        generalize l2[j]'hjk = o at *
        have HTA := Lib.hid ((Touch.refl (fun _ => False) wr).alloc (.cells #[.int .i64 o.kind, .int .i64 o.node, .int .u64 o.n, .slice o.A o.list.length o.c] 31))
        have HPA := Lib.hid (HP.out.none_ HTA.out)
        have HTbA := Lib.hid (HTA.out.blk HTb.out (fun e => e))
        have HDo := Lib.hid (do31_any g b t t HOk.out F (fun k => k < w.heap.size) o _ HPA.out.at_ HI.out.1 HI.out.2.1 (HI.out.2.2.2.touch HPA.out.t (fun _ _ e => e)) (by omega) (fun k hk e => by have := HP.out.new k e; omega))
        rw [show (stepR o t == stepR o t) = true by simp] at HDo
        have HOk2 := Lib.hid (stepT_ok HOk.out o HI.out.2.1)
        obtain ⟨t2, ht2⟩ : ∃ t2, t2 = stepT o t := ⟨_, rfl⟩
        unfold DoP at HDo
        rw [← ht2] at HDo HOk2
        have q0 := hc 0 _ rfl; have q1 := hc 1 _ rfl; have q2 := hc 2 _ rfl; have q3 := hc 3 _ rfl
        simp only [Nat.add_zero, ← Nat.add_assoc] at q0 q1 q2 q3
        have HN := Lib.hid (refT_size t)
        have HN2 := Lib.hid (refT_size t2)
        have H12 := Lib.hid (refT_one t2)
        have htl := HTb.out.lt
        clear hc ha ht2
        have HLk := Lib.hid (fun w1 F1 (h : PgL w w1 g b t2 F1) => like31_any g b t2 F1 w1 h.at_)
        have HAg := Lib.hid (fun w1 F1 (h : PgL w w1 g b t2 F1) => pagreed_any _ A3 c3 l3 _ t2 HOk2.out a4 k4 own hown w1 (HS3.out.touch h.t (fun _ _ e => e)) (by omega) h.at_.lineC)
        have HAn := Lib.hid (fun w1 F1 (h : PgL w w1 g b t2 F1) => panswered_any _ A3 c3 l3 _ t2 HOk2.out a4 k4 own hown w1 (HS3.out.touch h.t (fun _ _ e => e)) (by omega) h.at_.lineC)
        have HRg := Lib.hid (fun w1 (tt : Touch (fun _ => False) w w1) => PF.fagreed_any _ A3 c3 l3 t2 HOk2.out a4 k4 own hown w1 (HS3.out.touch tt (fun _ _ e => e)) (by omega))
        have HRn := Lib.hid (fun w1 (tt : Touch (fun _ => False) w w1) => PF.fanswered_any _ A3 c3 l3 t2 HOk2.out a4 k4 own hown w1 (HS3.out.touch tt (fun _ _ e => e)) (by omega))
        generalize agreedV t2 Ln.m l3 a4 own = x1 at *
        generalize agreedV t2 Ln.r l3 a4 own = x2 at *
        obtain ⟨D, hD⟩ : ∃ D, D = refT t2 := ⟨_, rfl⟩
        rw [← hD] at HDo HN2 H12 HLk HRg HRn
        have HDe := Lib.hid hD
        clear hD
        go_wp2_with (first
          | ((with_reducible apply HTbA.out.ld rowTb HN.out); exact rfl; exact rfl; exact rfl)
          | (go_at_call 15; go_must (refine HDo.out.mono ?_); rintro e w3 ⟨rfl, F2, hp2, hF2, t2'⟩
             have HP3 := Lib.hid (HPA.out.step hp2 hF2 t2')
             have HFt3 := Lib.hid (show ∀ k, F2 k → k ≠ tb from fun k hk => by rcases hF2 k hk with h | h; exact HFt.out k h; simp at h; omega)
             have HTb3 := Lib.hid (t2'.blk HTbA.out (fun e => HFt.out _ e rfl))
             have hx3 := Blk.new w3 37 zTb
             have HX3 := Lib.hid hx3
             have HTX := Lib.hid ((Touch.refl (fun _ => False) w3).alloc (.cells zTb 37))
             have hz3 := HTb3.out.lt
             have hP3l := hp2.lt
             have HPl := Lib.hid (fun k (hk : F2 k) => hP3l k hk)
             have hg3 := hp2.gl
             clear hp2 hF2 t2' hx3 hP3l)
          | ((with_reducible apply HX3.out.st rowTb rfl HN2.out H12.out); exact rfl; exact rfl; exact rfl; exact rfl; intro w4 hb4 t4
             have HX4 := Lib.hid hb4
             have HT4 := Lib.hid (HTX.out.trans t4 (S := fun _ => False) (fun q hq e => by omega))
             have HTb4 := Lib.hid (HT4.out.blk HTb3.out (fun e => e))
             have HP4 := Lib.hid (HP3.out.none_ HT4.out)
             clear hb4 t4)
          | ((with_reducible apply HX4.out.ld rowTb HN2.out); exact rfl; exact rfl; exact rfl)
          | ((with_reducible apply HTb4.out.st rowTb HN.out HN2.out H12.out); exact rfl; exact rfl; exact rfl; exact rfl; intro w5 hb5 t5
             have HTb5 := Lib.hid hb5
             have HP5 := Lib.hid (show PgL w w5 g b t2 F2 from ⟨HP4.out.at_.touch t5 hgt (fun k hk e => HFt3.out k hk e), HP4.out.new, HP4.out.g, HP4.out.t.trans t5 (fun q hq e => by omega)⟩)
             clear hb5 t5))
        have HP6 := Lib.hid (HP5.out.none_ (Touch.refl (fun _ => False) w5).drew)
        have HTb6 := Lib.hid (HTb5.out.drewN 0)
        refine wp_region_plan [(0, 0), (0, 1), (0, 2), (0, 3), (1, 4), (2, 5), (0, 6), (0, 7), (0, 8), (0, 9), (0, 10), (0, 11), (0, 12), (1, 14), (1, 15), (1, 16), (1, 17), (2, 13), (2, 18), (0, 19), (0, 20), (0, 21), (0, 22), (0, 23), (0, 24), (0, 25), (1, 27), (1, 28), (1, 29), (1, 30), (2, 26), (2, 31), (0, 32), (0, 33)] (fun _ => False) (by kernel_rfl) (by kernel_rfl) (fun c a d v w h => by cases d <;> exact h) ?_
        iterate 4
          refine plan_s1 rfl (by rfl) (fun Kc hKc => ?_)
          go_simp
          first
            | (refine hKc _ ?_)
          clear hKc Kc
        refine plan_hC rowTb rfl _ rfl rfl tb 0 rfl D HN2.out (fun wh hT => (hT.blk HTb6.out (fun e => e)).whole) ?_
        go_frame
        refine plan_a1 rfl (by rfl) (fun Kc hKc => ?_)
        go_simp
        refine (HLk.out _ _ (by exact HP6.out)).mono ?_
        rintro e w6 ⟨rfl, t6⟩
        refine hKc _ _ ⟨t6, ?_⟩
        clear hKc Kc
        have HP7 := Lib.hid (HP6.out.none_ t6)
        have HTb7 := Lib.hid (t6.blk HTb6.out (fun e => e))
        clear t6
        iterate 7
          refine plan_s1 rfl (by rfl) (fun Kc hKc => ?_)
          go_simp
          first
            | (refine hKc _ ?_)
          clear hKc Kc
        refine plan_hC rowTb rfl _ rfl rfl tb 0 rfl D HN2.out (fun wh hT => (hT.blk HTb7.out (fun e => e)).whole) ?_
        go_frame
        iterate 3
          apply plan_h
          · rfl
          · rfl
          · intro wh hT
            go_simp
            try rfl
          go_frame
        refine plan_a1 rfl (by rfl) (fun Kc hKc => ?_)
        go_simp
        refine (HAg.out _ _ (by exact HP7.out)).mono ?_
        rintro e w7 ⟨rfl, t7⟩
        refine hKc _ _ ⟨t7, ?_⟩
        clear hKc Kc
        have HP8 := Lib.hid (HP7.out.none_ t7)
        have HTb8 := Lib.hid (t7.blk HTb7.out (fun e => e))
        clear t7
        refine plan_a1 rfl (by rfl) (fun Kc hKc => ?_)
        go_simp
        refine (HRg.out _ (by exact HP8.out.t)).mono ?_
        rintro e w8 ⟨rfl, t8⟩
        refine hKc _ _ ⟨t8, ?_⟩
        clear hKc Kc
        have HP9 := Lib.hid (HP8.out.none_ t8)
        have HTb9 := Lib.hid (t8.blk HTb8.out (fun e => e))
        clear t8
        iterate 7
          refine plan_s1 rfl (by rfl) (fun Kc hKc => ?_)
          go_simp
          first
            | (refine hKc _ ?_)
          clear hKc Kc
        refine plan_hC rowTb rfl _ rfl rfl tb 0 rfl D HN2.out (fun wh hT => (hT.blk HTb9.out (fun e => e)).whole) ?_
        go_frame
        iterate 3
          apply plan_h
          · rfl
          · rfl
          · intro wh hT
            go_simp
            try rfl
          go_frame
        refine plan_a1 rfl (by rfl) (fun Kc hKc => ?_)
        go_simp
        refine (HAn.out _ _ (by exact HP9.out)).mono ?_
        rintro e w9 ⟨rfl, t9⟩
        refine hKc _ _ ⟨t9, ?_⟩
        clear hKc Kc
        have HP10 := Lib.hid (HP9.out.none_ t9)
        have HTb10 := Lib.hid (t9.blk HTb9.out (fun e => e))
        clear t9
        refine plan_a1 rfl (by rfl) (fun Kc hKc => ?_)
        go_simp
        refine (HRn.out _ (by exact HP10.out.t)).mono ?_
        rintro e w10 ⟨rfl, t10⟩
        refine hKc _ _ ⟨t10, ?_⟩
        clear hKc Kc
        have HP11 := Lib.hid (HP10.out.none_ t10)
        have HTb11 := Lib.hid (t10.blk HTb10.out (fun e => e))
        clear t10
        iterate 2
          refine plan_s1 rfl (by rfl) (fun Kc hKc => ?_)
          go_simp
          first
            | (refine hKc _ ?_)
          clear hKc Kc
        refine plan_done ?_
        go_wp2_with fail
        go_roundw
        case rel => exact ⟨j + 1, by omega, by go_num, t2, F2, HP11.out, HFt3.out, HOk2.out, HDe.out ▸ HTb11.out⟩
        case measure => simp [intOf]; omega
      · obtain rfl : j = l2.length := by omega
        go_wp2_with (go_at_call 13; go_must (refine (lives31_any _).mono ?_); rintro e w6 ⟨rfl, t6⟩; have HT6 := Lib.hid (HP.out.t.trans t6 (fun _ _ e => e)); clear t6)
        go_ret
        exact ⟨rfl, HT6.out.below⟩
  · have hB : setB last = false := by simpa [setB] using hi
    have hV : setR noneT l0 last = noneT := by rw [setR, hB]; rfl
    rw [hB, hV] at HSet
    have HNew := Lib.hid (fun w1 (tt : Touch (fun _ => False) w w1) => pnewT_no _ A0 c0 l0 last hi hlast w1 (HS0.out.touch tt (fun _ _ e => e)) (by omega))
    have H10 := Lib.hid (refT_one noneT)
    clear hB hV hi
    go_enter Try.func5, Try.ntmps5
    go_wp2_with (first
      | (go_at_call 11; go_must (refine HLi.out.mono ?_); rintro e w1 ⟨rfl, t1⟩; have HT := Lib.hid t1; clear t1)
      | (go_at_call 14; go_must (refine (HNew.out _ (by exact HT.out)).mono ?_)
         rintro e w2 ⟨rfl, t2⟩
         have HTb := Lib.hid (show Blk (w2.alloc (.cells zTb 37)) w2.heap.size 37 (refT noneT) from refT_none ▸ Blk.new w2 _ _)
         have HTA := Lib.hid ((HT.out.trans t2 (fun _ _ e => e)).alloc (.cells zTb 37))
         have hzw := (HT.out.trans t2 (fun _ _ e => e)).size
         clear t2)
      | ((with_reducible apply HTb.out.ld rowTb HN0.out); exact rfl; exact rfl; exact rfl)
      | (go_at_call 19; go_must (refine (HSet.out _ (by exact HTA.out)).mono ?_); rintro e w3 ⟨rfl, t3⟩
         have HT3 := Lib.hid (HTA.out.trans t3 (fun _ _ e => e))
         have HTb3 := Lib.hid (t3.blk HTb.out (fun e => e))
         clear t3)
      | ((with_reducible apply HTb3.out.st rowTb HN0.out HN0.out H10.out); exact rfl; exact rfl; exact rfl; exact rfl; intro w4 hb4 t4
         have HT4 := Lib.hid (HT3.out.trans t4 (S := fun _ => False) (fun q hq e => by omega))
         clear hb4 t4)
      | (go_at_call 13; go_must (refine (lives31_any _).mono ?_); rintro e w5 ⟨rfl, t5⟩; have HT5 := Lib.hid (HT4.out.trans t5 (fun _ _ e => e)); clear t5))
    go_ret
    exact ⟨rfl, HT5.out.below⟩
end Go.Proofs.Ytpgakkpmpnebnaa
