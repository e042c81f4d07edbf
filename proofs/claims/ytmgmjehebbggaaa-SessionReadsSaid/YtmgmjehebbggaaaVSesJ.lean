/- The reference's table of sessions: Done. The reference's table of sessions: Look. -/
import Derived.Test.YtmgmjehebbggaaaVSesH
section
namespace Go.Proofs.Ytmgmjehebbggaaa
open Go.RowKit Go.Maps
set_option maxHeartbeats 4000000
set_option maxRecDepth 100000
set_option linter.unusedVariables false

def doneT (T : RT) (s : SesS) (c q : Nat) (a : RpV) (A : Option Addr) (n : Nat) : RT := if doneE s c q a = 0 then (T.setq c q).seta c a A n else T
theorem fdone20_any (T : RT) (s : SesS) (hT : RTs T s) (ok : SesOk s) (c q : Nat) (hq : q < 18446744073709551616) (a : RpV) (hk : a.t.ok) (A : Option Addr) (n : Nat) (w : World) :
    Calls Try.prog 31 #[.agg T.cells, .int .u64 c, .int .u64 q, .agg (rpC a A n)] w (RtP (doneT T s c q a A n) (.int .i64 (doneE s c q a)) w) := by
  have HSd := Lib.hid (show ∀ w1, Calls Try.prog 46 #[.agg (rpC a A n)] w1 fun e w' => e = .returned (.bool (rpS a)) ∧ Touch (fun _ => False) w1 w' from fun w1 => rsoundR_any a.code a.time a.t A a.fired.length n a.notice a.dead w1 hk)
  have HI := Lib.hid (fun w1 => fis20_any c w1)
  have HLn := Lib.hid (rpC_size a A n)
  have HL1 := Lib.hid (rpC_one a A n)
  have hput := fun (h9 : c < 9) => (T.setq c q).put_a h9 a A n
  unfold RtP
  obtain ⟨E, hE⟩ : ∃ E, E = doneE s c q a := ⟨_, rfl⟩
  obtain ⟨T', hT'⟩ : ∃ T', T' = doneT T s c q a A n := ⟨_, rfl⟩
  rw [← hE, ← hT']
  have hE2 : E = if (whoB c && rpS a) = true then (if q ≤ lastV s c then 34 else 0) else 2 := hE
  have hT2 : T' = if E = 0 then (T.setq c q).seta c a A n else T := by rw [hT', hE, doneT]
  clear hE hT'
  obtain ⟨L, hL⟩ : ∃ L, L = rpC a A n := ⟨_, rfl⟩
  rw [← hL] at HSd HLn HL1 hput ⊢
  clear hL
  have hb := (Blk.new w 46 T.cells).alloc (.cells L 35) |>.alloc (.cells Try.zeroCells46 46)
  have hl := (show Blk (((w.alloc (.cells T.cells 46)).alloc (.cells L 35)).alloc (.cells Try.zeroCells46 46)) (w.heap.size + 1) 35 L by
    have h := (Blk.new (w.alloc (.cells T.cells 46)) 35 L).alloc (.cells Try.zeroCells46 46)
    simpa using h)
  have HW := Lib.hid (show RtW w (((w.alloc (.cells T.cells 46)).alloc (.cells L 35)).alloc (.cells Try.zeroCells46 46)) (w.heap.size + 2) T.cells from
    ⟨hb, ⟨Try.zeroCells46, by kernel_rfl, by
      have h := Blk.new ((w.alloc (.cells T.cells 46)).alloc (.cells L 35)) 46 Try.zeroCells46
      simpa using h⟩, by omega, by omega, (((Touch.refl _ w).alloc _).alloc _).alloc _⟩)
  have HLb := Lib.hid hl
  have HN := Lib.hid T.cells_size
  have H1 := Lib.hid T.cells_one
  clear hb hl
  cases hw : whoB c
  · have hE : E = 2 := by rw [hE2, hw]; rfl
    have hT1 : T' = T := by rw [hT2, hE]; rfl
    subst hT1 hE
    rw [hw] at HI
    generalize T'.cells = C at *
    clear hw hE2 hT2 hput
    go_enter Try.func31, Try.ntmps31
    go_wp2_with (first
      | (go_at_call 32; go_must (refine (HI.out _).mono ?_); rintro e w1 ⟨rfl, rfl⟩)
      | ((with_reducible apply HW.out.load HN.out); exact rfl; exact rfl; exact rfl)
      | ((with_reducible apply HW.out.store HN.out H1.out); exact rfl; exact rfl; exact rfl; exact rfl; intro w2 hb2 t2; have HB2 := Lib.hid hb2; have HT2 := Lib.hid t2; clear hb2 t2))
    exact bodyPost_ret (results_cell2 8 9 rowRt HN.out (HB2.out.whole) rfl rfl) rfl ⟨rfl, HT2.out⟩
  rw [hw] at HI
  obtain ⟨h9, h1c, h8c⟩ := who9 hw
  cases hs : rpS a
  · have hE : E = 2 := by rw [hE2, hw, hs]; rfl
    have hT1 : T' = T := by rw [hT2, hE]; rfl
    subst hT1 hE
    rw [hs] at HSd
    generalize T'.cells = C at *
    clear hw hs hE2 hT2 hput
    go_enter Try.func31, Try.ntmps31
    go_wp2_with (first
      | (go_at_call 32; go_must (refine (HI.out _).mono ?_); rintro e w1 ⟨rfl, rfl⟩)
      | ((with_reducible apply HLb.out.ld rowRy HLn.out); exact rfl; exact rfl; exact rfl)
      | (go_at_call 46; go_must (refine (HSd.out _).mono ?_); rintro e w1 ⟨rfl, t1⟩; have HW1 := Lib.hid (HW.out.none_ t1); clear t1)
      | ((with_reducible apply HW1.out.load HN.out); exact rfl; exact rfl; exact rfl)
      | ((with_reducible apply HW1.out.store HN.out H1.out); exact rfl; exact rfl; exact rfl; exact rfl; intro w2 hb2 t2; have HB2 := Lib.hid hb2; have HT2 := Lib.hid t2; clear hb2 t2))
    exact bodyPost_ret (results_cell2 8 9 rowRt HN.out (HB2.out.whole) rfl rfl) rfl ⟨rfl, HT2.out⟩
  rw [hs] at HSd
  have hlast := hT.last h9
  have HQ := Lib.hid (show T.cells[c]? = some (.int .u64 (lastV s c : Nat)) by rw [T.at_q h9, hlast])
  by_cases hle : q ≤ lastV s c
  · have hE : E = 34 := by rw [hE2, hw, hs]; simp [hle]
    have hT1 : T' = T := by rw [hT2, hE]; rfl
    subst hT1 hE
    have hle' : (q : Int) ≤ (lastV s c : Nat) := by omega
    generalize T'.cells = C at *
    generalize lastV s c = lv at *
    clear hw hs hE2 hT2 hput hle
    go_enter Try.func31, Try.ntmps31
    go_wp2_with (first
      | (go_at_call 32; go_must (refine (HI.out _).mono ?_); rintro e w1 ⟨rfl, rfl⟩)
      | ((with_reducible apply HLb.out.ld rowRy HLn.out); exact rfl; exact rfl; exact rfl)
      | (go_at_call 46; go_must (refine (HSd.out _).mono ?_); rintro e w1 ⟨rfl, t1⟩
         have HW1 := Lib.hid (HW.out.none_ t1)
         have c1 := HW1.out.b.cell c
         rw [HQ.out] at c1
         clear t1)
      | ((with_reducible apply HW1.out.load HN.out); exact rfl; exact rfl; exact rfl)
      | ((with_reducible apply HW1.out.store HN.out H1.out); exact rfl; exact rfl; exact rfl; exact rfl; intro w2 hb2 t2; have HB2 := Lib.hid hb2; have HT2 := Lib.hid t2; clear hb2 t2))
    exact bodyPost_ret (results_cell2 8 9 rowRt HN.out (HB2.out.whole) rfl rfl) rfl ⟨rfl, HT2.out⟩
  · have hE : E = 0 := by rw [hE2, hw, hs]; simp [hle]
    have hT1 : T' = (T.setq c q).seta c a A n := by rw [hT2, hE]; rfl
    subst hT1 hE
    have hle' : ¬ (q : Int) ≤ (lastV s c : Nat) := by omega
    have hp1 := T.put_q h9 q
    have hp2 := hput h9
    have HN2 := Lib.hid ((T.setq c q).seta c a A n).cells_size
    have H12 := Lib.hid ((T.setq c q).seta c a A n).cells_one
    have HNq := Lib.hid (T.setq c q).cells_size
    generalize ((T.setq c q).seta c a A n).cells = D at *
    generalize (T.setq c q).cells = F at *
    have HP1 := Lib.hid hp1
    have HP2 := Lib.hid hp2
    generalize T.cells = C at *
    generalize lastV s c = lv at *
    clear hw hs hE2 hT2 hput hle hp1 hp2
    go_enter Try.func31, Try.ntmps31
    go_wp2_with (first
      | (go_at_call 32; go_must (refine (HI.out _).mono ?_); rintro e w1 ⟨rfl, rfl⟩)
      | ((with_reducible apply HLb.out.ld rowRy HLn.out); exact rfl; exact rfl; exact rfl)
      | (go_at_call 46; go_must (refine (HSd.out _).mono ?_); rintro e w1 ⟨rfl, t1⟩
         have HW1 := Lib.hid (HW.out.none_ t1)
         have c1 := HW1.out.b.cell c
         rw [HQ.out] at c1
         have f1 := HW1.out.b.frozen c
         have tS := (Touch.refl (fun q => q = w.heap.size) w1).set (o := c) (fun _ => rfl) (.int .u64 (q : Int))
         have HW2 := Lib.hid (HW1.out.own tS (HP1.out ▸ HW1.out.b.set_ c (.int .u64 (q : Int))))
         have HLb2 := Lib.hid (tS.blk (t1.blk HLb.out (fun e => e)) (by omega))
         clear t1 tS)
      | ((with_reducible apply HLb2.out.ld rowRy HLn.out); exact rfl; exact rfl; exact rfl)
      | ((with_reducible apply RtW.put (L := L) HW2.out HNq.out c h9 HLn.out HL1.out HP2.out); exact rfl; exact rfl; exact rfl; exact rfl; intro w3 hw3 t3; have HW3 := Lib.hid hw3; clear hw3 t3)
      | ((with_reducible apply HW3.out.load HN2.out); exact rfl; exact rfl; exact rfl)
      | ((with_reducible apply HW3.out.store HN2.out H12.out); exact rfl; exact rfl; exact rfl; exact rfl; intro w4 hb4 t4; have HB4 := Lib.hid hb4; have HT4 := Lib.hid t4; clear hb4 t4))
    exact bodyPost_ret (results_cell2 8 9 rowRt HN2.out (HB4.out.whole) rfl rfl) rfl ⟨rfl, HT4.out⟩
end Go.Proofs.Ytmgmjehebbggaaa
end

section
namespace Go.Proofs.Ytmgmjehebbggaaa
open Go.RowKit Go.Maps
set_option maxHeartbeats 4000000
set_option maxRecDepth 100000
set_option linter.unusedVariables false
attribute [local irreducible] wpPlan

theorem lookK_last {s : SesS} (ok : SesOk s) (c q : Nat) : lookK s c q = if lastV s c < q then 1 else if q = lastV s c ∧ 0 < q then 2 else 3 := by
  unfold lookK lastV
  cases hs : s c with
  | none => simp only; by_cases h : 0 < q <;> simp [h]
  | some x =>
    obtain ⟨p, a⟩ := x
    have := ok.req c p a hs
    simp only
    by_cases h : p < q
    · rw [if_pos h, if_pos h]
    · rw [if_neg h, if_neg h]
      by_cases e : q = p
      · rw [if_pos e, if_pos ⟨e, by omega⟩]
      · rw [if_neg e, if_neg (fun h => e h.1)]
/-- What Look tells: the kind, the reply's cells. -/
def lookC (T : RT) (s : SesS) (c q : Nat) : Array Value := if lookK s c q = 2 then rpC (T.a c) (T.A c) (T.c c) else #[.int .i64 0, .int .i64 0, .int .u64 0, .int .i64 0, .int .i64 0, .int .i64 0, .int .u64 0, .int .i64 0, .int .i64 0, .int .i64 0, .int .i64 0, .slice none 0 0, .int .u64 0, .int .i64 0]
theorem flook20_any (T : RT) (s : SesS) (hT : RTs T s) (ok : SesOk s) (c q : Nat) (hq : q < 18446744073709551616) (w : World) :
    Calls Try.prog 29 #[.agg T.cells, .int .u64 c, .int .u64 q] w fun e w' => e = .returned (.tuple #[.int .i64 (lookK s c q), .agg (lookC T s c q)]) ∧ Touch (fun _ => False) w w' := by
  have HT0 := Lib.hid (((Touch.refl (fun _ => False) w).alloc (.cells T.cells 46)).alloc (.cells #[.int .i64 0, .int .i64 0, .int .u64 0, .int .i64 0, .int .i64 0, .int .i64 0, .int .u64 0, .int .i64 0, .int .i64 0, .int .i64 0, .int .i64 0, .slice none 0 0, .int .u64 0, .int .i64 0] 35))
  have HB := Lib.hid ((Blk.new w 46 T.cells).alloc (.cells #[.int .i64 0, .int .i64 0, .int .u64 0, .int .i64 0, .int .i64 0, .int .i64 0, .int .u64 0, .int .i64 0, .int .i64 0, .int .i64 0, .int .i64 0, .slice none 0 0, .int .u64 0, .int .i64 0] 35))
  have HZ := Lib.hid (show Blk ((w.alloc (.cells T.cells 46)).alloc (.cells #[.int .i64 0, .int .i64 0, .int .u64 0, .int .i64 0, .int .i64 0, .int .i64 0, .int .u64 0, .int .i64 0, .int .i64 0, .int .i64 0, .int .i64 0, .slice none 0 0, .int .u64 0, .int .i64 0] 35)) (w.heap.size + 1) 35 #[.int .i64 0, .int .i64 0, .int .u64 0, .int .i64 0, .int .i64 0, .int .i64 0, .int .u64 0, .int .i64 0, .int .i64 0, .int .i64 0, .int .i64 0, .slice none 0 0, .int .u64 0, .int .i64 0] by simpa using Blk.new (w.alloc (.cells T.cells 46)) 35 #[.int .i64 0, .int .i64 0, .int .u64 0, .int .i64 0, .int .i64 0, .int .i64 0, .int .u64 0, .int .i64 0, .int .i64 0, .int .i64 0, .int .i64 0, .slice none 0 0, .int .u64 0, .int .i64 0])
  have HN := Lib.hid T.cells_size
  have HL := Lib.hid (fun w1 => flast20_any T s hT ok c w1)
  have hk := lookK_last ok c q
  have hc9 : lastV s c ≠ 0 → c < 9 := fun h0 => by
    cases hs : s c with
    | none => exact absurd (by rw [lastV, hs]) h0
    | some x => have := ok.who c x hs; omega
  by_cases h1 : lastV s c < q
  · rw [if_pos h1] at hk
    have HC := Lib.hid (show lookC T s c q = #[.int .i64 0, .int .i64 0, .int .u64 0, .int .i64 0, .int .i64 0, .int .i64 0, .int .u64 0, .int .i64 0, .int .i64 0, .int .i64 0, .int .i64 0, .slice none 0 0, .int .u64 0, .int .i64 0] by rw [lookC, hk]; rfl)
    rw [HC.out, hk]
    have h1' : ((lastV s c : Nat) : Int) < q := by omega
    generalize T.cells = C at *
    generalize lastV s c = lv at *
    clear hk hc9 h1
    go_enter Try.func29, Try.ntmps29
    go_wp2_with (first
      | ((with_reducible apply HB.out.ld rowRt HN.out); exact rfl; exact rfl; exact rfl)
      | (go_at_call 15; go_must (refine (HL.out _).mono ?_); rintro e w1 ⟨rfl, t1⟩; have HT1 := Lib.hid (HT0.out.trans t1 (fun _ _ e => e)); have HZ1 := Lib.hid (t1.blk HZ.out (fun e => e)); clear t1)
      | (refine buildZ builtRy rfl rfl ?_)
      | ((with_reducible apply HZ1.out.st rowRy rfl rfl zRy_one); exact rfl; exact rfl; exact rfl; exact rfl; intro w2 hb2 t2; have HB2 := Lib.hid hb2; have HT2 := Lib.hid (HT1.out.trans t2 (S := fun _ => False) (fun q hq e => by omega)); clear hb2 t2))
    exact bodyPost_ret (results_tc 6 7 rowRy rfl (HB2.out.whole) rfl rfl) rfl ⟨rfl, HT2.out⟩
  rw [if_neg h1] at hk
  have h1' : ¬ ((lastV s c : Nat) : Int) < q := by omega
  by_cases h2 : q = lastV s c ∧ 0 < q
  · rw [if_pos h2] at hk
    have h9 := hc9 (by omega)
    have HC := Lib.hid (show lookC T s c q = rpC (T.a c) (T.A c) (T.c c) by rw [lookC, hk]; rfl)
    rw [HC.out, hk]
    have HE := Lib.hid (T.at_a h9)
    have HLn := Lib.hid (rpC_size (T.a c) (T.A c) (T.c c))
    have HL1 := Lib.hid (rpC_one (T.a c) (T.A c) (T.c c))
    obtain ⟨h2a, h2b⟩ := h2
    have hbe : ((q : Int) == ((lastV s c : Nat) : Int)) = true := by simp; omega
    have h0' : (0 : Int) < (q : Int) := by omega
    generalize rpC (T.a c) (T.A c) (T.c c) = L at *
    generalize T.cells = C at *
    generalize lastV s c = lv at *
    clear hk hc9 h1 h2a h2b HC
    go_enter Try.func29, Try.ntmps29
    go_wp2_with (first
      | ((with_reducible apply HB.out.ld rowRt HN.out); exact rfl; exact rfl; exact rfl)
      | (go_at_call 15; go_must (refine (HL.out _).mono ?_); rintro e w1 ⟨rfl, t1⟩; have HT1 := Lib.hid (HT0.out.trans t1 (fun _ _ e => e)); have HZ1 := Lib.hid (t1.blk HZ.out (fun e => e)); have HB1 := Lib.hid (t1.blk HB.out (fun e => e)); clear t1))
    have e9 : (c : Int) < 9 := by omega
    refine wp_region_plan [(0, 0), (0, 1), (0, 2), (1, 3), (0, 4), (2, 5)] (fun q => q = w.heap.size + 1) (by kernel_rfl) (by kernel_rfl) (fun c a d v w h => by cases d <;> exact h) ?_
    iterate 3
      refine plan_s1 rfl (by rfl) (fun Kc hKc => ?_)
      go_simp
      first
        | (refine hKc _ ?_)
      clear hKc Kc
    refine plan_hC rowRy rfl _ rfl rfl w.heap.size (9 + c * 14) rfl L HLn.out (fun wh hT => HE.out ▸ (hT.blk (HB1.out.drewN 0) (by omega)).range (9 + c * 14) 14) ?_
    go_frame
    iterate 1
      refine plan_s1 rfl (by rfl) (fun Kc hKc => ?_)
      go_simp
      first
        | (refine hKc _ ?_)
      clear hKc Kc
    refine plan_aM rowRy rfl rfl _ _ rfl (w.heap.size + 1) 0 rfl L rfl _ _ (HZ1.out.drewN 0) (by simp) HLn.out HL1.out rfl ?_
    intro w2 hb2 t2 _
    go_frame
    rw [setAll_whole _ _ (by simp [HLn.out])] at hb2
    have HB2 := Lib.hid (show Blk w2 (w.heap.size + 1) 35 L by simpa using hb2)
    have HT2 := Lib.hid (HT1.out.drew.trans t2 (S := fun _ => False) (fun q hq e => by omega))
    clear hb2 t2
    refine plan_done ?_
    go_wp2_with fail
    exact bodyPost_ret (results_tc 6 7 rowRy HLn.out (HB2.out.whole) rfl rfl) rfl ⟨rfl, HT2.out⟩
  · rw [if_neg h2] at hk
    have HC := Lib.hid (show lookC T s c q = #[.int .i64 0, .int .i64 0, .int .u64 0, .int .i64 0, .int .i64 0, .int .i64 0, .int .u64 0, .int .i64 0, .int .i64 0, .int .i64 0, .int .i64 0, .slice none 0 0, .int .u64 0, .int .i64 0] by rw [lookC, hk]; rfl)
    rw [HC.out, hk]
    have hz : (q = lastV s c ∧ q = 0) ∨ ((q : Int) == ((lastV s c : Nat) : Int)) = false := by
      by_cases e : q = lastV s c
      · exact .inl ⟨e, by omega⟩
      · exact .inr (by simp; omega)
    generalize T.cells = C at *
    generalize lastV s c = lv at *
    clear hk hc9 h1 h2 HC
    rcases hz with ⟨e1, e2⟩ | hbe
    · subst e1 e2
      have hbe : (((0 : Nat) : Int) == ((0 : Nat) : Int)) = true := rfl
      go_enter Try.func29, Try.ntmps29
      go_wp2_with (first
        | ((with_reducible apply HB.out.ld rowRt HN.out); exact rfl; exact rfl; exact rfl)
        | (go_at_call 15; go_must (refine (HL.out _).mono ?_); rintro e w1 ⟨rfl, t1⟩; have HT1 := Lib.hid (HT0.out.trans t1 (fun _ _ e => e)); have HZ1 := Lib.hid (t1.blk HZ.out (fun e => e)); clear t1)
        | (refine buildZ builtRy rfl rfl ?_)
        | ((with_reducible apply HZ1.out.st rowRy rfl rfl zRy_one); exact rfl; exact rfl; exact rfl; exact rfl; intro w2 hb2 t2; have HB2 := Lib.hid hb2; have HT2 := Lib.hid (HT1.out.trans t2 (S := fun _ => False) (fun q hq e => by omega)); clear hb2 t2))
      exact bodyPost_ret (results_tc 6 7 rowRy rfl (HB2.out.whole) rfl rfl) rfl ⟨rfl, HT2.out⟩
    · go_enter Try.func29, Try.ntmps29
      go_wp2_with (first
        | ((with_reducible apply HB.out.ld rowRt HN.out); exact rfl; exact rfl; exact rfl)
        | (go_at_call 15; go_must (refine (HL.out _).mono ?_); rintro e w1 ⟨rfl, t1⟩; have HT1 := Lib.hid (HT0.out.trans t1 (fun _ _ e => e)); have HZ1 := Lib.hid (t1.blk HZ.out (fun e => e)); clear t1)
        | (refine buildZ builtRy rfl rfl ?_)
        | ((with_reducible apply HZ1.out.st rowRy rfl rfl zRy_one); exact rfl; exact rfl; exact rfl; exact rfl; intro w2 hb2 t2; have HB2 := Lib.hid hb2; have HT2 := Lib.hid (HT1.out.trans t2 (S := fun _ => False) (fun q hq e => by omega)); clear hb2 t2))
      exact bodyPost_ret (results_tc 6 7 rowRy rfl (HB2.out.whole) rfl rfl) rfl ⟨rfl, HT2.out⟩
end Go.Proofs.Ytmgmjehebbggaaa
end
