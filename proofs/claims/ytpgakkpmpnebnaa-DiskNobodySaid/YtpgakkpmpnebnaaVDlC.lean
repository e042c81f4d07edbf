/- The walk of DiskPlays. (written by genDlC.py) -/
import Derived.Test.YtpgakkpmpnebnaaVDlB
import Derived.Test.YtpgakkpmpnebnaaVDkW
import Derived.Test.YtpgakkpmpnebnaaVArgsD
namespace Go.Proofs.Ytpgakkpmpnebnaa
open Go.RowKit Go.Maps
set_option maxHeartbeats 4000000
set_option maxRecDepth 100000
set_option linter.unusedVariables false
attribute [local irreducible] wpPlan

/-- Both disks in a law's loop, all of their blocks new. -/
def DkL (w wr : World) (g b m tb : Nat) (D : Dk) : Prop :=
  ∃ F RF A c, DkAt wr g b m D F ∧ Blk wr tb 67 (rdA A c D) ∧ RfF wr RF A D.fs ∧ (∀ q, F q → w.heap.size ≤ q ∧ q ≠ tb) ∧ (∀ q, RF q → w.heap.size ≤ q ∧ q < wr.heap.size ∧ q ≠ tb ∧ q ≠ g ∧ q ≠ b ∧ q ≠ m) ∧ Touch (fun _ => False) w wr
theorem DkL.far {w w1 w2 : World} {g b m tb : Nat} {D : Dk} (h : DkL w w1 g b m tb D) (t : Touch (fun _ => False) w1 w2) : DkL w w2 g b m tb D := by
  obtain ⟨F, RF, A, c, h1, h2, h3, h4, h5, h6⟩ := h
  exact ⟨F, RF, A, c, h1.far t, t.blk h2 (fun e => e), h3.touch t (fun _ _ e => e), h4, fun q hq => ⟨(h5 q hq).1, Nat.lt_of_lt_of_le (h5 q hq).2.1 t.size, (h5 q hq).2.2⟩, h6.trans t (fun _ _ e => e)⟩
theorem light23_all {l : List Op23} (h : light23 l = true) : (∀ o ∈ l, o.lt) ∧ l.length ≤ 200 := by
  simp only [light23, Bool.and_eq_true, List.all_eq_true, decide_eq_true_eq] at h
  exact ⟨fun o ho => h.1 o ho, h.2⟩
/-- Both disks as they are made. -/
theorem new_both {w w1 w2 w3 : World} {g b m : Nat} (room : Int) (hd : DkAt w1 g b m ⟨room, [], false, -1, 0⟩ (fun _ => False)) (t1 : Touch (fun _ => False) w w1) (t2 : Touch (fun _ => False) w1 w2) :
    DkL w (w2.alloc (.cells #[.int .i64 room, .slice none 0 0, .bool false, .int .i64 (-1), .int .u64 0] 67)) g b m w2.heap.size ⟨room, [], false, -1, 0⟩ := by
  have ta := (Touch.refl (fun _ => False) w2).alloc (.cells #[.int .i64 room, .slice none 0 0, .bool false, .int .i64 (-1), .int .u64 0] 67)
  exact ⟨fun _ => False, fun _ => False, none, 0, (hd.far t2).far ta, Blk.new w2 _ _, RfF.nil _ _ _, fun q hq => hq.elim, fun q hq => hq.elim, (t1.trans t2 (fun _ _ e => e)).trans ta (fun _ _ e => e)⟩
theorem walk_DiskPlays {w : World} (a0 : Int) (k0 : -9223372036854775808 ≤ a0 ∧ a0 ≤ 9223372036854775807)
    (A1 : Option Addr) (n1 c1 : Nat) (l1 : List Op23) (e1 : l1.length = n1) (o1 : ∀ x ∈ l1, x.okA w) (z1 : ∀ a ∈ l1, a.cells.length = 6) (g1 : A1 = none → c1 = 0) (u1 : n1 ≤ c1) (m1 : c1 ≤ maxLen) (s1 : RdZ w (fun k => k < w.heap.size) 6 A1 n1 (l1.flatMap Op23.cells)) :
    Calls Try.prog 7 #[.int .i64 a0, .slice A1 n1 c1] w fun e w' => e = .returned (.bool true) ∧ Below w.heap.size w w' := by
  subst e1
  unfold maxLen at m1
  have HS1 := Lib.hid s1
  have HO1 := Lib.hid o1
  have HLi := Lib.hid (light23_any _ A1 c1 l1 w s1 (by omega))
  clear o1 z1 g1 s1 u1
  have HBad := Lib.hid (show ∀ w1, Touch (fun _ => False) w w1 → Calls Try.prog 31 #[.int .i64 (-1)] w1 (fun e w' => e = .returned (.pointer none) ∧ w1 = w') from fun w1 _ => dnew_no (-1) (by omega) w1)
  have HBad2 := Lib.hid (show ∀ w1, Calls Try.prog 31 #[.int .i64 1048577] w1 (fun e w' => e = .returned (.pointer none) ∧ w1 = w') from fun w1 => dnew_no 1048577 (by omega) w1)
  by_cases hbad : a0 < 0 ∨ 1048576 < a0
  · have HT0 := Lib.hid (Touch.refl (fun _ => False) w)
    clear HLi
    rcases (by omega : a0 < 0 ∨ (¬ a0 < 0 ∧ 1048576 < a0)) with h0 | ⟨h0, h1⟩
    · go_enter Try.func7, Try.ntmps7
      go_wp2_with (first
        | (go_at_call 31; have M9 := HNb; go_must (refine (HBad2.out _).mono ?_); rintro e wb ⟨rfl, rfl⟩)
        | (go_at_call 31; go_must (refine (HBad.out _ (by exact HT0.out)).mono ?_); rintro e wb ⟨rfl, rfl⟩; have HNb := Lib.hid trivial)
        | (go_at_call 32; go_must (refine (lives23_any _).mono ?_); rintro e w9 ⟨rfl, t9⟩; have HT9 := Lib.hid t9; clear t9))
      go_ret
      exact ⟨rfl, HT9.out.below⟩
    · go_enter Try.func7, Try.ntmps7
      go_wp2_with (first
        | (go_at_call 31; have M9 := HNb; go_must (refine (HBad2.out _).mono ?_); rintro e wb ⟨rfl, rfl⟩)
        | (go_at_call 31; go_must (refine (HBad.out _ (by exact HT0.out)).mono ?_); rintro e wb ⟨rfl, rfl⟩; have HNb := Lib.hid trivial)
        | (go_at_call 32; go_must (refine (lives23_any _).mono ?_); rintro e w9 ⟨rfl, t9⟩; have HT9 := Lib.hid t9; clear t9))
      go_ret
      exact ⟨rfl, HT9.out.below⟩
  · obtain ⟨hr0, hr1⟩ : ¬ a0 < 0 ∧ ¬ 1048576 < a0 := ⟨fun h => hbad (.inl h), fun h => hbad (.inr h)⟩
    clear hbad
    cases hl : light23 l1
    · rw [hl] at HLi
      clear hl
      go_enter Try.func7, Try.ntmps7
      go_wp2_with (first
        | (go_at_call 30; go_must (refine HLi.out.mono ?_); rintro e w0 ⟨rfl, t0⟩; have HT0 := Lib.hid t0; clear t0)
        | (go_at_call 31; have M9 := HNb; go_must (refine (HBad2.out _).mono ?_); rintro e wb ⟨rfl, rfl⟩)
        | (go_at_call 31; go_must (refine (HBad.out _ (by exact HT0.out)).mono ?_); rintro e wb ⟨rfl, rfl⟩; have HNb := Lib.hid trivial)
        | (go_at_call 32; go_must (refine (lives23_any _).mono ?_); rintro e w9 ⟨rfl, t9⟩; have HT9 := Lib.hid t9; clear t9))
      go_ret
      exact ⟨rfl, (HT0.out.trans HT9.out (fun _ _ e => e)).below⟩
    · rw [hl] at HLi
      obtain ⟨hLo, hlen⟩ := light23_all hl
      have HLo := Lib.hid hLo
      clear hl hLo HBad HBad2
      go_enter Try.func7, Try.ntmps7
      go_wp2_with (first
        | (go_at_call 30; go_must (refine HLi.out.mono ?_); rintro e w0 ⟨rfl, t0⟩; have HT0 := Lib.hid t0; clear t0)
        | (go_at_call 31; go_must (refine (dnew_yes a0 ⟨by omega, by omega⟩ w0).mono ?_)
           rintro e w2 ⟨g, b, m, rfl, hd, hg, hb, hm, t2⟩
           have HD0 := Lib.hid hd
           have HT2 := Lib.hid (HT0.out.trans t2 (fun _ _ e => e))
           have hs0 := HT0.out.size
           have hlt0 := hd.lt
           clear hd t2)
        | (go_at_call 33; go_must (refine (fnew_any a0 w2).mono ?_)
           rintro e w3 ⟨rfl, t3⟩
           rw [show rdA none 0 ⟨a0, [], false, -1, 0⟩ = #[.int .i64 a0, .slice none 0 0, .bool false, .int .i64 (-1), .int .u64 0] from rfl]
           have HL0 := Lib.hid (new_both (w3 := w3) a0 HD0.out HT2.out t3)
           have hs3 := t3.size
           clear t3))
      have HW4 := Lib.hid (show ∃ W, W = w3.alloc (.cells #[.int .i64 a0, .slice none 0 0, .bool false, .int .i64 (-1), .int .u64 0] 67) from ⟨_, rfl⟩)
      obtain ⟨tb, htb⟩ : ∃ tb, tb = w3.heap.size := ⟨_, rfl⟩
      have hs2 := HT2.out.size
      rw [← htb] at HL0 ⊢
      have hgt : g ≠ tb ∧ b ≠ tb ∧ m ≠ tb := by omega
      have hge : w.heap.size ≤ g ∧ w.heap.size ≤ b ∧ w.heap.size ≤ m ∧ w.heap.size ≤ tb := by omega
      clear HW4 HD0 HT2 HT0 hs0 hlt0 hs3 hs2 htb hg hb hm
      go_loopw [39] (fun i wr => ∃ j : Nat, j ≤ l1.length ∧ i = .int .i64 j ∧ ∃ D, D.steps ≤ j ∧ DkL w wr g b m tb D) (fun i _ => l1.length - (intOf i).toNat)
      case atStart => exact ⟨0, by omega, rfl, _, Nat.le_refl _, HL0.out⟩
      case round =>
        clear HL0 HLi
        obtain ⟨j, hj, rfl, D, hst, F, RF, A, c, hd, hb, hr, hF, hRF, hT⟩ := hrel
        have hTs := hT.size
        have HT := Lib.hid hT
        have HD := Lib.hid hd
        have HB := Lib.hid hb
        have HR := Lib.hid hr
        have HF := Lib.hid hF
        have HRF := Lib.hid hRF
        clear hd hb hr hF hRF hT
        by_cases hjk : j < l1.length
        · have ha : l1[j]? = some (l1[j]'hjk) := List.getElem?_eq_getElem _
          have HI := Lib.hid (HO1.out _ (List.getElem_mem hjk))
          have hlo := HLo.out _ (List.getElem_mem hjk)
          obtain ⟨a, off, rfl, -, -, hc⟩ := (HS1.out.touch HT.out (fun _ _ e => e)).at_ (fun a _ => op23_len a) rfl ha
          generalize l1[j]'hjk = o at *
          have q0 := hc 0 _ rfl; have q1 := hc 1 _ rfl; have q2 := hc 2 _ rfl; have q3 := hc 3 _ rfl; have q4 := hc 4 _ rfl; have q5 := hc 5 _ rfl; skip
          simp only [Nat.add_zero, ← Nat.add_assoc] at q0 q1 q2 q3 q4 q5
          obtain ⟨wo, hwo⟩ : ∃ wo, wo = wr.alloc (.cells #[.int .i64 o.k, .int .i64 o.n, St o.nm, St o.to_, St o.tx, .slice o.A o.ts.length o.c] 71) := ⟨_, rfl⟩
          have HWo := Lib.hid hwo
          have HTo := Lib.hid (show Touch (fun _ => False) wr wo from hwo ▸ (Touch.refl (fun _ => False) wr).alloc _)
          have hso : wo.heap.size = wr.heap.size + 1 := by rw [hwo]; simp
          have hbl := HB.out.lt
          obtain ⟨E, hE⟩ : ∃ E, E = doV D o := ⟨_, rfl⟩
          have hEs : E.steps ≤ j + 1 := by have := doV_steps D o; rw [← hE] at this; omega
          have hdl := HD.out.lt
          have HDo := Lib.hid (show Calls Try.prog 34 #[.pointer (some ⟨g, 0, none⟩), .agg #[.int .i64 D.room, .slice A D.fs.length c, .bool D.down, .int .i64 D.armed, .int .u64 (D.steps : Int)], .agg #[.int .i64 o.k, .int .i64 o.n, St o.nm, St o.to_, St o.tx, .slice o.A o.ts.length o.c]] wo (DoP g b m E F RF wo) from by
            rw [hE]
            exact ldo_any o D g b m F RF (fun k => k < w.heap.size) A c wo (HD.out.far HTo.out) (HR.out.touch HTo.out (fun _ _ e => e)) (fun q hq => by have := HRF.out q hq; omega) ⟨HI.out.1, HI.out.2.1, HI.out.2.2.1, HI.out.2.2.2.1, HI.out.2.2.2.2.touch (HT.out.trans HTo.out (fun _ _ e => e)) (fun _ _ e => e)⟩ (fun q hq => by omega) hlo (by omega))
          unfold DoP at HDo
          have hbo := HB.out
          have p0 := hbo.cell 0
          have p1 := hbo.cell 1
          have p2 := hbo.cell 2
          have p3 := hbo.cell 3
          have p4 := hbo.cell 4
          simp [rdA] at p0 p1 p2 p3 p4
          clear hc ha hwo hE hbo
          go_wp2_with (first
            | (go_at_call 34; rw [← HWo.out]; go_must (refine HDo.out.mono ?_); rintro e w3 ⟨A3, c3, F3, RF3, rfl, hd3, hr3, hF3, hRF3, t3⟩
               rw [show rdA A3 c3 E = #[.int .i64 E.room, .slice A3 E.fs.length c3, .bool E.down, .int .i64 E.armed, .int .u64 (E.steps : Int)] from rfl]
               have HD3 := Lib.hid hd3
               have HR3 := Lib.hid hr3
               have HF3 := Lib.hid hF3
               have HRF3 := Lib.hid hRF3
               have HT3 := Lib.hid t3
               have hs3 := t3.size
               have HB3 := Lib.hid (t3.blk (HTo.out.blk HB.out (fun e => e)) (by omega))
               have hb3 := HB3.out
               clear p0 p1 p2 p3 p4
               have p0 := hb3.cell 0
               have p1 := hb3.cell 1
               have p2 := hb3.cell 2
               have p3 := hb3.cell 3
               have p4 := hb3.cell 4
               have m0 := hb3.frozen 0; have m1 := hb3.frozen 1; have m2 := hb3.frozen 2; have m3 := hb3.frozen 3; have m4 := hb3.frozen 4
               simp [rdA] at p0 p1 p2 p3 p4
               have htl3 := hb3.lt
               have hne3 : ¬ tb = w3.heap.size := by omega
               have hne3' : ¬ w3.heap.size = tb := by omega
               clear hd3 hr3 hF3 hRF3 t3 hb3)
            | (go_at_call 35
               obtain ⟨w4, hw4⟩ : ∃ w4, w4 = ((((((w3.setCell ⟨tb, 0, none⟩ (.int .i64 E.room)).setCell ⟨tb, 1, none⟩ (.slice A3 E.fs.length c3)).setCell ⟨tb, 2, none⟩ (.bool E.down)).setCell ⟨tb, 3, none⟩ (.int .i64 E.armed)).setCell ⟨tb, 4, none⟩ (.int .u64 (E.steps : Int))).alloc (.cells #[.int .i64 E.room, .slice A3 E.fs.length c3, .bool E.down, .int .i64 E.armed, .int .u64 (E.steps : Int)] 67)) := ⟨_, rfl⟩
               rw [← hw4]
               have t4 : Touch (fun q => q = tb) w3 w4 := by rw [hw4]; exact (tch5 _ _ _ _ _ _).alloc _
               have hb4 : Blk w4 tb 67 (rdA A3 c3 E) := by rw [hw4]; exact (blk5 HB3.out _ _ _ _ _).alloc _
               have hd4 := HD3.out.touch t4 hgt.1 hgt.2.1 hgt.2.2 (fun q hq e => by rcases HF3.out q hq with h | h; exact (HF.out q h).2 e; omega)
               go_must (refine (dnames_any hd4).mono ?_); rintro e w5 ⟨NA, nc, rfl, hrn, t5⟩
               have HN5 := Lib.hid hrn
               have HD5 := Lib.hid (hd4.far t5)
               have HB5 := Lib.hid (t5.blk hb4 (fun e => e))
               have HR5 := Lib.hid ((HR3.out.touch t4 (fun q hq e => by rcases HRF3.out q hq with h | h; exact (HRF.out q h).2.2.1 e; omega)).touch t5 (fun _ _ e => e))
               have hs4 := t4.size
               have hs5 := t5.size
               have HT5 := Lib.hid ((((HT.out.trans HTo.out (fun _ _ e => e)).trans HT3.out (fun q hq e => by omega)).trans t4 (fun q hq e => by omega)).trans t5 (fun _ _ e => e))
               clear hw4 hrn hb4 hd4 t4 t5))
          clear p0 p1 p2 p3 p4 m0 m1 m2 m3 m4 q0 q1 q2 q3 q4 q5
          obtain ⟨W, hW⟩ : ∃ W, W = w5.drew := ⟨_, rfl⟩
          have tW : Touch (fun _ => False) w5 W := hW ▸ (Touch.refl _ _).drew
          have HTW := Lib.hid tW
          have HDW := Lib.hid (HD5.out.far tW)
          have HBW := Lib.hid (tW.blk HB5.out (fun e => e))
          have HRW := Lib.hid (HR5.out.touch tW (fun _ _ e => e))
          have hbw := HBW.out
          have p0 := hbw.cell 0
          have p1 := hbw.cell 1
          have p2 := hbw.cell 2
          have p3 := hbw.cell 3
          have p4 := hbw.cell 4
          simp [rdA] at p0 p1 p2 p3 p4
          have hpl := hbw.lt
          have HFr := Lib.hid (show ∀ W : World, RfF W RF3 A3 E.fs → Calls Try.prog 38 #[.agg #[.int .i64 E.room, .slice A3 E.fs.length c3, .bool E.down, .int .i64 E.armed, .int .u64 (E.steps : Int)]] W fun e w' => e = .returned (.int .i64 E.free) ∧ Touch (fun _ => False) W w' from fun W h => ffree_any E RF3 A3 c3 W h HD5.out.ok)
          have hn128 := HD5.out.ok.n
          clear tW hbw
          refine wp_region_plan [(0, 0), (0, 1), (0, 2), (0, 3), (0, 4), (0, 5), (0, 6), (0, 7), (0, 8), (0, 9), (0, 10), (1, 12), (2, 11), (2, 13), (0, 14), (0, 15), (0, 16), (0, 17), (0, 18), (0, 19), (0, 20), (0, 21), (0, 22), (0, 23), (0, 24), (1, 26), (1, 27), (2, 25), (2, 28), (0, 29), (0, 30), (0, 31), (0, 32), (0, 33), (0, 34), (0, 35), (0, 36), (0, 37), (0, 38)] (fun _ => False) (by kernel_rfl) (by kernel_rfl) (fun c a d v w h => by cases d <;> exact h) ?_
          rw [← hW]
          clear hW
          iterate 11
            refine plan_s1 rfl (by rfl) (fun Kc hKc => ?_)
            go_simp
            first
              | (refine hKc _ ?_)
              | (refine ⟨_, calls_flip (ddown_any HDW.out), hKc _ ?_⟩)
            clear hKc Kc
          iterate 1
            apply plan_h
            · rfl
            · rfl
            · intro wh hT
              have hf0 := (hT.cell (p := ⟨tb, 0, none⟩) hpl (fun e => e)).trans p0
              have hf1 := (hT.cell (p := ⟨tb, 1, none⟩) hpl (fun e => e)).trans p1
              have hf2 := (hT.cell (p := ⟨tb, 2, none⟩) hpl (fun e => e)).trans p2
              have hf3 := (hT.cell (p := ⟨tb, 3, none⟩) hpl (fun e => e)).trans p3
              have hf4 := (hT.cell (p := ⟨tb, 4, none⟩) hpl (fun e => e)).trans p4
              go_simp
              try rfl
            go_frame
          refine plan_a1 rfl (by rfl) (fun Kc hKc => ?_)
          go_simp
          refine (dfree_any HDW.out).mono ?_
          rintro e w6 ⟨rfl, t6⟩
          refine hKc _ _ ⟨t6, ?_⟩
          clear hKc Kc
          refine plan_a1 rfl (by rfl) (fun Kc hKc => ?_)
          go_simp
          refine (HFr.out w6 (HRW.out.touch t6 (fun _ _ e => e))).mono ?_
          rintro e w7 ⟨rfl, t7⟩
          refine hKc _ _ ⟨t7, ?_⟩
          clear hKc Kc
          have HT7 := Lib.hid (t6.trans t7 (fun _ _ e => e))
          have HD7 := Lib.hid (HDW.out.far HT7.out)
          have HB7 := Lib.hid (HT7.out.blk HBW.out (fun e => e))
          have hb7 := HB7.out
          clear p0 p1 p2 p3 p4 t6 t7 hpl
          have p1 := hb7.cell 1
          have p4 := hb7.cell 4
          simp [rdA] at p1 p4
          have hpl := hb7.lt
          clear hb7
          iterate 11
            refine plan_s1 rfl (by rfl) (fun Kc hKc => ?_)
            go_simp
            first
              | (refine hKc _ ?_)
              | (refine ⟨_, calls_flip (dsteps_any HD7.out), hKc _ ?_⟩)
            clear hKc Kc
          iterate 2
            apply plan_h
            · rfl
            · rfl
            · intro wh hT
              have hf0 := (hT.cell (p := ⟨tb, 1, none⟩) hpl (fun e => e)).trans p1
              go_simp
              try rfl
            go_frame
          refine plan_a1 rfl (by rfl) (fun Kc hKc => ?_)
          go_simp
          refine (lfiles_any HD7.out).mono ?_
          rintro e w8 ⟨A8, c8, rfl, hr8, t8⟩
          refine hKc _ _ ⟨t8, ?_⟩
          clear hKc Kc
          refine plan_a1 rfl (by rfl) (fun Kc hKc => ?_)
          go_simp
          refine (fsame_yes _ RF3 A8 A3 c8 c3 E.fs w8 hr8 ((HRW.out.touch HT7.out (fun _ _ e => e)).touch t8 (fun _ _ e => e)) (by omega)).mono ?_
          rintro e w9 ⟨rfl, t9⟩
          refine hKc _ _ ⟨t9, ?_⟩
          clear hKc Kc
          have HT9 := Lib.hid ((((HTW.out.trans HT7.out (fun _ _ e => e)).trans t8 (fun _ _ e => e)).trans t9 (fun _ _ e => e)))
          clear hr8 t8 t9 p1 p4 hpl
          have p1 := (HT9.out.blk HB5.out (fun e => e)).cell 1
          simp [rdA] at p1
          iterate 10
            refine plan_s1 rfl (by rfl) (fun Kc hKc => ?_)
            go_simp
            first
              | (refine hKc _ ?_)
            clear hKc Kc
          refine plan_done ?_
          clear p1
          go_wp2_with fail
          go_loopw [94] (fun i wx => ∃ k : Nat, k ≤ E.fs.length ∧ i = .int .i64 k ∧ Touch (fun _ => False) w9 wx) (fun i _ => E.fs.length - (intOf i).toNat)
          case atStart => exact ⟨0, by omega, rfl, Touch.refl _ _⟩
          case round =>
            obtain ⟨k, hk, rfl, hTk⟩ := hrel
            have HT10 := Lib.hid (HT9.out.trans hTk (fun _ _ e => e))
            have HTk := Lib.hid hTk
            clear hTk
            by_cases hkn : k < E.fs.length
            · obtain ⟨f, hf⟩ : ∃ f, E.fs[k]? = some f := ⟨_, List.getElem?_eq_getElem hkn⟩
              obtain ⟨W, hW⟩ : ∃ W, W = wr.drew := ⟨_, rfl⟩
              have HWx := Lib.hid (show Touch (fun _ => False) wr W from hW ▸ (Touch.refl _ _).drew)
              have HTx := Lib.hid (HT10.out.trans (show Touch (fun _ => False) wr W from hW ▸ (Touch.refl _ _).drew) (fun _ _ e => e))
              obtain ⟨g3, o3, rfl, hg3, -, h0, -, -⟩ := (HR5.out.touch HTx.out (fun _ _ e => e)).at_ hf
              obtain ⟨gn, on, rfl, -, -, hgc⟩ := (HN5.out.touch HTx.out (fun _ _ e => e)).2 (by omega)
              have hnm := hgc k (St f.nm) (by simp [namesOf, hf])
              have p1 := (HTx.out.blk HB5.out (fun e => e)).cell 1
              simp [rdA] at p1
              clear hgc hf
              go_wp2_with fail
              refine wp_region_plan [(0, 0), (0, 1), (0, 2), (0, 3), (0, 4), (0, 5), (0, 6), (0, 7), (0, 8), (0, 9), (0, 10)] (fun _ => False) (by kernel_rfl) (by kernel_rfl) (fun c a d v w h => by cases d <;> exact h) ?_
              rw [← hW]
              clear hW
              iterate 11
                refine plan_s1 rfl (by rfl) (fun Kc hKc => ?_)
                go_simp
                first
                  | (refine hKc _ ?_)
                clear hKc Kc
              refine plan_done ?_
              go_wp2_with fail
              go_roundw
              case rel => exact ⟨k + 1, by omega, by go_num, HTk.out.trans HWx.out (fun _ _ e => e)⟩
              case measure => simp [intOf]; omega
            · go_wp2_with fail
              go_roundw
              case rel => exact ⟨j + 1, by omega, by go_num, E, hEs, F3, RF3, A3, c3, HD5.out.far HT10.out, HT10.out.blk HB5.out (fun e => e), HR5.out.touch HT10.out (fun _ _ e => e), fun q hq => by (rcases HF3.out q hq with h | h); exact HF.out q h; omega, fun q hq => by (have := HT10.out.size; rcases HRF3.out q hq with h | h); (have := HRF.out q h; omega); omega, HT5.out.trans HT10.out (fun _ _ e => e)⟩
              case measure => simp [intOf]; omega
        · obtain rfl : j = l1.length := by omega
          go_wp2_with (go_at_call 32; go_must (refine (lives23_any _).mono ?_); rintro e w9 ⟨rfl, t9⟩; have HT9 := Lib.hid t9; clear t9)
          go_ret
          exact ⟨rfl, (HT.out.trans HT9.out (fun _ _ e => e)).below⟩
end Go.Proofs.Ytpgakkpmpnebnaa
