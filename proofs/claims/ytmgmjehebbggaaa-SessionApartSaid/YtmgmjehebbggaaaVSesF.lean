/- The walk of SessionOnce. -/
import Derived.Test.YtmgmjehebbggaaaVSesE
import Derived.Test.YtmgmjehebbggaaaVRowE
namespace Go.Proofs.Ytmgmjehebbggaaa
open Go.RowKit Go.Maps
set_option maxHeartbeats 4000000
set_option maxRecDepth 100000
set_option linter.unusedVariables false

theorem rowOp : RowT 37 17 := ⟨⟨_, Try.underlying37, rfl⟩, by kernel_rfl⟩
theorem rowRp : RowT 35 14 := ⟨⟨_, Try.underlying35, rfl⟩, by kernel_rfl⟩
theorem walk_SessionOnce {w : World} (A0 : Option Addr) (n0 c0 : Nat) (l0 : List SOpV) (e0 : l0.length = n0) (o0 : ∀ x ∈ l0, x.ok w) (z0 : ∀ a ∈ l0, a.cells.length = 17) (g0 : A0 = none → c0 = 0) (u0 : n0 ≤ c0) (m0 : c0 ≤ maxLen) (s0 : RdZ w (fun k => k < w.heap.size) 17 A0 n0 (l0.flatMap SOpV.cells)) :
    Calls Try.prog 3 #[.slice A0 n0 c0] w fun e w' => e = .returned (.bool true) ∧ Below w.heap.size w w' := by
  subst e0
  unfold maxLen at m0
  have hb0 : l0.length ≤ 9223372036854775807 := by omega
  have HS0 := Lib.hid s0
  have HO0 := Lib.hid o0
  have HLi := Lib.hid (light20_any _ A0 c0 l0 w s0 hb0)
  clear s0 o0 z0 g0 u0 m0
  cases hl : lightB l0
  · rw [hl] at HLi
    clear hl
    go_enter Try.func3, Try.ntmps3
    go_wp2_with (first
      | (go_at_call 7; go_must (refine HLi.out.mono ?_); rintro e w1 ⟨rfl, t1⟩; have HT := Lib.hid t1; clear t1)
      | (go_at_call 8; go_must (refine (lives20_any _).mono ?_); rintro e w2 ⟨rfl, t2⟩; have HT := Lib.hid (HT.out.trans t2 (fun _ _ e => e)); clear t2))
    go_ret
    exact ⟨rfl, HT.out.below⟩
  · rw [hl] at HLi
    have hlen : l0.length ≤ 100 := by
      simp only [lightB, Bool.and_eq_true, decide_eq_true_eq] at hl; exact hl.2
    clear hl
    have hmm := @run_makeMap Try.prog
    go_enter Try.func3, Try.ntmps3
    go_wp2_with (first
      | (go_at_call 7; go_must (refine HLi.out.mono ?_); rintro e w1 ⟨rfl, t1⟩; have HT := Lib.hid t1; clear t1)
      | (go_at_call 9
         go_must (refine (sempty_any _).mono ?_)
         rintro e w2 ⟨g, b, rfl, hs, hg, hb, t2⟩
         have HS := Lib.hid hs
         have HT2 := Lib.hid (HT.out.trans t2 (fun _ _ e => e))
         have hbl := hs.map.choose_spec.1.lt
         have hgl := hs.blk.lt
         have hgw : w1.heap.size ≤ g := hg
         have hbw : w1.heap.size ≤ b := hb
         clear hs hg hb t2))
    obtain ⟨bd, hbd⟩ : ∃ bd, bd = w2.heap.size := ⟨_, rfl⟩
    have HT3 := Lib.hid (((Touch.refl (fun _ => False) w2).alloc (.map #[] 0)).alloc (.map #[] 0))
    have hz3 : ((w2.alloc (.map #[] 0)).alloc (.map #[] 0)).heap.size = bd + 2 := by simp [hbd]
    have H0 := Lib.hid (show OnceL w ((w2.alloc (.map #[] 0)).alloc (.map #[] 0)) g b bd (bd + 1) 0 (fun _ => none) (fun _ _ => false) (fun _ => none) from by
      have h3 := HS.out.touch HT3.out (fun e => e) (fun e => e) (fun _ _ e => e)
      refine ⟨⟨h3.blk, h3.map.empty, h3.ok, fun k hk => hk.1, h3.ne⟩, ⟨fun _ => none, ?_, fun c q kl _ => rfl⟩, ⟨fun _ => none, ?_, fun c _ => rfl⟩, (fun c q h => by cases h), (fun c q a h => by cases h), HT2.out.trans HT3.out (fun _ _ e => e)⟩
      · rw [hbd]; exact (MapV.new Try.prog 38 w2).touch ((Touch.refl (fun _ => False) _).alloc _) (fun e => e)
      · rw [hbd]; simpa using MapV.new Try.prog 29 (w2.alloc (.map #[] 0)))
    have HSp := Lib.hid (show Sep w.heap.size g b bd (bd + 1) from by
      have hz1 := HT.out.size
      have := HS.out.ne
      exact ⟨⟨by omega, by omega, by omega, by omega⟩, by omega, by omega, by omega, by omega, by omega, by omega⟩)
    rw [← hbd]
    clear hmm HS HT HT2 HT3 hz3 hbd
    go_loopw [21] (fun i wr => ∃ j : Nat, j ≤ l0.length ∧ i = .int .i64 j ∧ ∃ s dn la, OnceL w wr g b bd (bd + 1) j s dn la) (fun i _ => l0.length - (intOf i).toNat)
    case atStart => exact ⟨0, by omega, rfl, _, _, _, H0.out⟩
    case round =>
      clear H0
      obtain ⟨j, hj, rfl, s, dn, la, hO⟩ := hrel
      have HO := Lib.hid hO
      clear hO
      by_cases hjk : j < l0.length
      · have ha : l0[j]? = some (l0[j]'hjk) := List.getElem?_eq_getElem _
        have HI := Lib.hid (HO0.out _ (List.getElem_mem hjk))
        obtain ⟨a, off, rfl, -, -, hc⟩ := (HS0.out.touch HO.out.t (fun _ _ e => e)).at_ (fun a _ => sop_len a) rfl ha
        generalize l0[j]'hjk = o at *
        obtain ⟨K, c, q, a0, A, n⟩ := o
        obtain ⟨hi1, hi2, hi3, -, hi5⟩ := HI.out
        have HC := Lib.hid (show c < 18446744073709551616 from hi1)
        have HQ := Lib.hid (show q < 18446744073709551616 from hi2)
        have HTk := Lib.hid (show a0.t.ok from hi3.1)
        have HRd := Lib.hid (show Rd w (fun k => k < w.heap.size) A a0.fired.length (a0.fired.map U64) from hi5)
        clear hi1 hi2 hi3 hi5
        obtain ⟨C, hC⟩ : ∃ C, C = (#[.int .i64 K, .int .u64 c, .int .u64 q, .int .i64 a0.code, .int .i64 a0.time, .int .u64 a0.t.id, .int .i64 a0.t.contract, .int .i64 a0.t.state, .int .i64 a0.t.level, .int .u64 a0.t.gen, .int .i64 a0.t.from_, .int .i64 a0.t.left, .int .i64 a0.t.due, .int .i64 a0.t.told, .slice A a0.fired.length n, .int .u64 a0.notice, .int .i64 a0.dead] : Array Value) := ⟨_, rfl⟩
        obtain ⟨R0, hR0⟩ : ∃ R0, R0 = (#[.int .i64 a0.code, .int .i64 a0.time, .int .u64 a0.t.id, .int .i64 a0.t.contract, .int .i64 a0.t.state, .int .i64 a0.t.level, .int .u64 a0.t.gen, .int .i64 a0.t.from_, .int .i64 a0.t.left, .int .i64 a0.t.due, .int .i64 a0.t.told, .slice A a0.fired.length n, .int .u64 a0.notice, .int .i64 a0.dead] : Array Value) := ⟨_, rfl⟩
        have HCn := Lib.hid (show C.size = 17 by rw [hC]; rfl)
        have HC1 := Lib.hid (show C.all (·.oneCell') = true by rw [hC]; simp [Value.oneCell'])
        have HR0n := Lib.hid (show R0.size = 14 by rw [hR0]; rfl)
        have HCR := Lib.hid (show (C.extract 3 (3 + 14)).toList = R0.toList by rw [hC, hR0]; rfl)
        have HRg := Lib.hid (show wr.rangeAt a (off + j * 17) C.toList from fun k u hk => by rw [Nat.add_assoc]; exact hc k u (by rw [hC] at hk; exact hk))
        have hc1 : C[1]? = some (.int .u64 c) := by rw [hC]; rfl
        have hc2 : C[2]? = some (.int .u64 q) := by rw [hC]; rfl
        have HCo := Lib.hid (show opVal ⟨K, c, q, a0, A, n⟩ = .agg C by rw [hC]; rfl)
        have HDn0 := Lib.hid (show ∀ w1, SesAt w1 g b s (fun k => k ≠ b ∧ k ≠ bd ∧ k ≠ bd + 1) → Touch (fun _ => False) w w1 → b < w1.heap.size → bd + 1 < w1.heap.size → Calls Try.prog 12 #[.pointer (some ⟨g, 0, none⟩), .int .u64 c, .int .u64 q, .agg R0] w1 (DoneP g b (fun k => k ≠ b ∧ k ≠ bd ∧ k ≠ bd + 1) (doneE s c q a0) (doneS s c q a0) w1) from fun w1 h1 t1 hb1 hb2 => by
          rw [hR0]
          exact sdone_any g b s _ _ h1 (fun k hk => ⟨by omega, by omega, by omega⟩) c q HC.out HQ.out a0 A n ((HRd.out.touch t1 (fun _ _ e => e)).mono (fun k hk => Nat.lt_of_lt_of_le hk t1.size)) HTk.out)
        clear hc ha hC hR0
        have HTA := Lib.hid (((Touch.refl (fun _ => False) wr).alloc (.cells C 37)).alloc (.cells #[.int .u64 c, .int .u64 q] 38))
        have HO1 := Lib.hid (HO.out.keep HTA.out)
        have HBo := Lib.hid ((Blk.new wr 37 C).alloc (.cells #[.int .u64 c, .int .u64 q] 38))
        have HBk := Lib.hid (show Blk ((wr.alloc (.cells C 37)).alloc (.cells #[.int .u64 c, .int .u64 q] 38)) (wr.heap.size + 1) 38 #[.int .u64 c, .int .u64 q] from by simpa using Blk.new (wr.alloc (.cells C 37)) 38 #[.int .u64 c, .int .u64 q])
        have hbr := HO.out.ses.map.choose_spec.1.lt
        have hdr := HO.out.last.choose_spec.1.lt
        obtain ⟨Z, hZ⟩ : ∃ Z, Z = (#[.int .i64 0, .int .i64 0, .int .u64 0, .int .i64 0, .int .i64 0, .int .i64 0, .int .u64 0, .int .i64 0, .int .i64 0, .int .i64 0, .int .i64 0, .slice none 0 0, .int .u64 0, .int .i64 0] : Array Value) := ⟨_, rfl⟩
        have HZn := Lib.hid (show Z.size = 14 by rw [hZ]; rfl)
        have HZ1 := Lib.hid (show Z.all (·.oneCell') = true by rw [hZ]; simp [Value.oneCell'])
        rcases lookK_cases s c q with ⟨hk, hlt⟩ | ⟨hk, hle, -⟩ | ⟨a, hk, hsa, hle⟩
        · have HLt := Lib.hid hlt
          have hdn : dn c q = false := by
            cases hd : dn c q
            · rfl
            · have := HO.out.i1 c q hd; omega
          have HDn := Lib.hid hdn
          have HLk := Lib.hid (slook_no g b s _ _ HO1.out.ses c q HC.out HQ.out (by rw [hk]; decide))
          rw [hk, ← hZ] at HLk
          clear hk hlt hdn
          clear hZ
          go_wp2_with (first
            | (refine loadC rowOp _ rfl rfl a (off + j * 17) rfl C HCn.out HRg.out ?_)
            | (refine storeC rowOp _ _ rfl rfl wr _ C rfl rfl rfl rfl HCn.out HC1.out ?_))
          refine HLk.out.mono ?_
          rintro e w4 ⟨rfl, t4⟩
          have HT4 := Lib.hid (t4.trans ((Touch.refl (fun _ => False) w4).alloc (.cells Z 35)) (fun _ _ e => e))
          have HO4 := Lib.hid (HO1.out.keep HT4.out)
          have hz4 : w4.heap.size < (w4.alloc (.cells Z 35)).heap.size := by simp
          have hzw := t4.size
          have hzr : wr.heap.size + 2 ≤ w4.heap.size := by simpa using hzw
          have HBk4 := Lib.hid (HT4.out.blk HBk.out (fun e => e))
          have HBo4 := Lib.hid (HT4.out.blk HBo.out (fun e => e))
          obtain ⟨k0, k1⟩ := HBk4.out.c2
          have r1 := HBo4.out.cell 1
          have r2 := HBo4.out.cell 2
          rw [hc1] at r1
          rw [hc2] at r2
          have HRr := Lib.hid (show (w4.alloc (.cells Z 35)).rangeAt wr.heap.size 3 R0.toList from HCR.out ▸ HBo4.out.range 3 14)
          have HDo := Lib.hid (HDn0.out _ HO4.out.ses HO4.out.t (by omega) (by omega))
          have hlk := HO4.out.done.look HC.out HQ.out
          rw [HDn.out] at hlk
          clear t4 hz4 hzw
          by_cases hE : doneE s c q a0 = 0
          · have hd1 : doneS s c q a0 = setS s c q a0 := by rw [doneS, if_pos hE]
            rw [hE, hd1] at HDo
            clear hE hd1
            go_wp2_with (first
              | (refine storeC rowRp _ _ rfl rfl w4 _ Z rfl rfl rfl rfl HZn.out HZ1.out ?_)
              | (refine loadC rowRp _ rfl rfl wr.heap.size 3 rfl R0 HR0n.out HRr.out ?_))
            refine HDo.out.mono ?_
            rintro e w5 ⟨rfl, hs5, t5⟩
            have HS5 := Lib.hid hs5
            have HT5 := Lib.hid t5
            have hnb1 : ¬ wr.heap.size + 1 = b := by omega
            have hnb2 : ¬ wr.heap.size = b := by omega
            have HBk5 := Lib.hid (t5.blk HBk4.out hnb1)
            have HBo5 := Lib.hid (t5.blk HBo4.out hnb2)
            obtain ⟨p0, p1, p2, p3, p4, p5, p6⟩ := HSp.out
            obtain ⟨w6, hrd, hd6, t6⟩ := (HO4.out.done.touch t5.drew (by omega)).store (by omega) HC.out HQ.out
            obtain ⟨w7, hrl, hl7, t7⟩ := ((HO4.out.last.touch t5.drew (by omega)).touch t6 (by omega)).store (by omega) HC.out ⟨K, c, q, a0, A, n⟩
            have HD6 := Lib.hid hd6
            have HT6 := Lib.hid t6
            have HL7 := Lib.hid hl7
            have HT7 := Lib.hid t7
            rw [HCo.out] at hrl
            clear hs5 t5 hd6 t6 hl7 t7 hlk k0 k1 r1 r2
            go_wp2_with fail
            obtain ⟨k0, k1⟩ := HBk5.out.c2
            refine wp_region_plan [(0, 0), (0, 1), (1, 2), (1, 3), (1, 4), (1, 5), (2, 6), (2, 7)] (fun k => k = bd ∨ k = bd + 1) (by kernel_rfl) (by kernel_rfl) (fun c a d v w h => by cases d <;> exact h) ?_
            iterate 2
              first
                | (refine plan_s1 rfl (by rfl) (fun Kc hKc => ?_)
                   go_simp
                   first
                     | (refine hKc _ ?_)
                   clear hKc Kc)
                | (refine plan_s0 rfl (by rfl) ?_; go_frame)
            iterate 2
              first
                | (apply plan_h
                   · rfl
                   · rfl
                   · intro wh hT
                     go_simp
                     try rfl
                   go_frame)
                | (refine plan_hn rfl (by rfl) ?_; go_frame)
            iterate 1
              first
                | (apply plan_h
                   · rfl
                   · rfl
                   · intro wh hT
                     have hf0 := show wh.cell? ⟨wr.heap.size, 1, none⟩ = some (.int .u64 c) from ((hT.blk HBo5.out (by omega)).cell 1).trans hc1
                     go_simp
                     try rfl
                   go_frame)
                | (refine plan_hn rfl (by rfl) ?_; go_frame)
            refine plan_hC rowOp rfl _ rfl rfl wr.heap.size 0 rfl C HCn.out (fun wh hT => (hT.blk HBo5.out (by omega)).whole) ?_
            clear k0 k1
            go_frame
            refine plan_a1 rfl (by rfl) (fun Kc hKc => ?_)
            go_simp
            refine hKc _ _ ⟨HT6.out.mono (fun _ _ e => .inl e), ?_⟩
            clear hKc Kc
            refine plan_a1 rfl (by rfl) (fun Kc hKc => ?_)
            go_simp
            refine hKc _ _ ⟨HT7.out.mono (fun _ _ e => .inr e), ?_⟩
            clear hKc Kc
            refine plan_done ?_
            clear hrd hrl
            go_wp2_with fail
            have HO7 := Lib.hid (HO4.out.did HSp.out ⟨K, c, q, a0, A, n⟩ HI.out HLt.out HS5.out HT5.out HD6.out (show Touch (fun k => k = bd) w5 w6 from (Touch.refl (fun k => k = bd) w5).drew.trans HT6.out (fun _ _ e => e)) HL7.out HT7.out)
            go_roundw
            case rel => exact ⟨j + 1, by omega, by go_num, _, _, _, HO7.out⟩
            case measure => simp [intOf]; omega
          · have HD1 := Lib.hid (show doneS s c q a0 = s by rw [doneS, if_neg hE])
            rw [HD1.out] at HDo
            obtain ⟨E, hE'⟩ : ∃ E, E = doneE s c q a0 := ⟨_, rfl⟩
            rw [← hE'] at HDo
            have hE0 : (E == 0) = false := by rw [hE']; simpa using hE
            clear hE hE'
            go_wp2_with (first
              | (refine storeC rowRp _ _ rfl rfl w4 _ Z rfl rfl rfl rfl HZn.out HZ1.out ?_)
              | (refine loadC rowRp _ rfl rfl wr.heap.size 3 rfl R0 HR0n.out HRr.out ?_))
            refine HDo.out.mono ?_
            rintro e w5 ⟨rfl, hs5, t5⟩
            have HO5 := Lib.hid (HO4.out.undone HSp.out hs5 t5)
            clear hs5 t5
            go_wp2_with fail
            go_roundw
            case rel => exact ⟨j + 1, by omega, by go_num, s, dn, la, HO5.out.mono (by omega)⟩
            case measure => simp [intOf]; omega
        · have hE : ¬ doneE s c q a0 = 0 := doneE_new hle
          have HLk := Lib.hid (slook_no g b s _ _ HO1.out.ses c q HC.out HQ.out (by rw [hk]; decide))
          rw [hk, ← hZ] at HLk
          clear hk hle
          clear hZ
          go_wp2_with (first
            | (refine loadC rowOp _ rfl rfl a (off + j * 17) rfl C HCn.out HRg.out ?_)
            | (refine storeC rowOp _ _ rfl rfl wr _ C rfl rfl rfl rfl HCn.out HC1.out ?_))
          refine HLk.out.mono ?_
          rintro e w4 ⟨rfl, t4⟩
          have HT4 := Lib.hid (t4.trans ((Touch.refl (fun _ => False) w4).alloc (.cells Z 35)) (fun _ _ e => e))
          have HO4 := Lib.hid (HO1.out.keep HT4.out)
          have hz4 : w4.heap.size < (w4.alloc (.cells Z 35)).heap.size := by simp
          have hzw := t4.size
          have hzr : wr.heap.size + 2 ≤ w4.heap.size := by simpa using hzw
          have HBk4 := Lib.hid (HT4.out.blk HBk.out (fun e => e))
          have HBo4 := Lib.hid (HT4.out.blk HBo.out (fun e => e))
          obtain ⟨k0, k1⟩ := HBk4.out.c2
          have r1 := HBo4.out.cell 1
          have r2 := HBo4.out.cell 2
          rw [hc1] at r1
          rw [hc2] at r2
          have HRr := Lib.hid (show (w4.alloc (.cells Z 35)).rangeAt wr.heap.size 3 R0.toList from HCR.out ▸ HBo4.out.range 3 14)
          have HDo := Lib.hid (HDn0.out _ HO4.out.ses HO4.out.t (by omega) (by omega))
          clear t4 hz4 hzw
          have HD1 := Lib.hid (show doneS s c q a0 = s by rw [doneS, if_neg hE])
          rw [HD1.out] at HDo
          obtain ⟨E, hE'⟩ : ∃ E, E = doneE s c q a0 := ⟨_, rfl⟩
          rw [← hE'] at HDo
          have hE0 : (E == 0) = false := by rw [hE']; simpa using hE
          clear hE hE'
          go_wp2_with (first
            | (refine storeC rowRp _ _ rfl rfl w4 _ Z rfl rfl rfl rfl HZn.out HZ1.out ?_)
            | (refine loadC rowRp _ rfl rfl wr.heap.size 3 rfl R0 HR0n.out HRr.out ?_))
          refine HDo.out.mono ?_
          rintro e w5 ⟨rfl, hs5, t5⟩
          have HO5 := Lib.hid (HO4.out.undone HSp.out hs5 t5)
          clear hs5 t5
          go_wp2_with fail
          go_roundw
          case rel => exact ⟨j + 1, by omega, by go_num, s, dn, la, HO5.out.mono (by omega)⟩
          case measure => simp [intOf]; omega
        · have hE : ¬ doneE s c q a0 = 0 := doneE_new hle
          obtain ⟨⟨K', c', q', a', A', n'⟩, hla, hq', ha', ho'⟩ := HO.out.i2 c q a hsa
          simp only at hq' ha'
          subst hq' ha'
          have h64 := HO.out.ses.ok.rep c q' a' hsa
          have hr' := ho'.2.2.2.2
          simp only at hr'
          have HRl := Lib.hid hr'
          obtain ⟨CL, hCL⟩ : ∃ CL, CL = (#[.int .i64 K', .int .u64 c', .int .u64 q', .int .i64 a'.code, .int .i64 a'.time, .int .u64 a'.t.id, .int .i64 a'.t.contract, .int .i64 a'.t.state, .int .i64 a'.t.level, .int .u64 a'.t.gen, .int .i64 a'.t.from_, .int .i64 a'.t.left, .int .i64 a'.t.due, .int .i64 a'.t.told, .slice A' a'.fired.length n', .int .u64 a'.notice, .int .i64 a'.dead] : Array Value) := ⟨_, rfl⟩
          obtain ⟨RL, hRL⟩ : ∃ RL, RL = (#[.int .i64 a'.code, .int .i64 a'.time, .int .u64 a'.t.id, .int .i64 a'.t.contract, .int .i64 a'.t.state, .int .i64 a'.t.level, .int .u64 a'.t.gen, .int .i64 a'.t.from_, .int .i64 a'.t.left, .int .i64 a'.t.due, .int .i64 a'.t.told, .slice A' a'.fired.length n', .int .u64 a'.notice, .int .i64 a'.dead] : Array Value) := ⟨_, rfl⟩
          have hf2 : ∀ w1 : World, (Instr.field 37 (.agg CL) 2).run Try.prog w1 = .ok (.int .u64 q') w1 := fun w1 => by rw [hCL]; kernel_rfl
          have hf3 : ∀ w1 : World, (Instr.field 37 (.agg CL) 3).run Try.prog w1 = .ok (.agg RL) w1 := fun w1 => by rw [hCL, hRL]; kernel_rfl
          have HCL := Lib.hid (show opVal ⟨K', c', q', a', A', n'⟩ = .agg CL by rw [hCL]; rfl)
          have HLa := Lib.hid hla
          have HLk := Lib.hid (slook_yes g b s _ _ HO1.out.ses c q' HC.out HQ.out a' hsa)
          have HSm := Lib.hid (show ∀ w1 g3 RA, RA = (#[.int .i64 a'.code, .int .i64 a'.time, .int .u64 a'.t.id, .int .i64 a'.t.contract, .int .i64 a'.t.state, .int .i64 a'.t.level, .int .u64 a'.t.gen, .int .i64 a'.t.from_, .int .i64 a'.t.left, .int .i64 a'.t.due, .int .i64 a'.t.told, .slice (some ⟨g3, 0, none⟩) a'.fired.length a'.fired.length, .int .u64 a'.notice, .int .i64 a'.dead] : Array Value) → Rd w1 (fun k => k = g3) (some ⟨g3, 0, none⟩) a'.fired.length (a'.fired.map U64) → Rd w1 (fun k => k < w.heap.size) A' a'.fired.length (a'.fired.map U64) →
            Calls Try.prog 11 #[.agg RA, .agg RL] w1 fun e w' => e = .returned (.bool true) ∧ Touch (fun _ => False) w1 w' from fun w1 g3 RA hRA h1 h2 => by
              rw [hRA, hRL]
              have := rsameR_any (fun k => k = g3) (fun k => k < w.heap.size) (some ⟨g3, 0, none⟩) A' a'.fired.length n' a' a' w1 h1 h2 (by omega)
              rw [rpSame_refl] at this
              exact this)
          clear hk hle hZ HZn HZ1 hsa hla hr' ho' hCL hRL
          go_wp2_with (first
            | (refine loadC rowOp _ rfl rfl a (off + j * 17) rfl C HCn.out HRg.out ?_)
            | (refine storeC rowOp _ _ rfl rfl wr _ C rfl rfl rfl rfl HCn.out HC1.out ?_))
          refine HLk.out.mono ?_
          rintro e w4 ⟨g3, rfl, hb3, hg3, t4⟩
          obtain ⟨RA, hRA⟩ : ∃ RA, RA = (#[.int .i64 a'.code, .int .i64 a'.time, .int .u64 a'.t.id, .int .i64 a'.t.contract, .int .i64 a'.t.state, .int .i64 a'.t.level, .int .u64 a'.t.gen, .int .i64 a'.t.from_, .int .i64 a'.t.left, .int .i64 a'.t.due, .int .i64 a'.t.told, .slice (some ⟨g3, 0, none⟩) a'.fired.length a'.fired.length, .int .u64 a'.notice, .int .i64 a'.dead] : Array Value) := ⟨_, rfl⟩
          rw [← hRA]
          have HRAn := Lib.hid (show RA.size = 14 by rw [hRA]; rfl)
          have HRA1 := Lib.hid (show RA.all (·.oneCell') = true by rw [hRA]; simp [Value.oneCell'])
          have HT4 := Lib.hid (t4.trans ((Touch.refl (fun _ => False) w4).alloc (.cells RA 35)) (fun _ _ e => e))
          have HO4 := Lib.hid (HO1.out.keep HT4.out)
          have hz4 : w4.heap.size < (w4.alloc (.cells RA 35)).heap.size := by simp
          have hzw := t4.size
          have hzr : wr.heap.size + 2 ≤ w4.heap.size := by simpa using hzw
          have HBk4 := Lib.hid (HT4.out.blk HBk.out (fun e => e))
          have HBo4 := Lib.hid (HT4.out.blk HBo.out (fun e => e))
          have HBr4 := Lib.hid (Blk.new w4 35 RA)
          have hb3' := hb3.alloc (.cells RA 35)
          have HR3 := Lib.hid (show Rd (w4.alloc (.cells RA 35)) (fun k => k = g3) (some ⟨g3, 0, none⟩) a'.fired.length (a'.fired.map U64) from ⟨by simp, fun _ => ⟨g3, 0, rfl, hb3'.lt, rfl, fun j u hj => by rw [Nat.zero_add]; exact (hb3'.cell j).trans (by simpa using hj)⟩⟩)
          obtain ⟨k0, k1⟩ := HBk4.out.c2
          have r1 := HBo4.out.cell 1
          have r2 := HBo4.out.cell 2
          rw [hc1] at r1
          rw [hc2] at r2
          have hll := HO4.out.last.look HC.out HLa.out
          rw [HCL.out] at hll
          have HS4 := Lib.hid (HSm.out _ g3 RA hRA HR3.out (HRl.out.touch HO4.out.t (fun _ _ e => e)))
          clear hb3 hb3' hg3 t4 hz4 hzw hRA
          go_wp2_with (first
            | (refine storeC rowRp _ _ rfl rfl w4 _ RA rfl rfl rfl rfl HRAn.out HRA1.out ?_)
            | (refine loadC rowRp _ rfl rfl w4.heap.size 0 rfl RA HRAn.out HBr4.out.whole ?_))
          refine HS4.out.mono ?_
          rintro e w6 ⟨rfl, t6⟩
          have HO6 := Lib.hid (HO4.out.keep t6)
          have hz6 := t6.size
          have HBo6 := Lib.hid (t6.blk HBo4.out (fun e => e))
          clear r1 r2 k0 k1 hll
          have r1 := HBo6.out.cell 1
          have r2 := HBo6.out.cell 2
          rw [hc1] at r1
          rw [hc2] at r2
          have HRr := Lib.hid (show w6.rangeAt wr.heap.size 3 R0.toList from HCR.out ▸ HBo6.out.range 3 14)
          have hzz : (w4.alloc (.cells RA 35)).heap.size = w4.heap.size + 1 := by simp
          have HDo := Lib.hid (HDn0.out _ HO6.out.ses HO6.out.t (by omega) (by omega))
          clear t6 hz6 hzz
          have HD1 := Lib.hid (show doneS s c q' a0 = s by rw [doneS, if_neg hE])
          rw [HD1.out] at HDo
          obtain ⟨E, hE'⟩ : ∃ E, E = doneE s c q' a0 := ⟨_, rfl⟩
          rw [← hE'] at HDo
          have hE0 : (E == 0) = false := by rw [hE']; simpa using hE
          clear hE hE'
          go_wp2_with (first
            | (refine loadC rowRp _ rfl rfl wr.heap.size 3 rfl R0 HR0n.out HRr.out ?_))
          refine HDo.out.mono ?_
          rintro e w5 ⟨rfl, hs5, t5⟩
          have HO5 := Lib.hid (HO6.out.undone HSp.out hs5 t5)
          clear hs5 t5
          go_wp2_with fail
          go_roundw
          case rel => exact ⟨j + 1, by omega, by go_num, s, dn, la, HO5.out.mono (by omega)⟩
          case measure => simp [intOf]; omega
      · obtain rfl : j = l0.length := by omega
        go_wp2_with (go_at_call 8; go_must (refine (lives20_any _).mono ?_); rintro e w1 ⟨rfl, t1⟩; have HT := Lib.hid (HO.out.t.trans t1 (fun _ _ e => e)); clear t1)
        go_ret
        exact ⟨rfl, HT.out.below⟩
end Go.Proofs.Ytmgmjehebbggaaa
