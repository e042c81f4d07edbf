/- The walk of DiskKeeps. (written by genDlD.py) -/
import Derived.Test.YtpgakkpmpnebnaaVDlC
import Derived.Test.YtpgakkpmpnebnaaVDlDp
namespace Go.Proofs.Ytpgakkpmpnebnaa
open Go.RowKit Go.Maps
set_option maxHeartbeats 4000000
set_option maxRecDepth 100000
set_option linter.unusedVariables false
attribute [local irreducible] wpPlan

/-- Both disks behind a call, the document's stored where it lies. -/
theorem did_both {w wr wo w3 w4 : World} {g b m tb : Nat} {E : Dk} {F RF F3 RF3 : Nat → Prop} {A3 : Option Addr} {c3 : Nat} (hgt : g ≠ tb ∧ b ≠ tb ∧ m ≠ tb) (hge : w.heap.size ≤ g ∧ w.heap.size ≤ b ∧ w.heap.size ≤ m ∧ w.heap.size ≤ tb)
    (hw : w.heap.size ≤ wr.heap.size) (hbl : tb < wr.heap.size) (hdl : g < wr.heap.size ∧ b < wr.heap.size ∧ m < wr.heap.size) (hF : ∀ q, F q → w.heap.size ≤ q ∧ q ≠ tb) (hRF : ∀ q, RF q → w.heap.size ≤ q ∧ q < wr.heap.size ∧ q ≠ tb ∧ q ≠ g ∧ q ≠ b ∧ q ≠ m)
    (hT : Touch (fun _ => False) w wr) (hTo : Touch (fun _ => False) wr wo)
    (hd3 : DkAt w3 g b m E F3) (hr3 : RfF w3 RF3 A3 E.fs) (hF3 : ∀ q, F3 q → F q ∨ (wo.heap.size ≤ q ∧ q < w3.heap.size)) (hRF3 : ∀ q, RF3 q → RF q ∨ (wo.heap.size ≤ q ∧ q < w3.heap.size)) (t3 : Touch (fun q => q = g ∨ q = b ∨ q = m) wo w3)
    (t4 : Touch (fun q => q = tb) w3 w4) (hb4 : Blk w4 tb 67 (rdA A3 c3 E)) : DkL w w4 g b m tb E := by
  have h1 := hTo.size
  have h3 := t3.size
  have h4 := t4.size
  refine ⟨F3, RF3, A3, c3, hd3.touch t4 hgt.1 hgt.2.1 hgt.2.2 (fun q hq e => ?_), hb4, hr3.touch t4 (fun q hq e => ?_), fun q hq => ?_, fun q hq => ?_, ((hT.trans hTo (fun _ _ e => e)).trans t3 (fun q hq e => by omega)).trans t4 (fun q hq e => by omega)⟩
  · rcases hF3 q hq with h | h
    · exact (hF q h).2 e
    · omega
  · rcases hRF3 q hq with h | h
    · exact (hRF q h).2.2.1 e
    · omega
  · rcases hF3 q hq with h | h
    · exact hF q h
    · omega
  · rcases hRF3 q hq with h | h
    · have := hRF q h; omega
    · omega
theorem walk_DiskKeeps {w : World} (A0 : Option Addr) (n0 c0 : Nat) (l0 : List Op23) (e0 : l0.length = n0) (o0 : ∀ x ∈ l0, x.okA w) (z0 : ∀ a ∈ l0, a.cells.length = 6) (g0 : A0 = none → c0 = 0) (u0 : n0 ≤ c0) (m0 : c0 ≤ maxLen) (s0 : RdZ w (fun k => k < w.heap.size) 6 A0 n0 (l0.flatMap Op23.cells))
    (A1 : Option Addr) (n1 c1 : Nat) (l1 : List Tr) (e1 : l1.length = n1) (o1 : ∀ x ∈ l1, trOk x) (z1 : ∀ a ∈ l1, (trC a).length = 2) (g1 : A1 = none → c1 = 0) (u1 : n1 ≤ c1) (m1 : c1 ≤ maxLen) (s1 : RdZ w (fun k => k < w.heap.size) 2 A1 n1 (l1.flatMap trC)) :
    Calls Try.prog 8 #[.slice A0 n0 c0, .slice A1 n1 c1] w fun e w' => e = .returned (.bool true) ∧ Below w.heap.size w w' := by
  subst e0 e1
  have HS0 := Lib.hid s0
  have HO0 := Lib.hid o0
  have HS1 := Lib.hid (show TrR w (fun k => k < w.heap.size) A1 l1.length l1 from ⟨rfl, s1⟩)
  have HO1 := Lib.hid o1
  have HC1 := Lib.hid (And.intro u1 m1)
  unfold maxLen at m0 m1
  have HLi := Lib.hid (light23_any _ A0 c0 l0 w s0 (by omega))
  clear o0 z0 g0 s0 u0 o1 z1 g1 s1
  cases hl : light23 l0
  · rw [hl] at HLi
    clear hl
    go_enter Try.func8, Try.ntmps8
    go_wp2_with (first
      | (go_at_call 30; go_must (refine HLi.out.mono ?_); rintro e w0 ⟨rfl, t0⟩; have HT0 := Lib.hid t0; clear t0)
      | (go_at_call 32; go_must (refine (lives23_any _).mono ?_); rintro e w9 ⟨rfl, t9⟩; have HT9 := Lib.hid t9; clear t9))
    go_ret
    exact ⟨rfl, (HT0.out.trans HT9.out (fun _ _ e => e)).below⟩
  · rw [hl] at HLi
    obtain ⟨hLo, hlen⟩ := light23_all hl
    have HLo := Lib.hid hLo
    clear hl hLo
    by_cases hl1 : 40 < l1.length
    · have hi1 : (40 : Int) < (l1.length : Int) := by omega
      go_enter Try.func8, Try.ntmps8
      go_wp2_with (first
        | (go_at_call 30; go_must (refine HLi.out.mono ?_); rintro e w0 ⟨rfl, t0⟩; have HT0 := Lib.hid t0; clear t0)
        | (go_at_call 32; go_must (refine (lives23_any _).mono ?_); rintro e w9 ⟨rfl, t9⟩; have HT9 := Lib.hid t9; clear t9))
      go_ret
      exact ⟨rfl, (HT0.out.trans HT9.out (fun _ _ e => e)).below⟩
    · have hi1 : ¬ (40 : Int) < (l1.length : Int) := by omega
      go_enter Try.func8, Try.ntmps8
      go_wp2_with (first
        | (go_at_call 30; go_must (refine HLi.out.mono ?_); rintro e w0 ⟨rfl, t0⟩; have HT0 := Lib.hid t0; clear t0)
        | (go_at_call 31; go_must (refine (dnew_yes 4000 ⟨by omega, by omega⟩ w0).mono ?_)
           rintro e w2 ⟨g, b, m, rfl, hd, hg, hb, hm, t2⟩
           have HD0 := Lib.hid hd
           have HT2 := Lib.hid (HT0.out.trans t2 (fun _ _ e => e))
           have hs0 := HT0.out.size
           have hlt0 := hd.lt
           clear hd t2)
        | (go_at_call 33; go_must (refine (fnew_any 4000 w2).mono ?_)
           rintro e w3 ⟨rfl, t3⟩
           rw [show rdA none 0 ⟨4000, [], false, -1, 0⟩ = #[.int .i64 4000, .slice none 0 0, .bool false, .int .i64 (-1), .int .u64 0] from rfl]
           have HL0 := Lib.hid (new_both (w3 := w3) 4000 HD0.out HT2.out t3)
           have hs3 := t3.size
           clear t3))
      obtain ⟨tb, htb⟩ : ∃ tb, tb = w3.heap.size := ⟨_, rfl⟩
      have hs2 := HT2.out.size
      rw [← htb] at HL0 ⊢
      have hgt : g ≠ tb ∧ b ≠ tb ∧ m ≠ tb := by omega
      have hge : w.heap.size ≤ g ∧ w.heap.size ≤ b ∧ w.heap.size ≤ m ∧ w.heap.size ≤ tb := by omega
      clear HD0 HT2 HT0 hs0 hlt0 hs3 hs2 htb hg hb hm
      go_loopw [30] (fun i wr => ∃ j : Nat, j ≤ l0.length ∧ i = .int .i64 j ∧ ∃ D, D.steps ≤ j ∧ DkL w wr g b m tb D) (fun i _ => l0.length - (intOf i).toNat)
      case atStart => exact ⟨0, by omega, rfl, _, Nat.le_refl _, HL0.out⟩
      case round =>
        clear HL0 HLi
        obtain ⟨j, hj, rfl, D, hst, F, RF, A, c, hd, hb, hr, hF, hRF, hT⟩ := hrel
        have hTs := hT.size
        have HT := Lib.hid hT
        have HD := Lib.hid hd
        have HB := Lib.hid hb
        have HR := Lib.hid hr
        have HF := Lib.hid hF
        have HRF := Lib.hid hRF
        clear hd hb hr hF hRF hT
        by_cases hjk : j < l0.length
        · have ha : l0[j]? = some (l0[j]'hjk) := List.getElem?_eq_getElem _
          have HI := Lib.hid (HO0.out _ (List.getElem_mem hjk))
          have hlo := HLo.out _ (List.getElem_mem hjk)
          obtain ⟨a, off, rfl, -, -, hc⟩ := (HS0.out.touch HT.out (fun _ _ e => e)).at_ (fun a _ => op23_len a) rfl ha
          generalize l0[j]'hjk = o at *
          have q0 := hc 0 _ rfl; have q1 := hc 1 _ rfl; have q2 := hc 2 _ rfl; have q3 := hc 3 _ rfl; have q4 := hc 4 _ rfl; have q5 := hc 5 _ rfl; skip
          simp only [Nat.add_zero, ← Nat.add_assoc] at q0 q1 q2 q3 q4 q5
          obtain ⟨wo, hwo⟩ : ∃ wo, wo = wr.alloc (.cells #[.int .i64 o.k, .int .i64 o.n, St o.nm, St o.to_, St o.tx, .slice o.A o.ts.length o.c] 71) := ⟨_, rfl⟩
          have HWo := Lib.hid hwo
          have HTo := Lib.hid (show Touch (fun _ => False) wr wo from hwo ▸ (Touch.refl (fun _ => False) wr).alloc _)
          have hso : wo.heap.size = wr.heap.size + 1 := by rw [hwo]; simp
          have hbl := HB.out.lt
          obtain ⟨E, hE⟩ : ∃ E, E = doV D o := ⟨_, rfl⟩
          have hEs : E.steps ≤ j + 1 := by have := doV_steps D o; rw [← hE] at this; omega
          have hdl := HD.out.lt
          have HDo := Lib.hid (show Calls Try.prog 34 #[.pointer (some ⟨g, 0, none⟩), .agg #[.int .i64 D.room, .slice A D.fs.length c, .bool D.down, .int .i64 D.armed, .int .u64 (D.steps : Int)], .agg #[.int .i64 o.k, .int .i64 o.n, St o.nm, St o.to_, St o.tx, .slice o.A o.ts.length o.c]] wo (DoP g b m E F RF wo) from by
            rw [hE]
            exact ldo_any o D g b m F RF (fun k => k < w.heap.size) A c wo (HD.out.far HTo.out) (HR.out.touch HTo.out (fun _ _ e => e)) (fun q hq => by have := HRF.out q hq; omega) ⟨HI.out.1, HI.out.2.1, HI.out.2.2.1, HI.out.2.2.2.1, HI.out.2.2.2.2.touch (HT.out.trans HTo.out (fun _ _ e => e)) (fun _ _ e => e)⟩ (fun q hq => by omega) hlo (by omega))
          unfold DoP at HDo
          have hbo := HB.out
          have p0 := hbo.cell 0
          have p1 := hbo.cell 1
          have p2 := hbo.cell 2
          have p3 := hbo.cell 3
          have p4 := hbo.cell 4
          simp [rdA] at p0 p1 p2 p3 p4
          clear hc ha hwo hE hbo
          go_wp2_with (first
            | (go_at_call 34; rw [← HWo.out]; go_must (refine HDo.out.mono ?_); rintro e w3 ⟨A3, c3, F3, RF3, rfl, hd3, hr3, hF3, hRF3, t3⟩
               rw [show rdA A3 c3 E = #[.int .i64 E.room, .slice A3 E.fs.length c3, .bool E.down, .int .i64 E.armed, .int .u64 (E.steps : Int)] from rfl]
               have HB3 := Lib.hid (t3.blk (HTo.out.blk HB.out (fun e => e)) (by omega))
               have hb3 := HB3.out
               have HL4 := Lib.hid (did_both hgt hge hTs hbl hdl HF.out HRF.out HT.out HTo.out hd3 hr3 hF3 hRF3 t3 (tch5 (w := w3) tb (.int .i64 E.room) (.slice A3 E.fs.length c3) (.bool E.down) (.int .i64 E.armed) (.int .u64 (E.steps : Int))) (blk5 hb3 (.int .i64 E.room) (.slice A3 E.fs.length c3) (.bool E.down) (.int .i64 E.armed) (.int .u64 (E.steps : Int))))
               clear p0 p1 p2 p3 p4
               have p0 := hb3.cell 0
               have p1 := hb3.cell 1
               have p2 := hb3.cell 2
               have p3 := hb3.cell 3
               have p4 := hb3.cell 4
               have m0 := hb3.frozen 0; have m1 := hb3.frozen 1; have m2 := hb3.frozen 2; have m3 := hb3.frozen 3; have m4 := hb3.frozen 4
               simp [rdA] at p0 p1 p2 p3 p4
               clear hd3 hr3 hF3 hRF3 t3 hb3))
          go_roundw
          case rel => exact ⟨j + 1, by omega, by go_num, E, hEs, HL4.out⟩
          case measure => simp [intOf]; omega
        · obtain rfl : j = l0.length := by omega
          have hn128 := HD.out.ok.n
          have HOk := Lib.hid HD.out.ok
          have hdl := HD.out.lt
          obtain ⟨C, hC⟩ : ∃ C, C = D.crash l1 := ⟨_, rfl⟩
          have hCd : C.down = true := by rw [hC]; rfl
          have HCf := Lib.hid (show C.fs = crashF D.fs l1 from by rw [hC]; rfl)
          have HCr := Lib.hid (show ∀ W : World, Touch (fun _ => False) w W → DkAt W g b m D F → Calls Try.prog 43 #[.pointer (some ⟨g, 0, none⟩), .slice A1 l1.length c1] W fun e w' => e = .returned (.int .i64 0) ∧ ∃ F', DkAt w' g b m C F' ∧ Touch (fun q => q = g ∨ q = b ∨ q = m) W w' from fun W t h => by
            have hts := t.size
            refine (dcrash_any h l1 (HS1.out.touch t (fun _ _ e => e)) (fun q hq => by omega) HC1.out HO1.out).mono ?_
            rintro e w' ⟨e1, F', h1, -, t1⟩
            rw [← hC] at h1
            exact ⟨e1, F', h1, t1⟩)
          clear hC
          go_wp2_with (first
            | (go_at_call 42
               have M9 := HD6
               go_must (refine (dfiles_any HD6.out).mono ?_); rintro e w7 ⟨ys, YA, yc, rfl, hyf, hyr, hyx, t7⟩
               have HYf := Lib.hid hyf
               have HYr := Lib.hid hyr
               have HYx := Lib.hid hyx
               have HT7 := Lib.hid (HT6.out.trans t7 (fun _ _ e => e))
               have HXr7 := Lib.hid (HXr6.out.touch t7 (fun _ _ e => e))
               have HXx7 := Lib.hid (fun x hx => (HXx6.out x hx).touch t7 (fun _ _ e => e))
               clear hyf hyr hyx t7)
            | (go_at_call 42
               go_must (refine (dfiles_any HD.out).mono ?_); rintro e w5 ⟨xs, XA, xc, rfl, hxf, hxr, hxx, t5⟩
               have HXf := Lib.hid hxf
               have HXr := Lib.hid hxr
               have HXx := Lib.hid hxx
               have HT5 := Lib.hid (HT.out.trans t5 (fun _ _ e => e))
               have HD5 := Lib.hid (HD.out.far t5)
               have hs5 := t5.size
               have hxl : xs.length = D.fs.length := by have := congrArg List.length hxf; simpa using this
               clear hxf hxr hxx t5)
            | (go_at_call 43
               go_must (refine (HCr.out w5 HT5.out HD5.out).mono ?_); rintro e w6 ⟨rfl, F6, hd6, t6⟩
               have HD6 := Lib.hid hd6
               have HT6 := Lib.hid (HT5.out.trans t6 (fun q hq e => by omega))
               have HXr6 := Lib.hid (HXr.out.touch t6 (fun q hq e => by omega))
               have HXx6 := Lib.hid (fun x hx => (HXx.out x hx).touch t6 (fun q hq e => by omega))
               clear hd6 t6)
            | (go_at_call 36; go_must (refine (ddown_any HD6.out).mono ?_); rintro e wb ⟨rfl, rfl⟩))
          clear hCd HXr HXr6 HXx HXx6 HCr HD HD5 HD6 HT HT5 HT6 HB HR HF HRF
          rw [HCf.out] at HYf
          go_loopw [11, 57] (fun at_ s wx => ∃ (i : Nat) (done : List Fi) (tsi : List Tr), i ≤ D.fs.length ∧ done.length ≤ i ∧ at_ = .int .i64 done.length ∧ s = .int .i64 i ∧ crashF D.fs l1 = done ++ crashF (D.fs.drop i) tsi ∧ Touch (fun _ => False) w7 wx) (fun _ s _ => D.fs.length - (intOf s).toNat)
          case atStart => exact ⟨0, [], l1, by omega, Nat.le_refl _, rfl, rfl, rfl, Touch.refl _ _⟩
          case round =>
            obtain ⟨i, done, tsi, hi, hdi, rfl, rfl, hcr, hTx⟩ := hrel
            have HTx := Lib.hid hTx
            have HCr := Lib.hid hcr
            have hyl : ys.length = (crashF D.fs l1).length := by have := congrArg List.length HYf.out; simpa using this
            clear hTx hcr
            by_cases hin : i < D.fs.length
            · obtain ⟨x, hx⟩ : ∃ x, xs[i]? = some x := ⟨_, List.getElem?_eq_getElem (by omega)⟩
              have hff : D.fs[i]? = some x.f := by rw [← HXf.out, List.getElem?_map, hx]; rfl
              have hfm := List.mem_of_getElem? hff
              have hfo := HOk.out.nm x.f hfm
              have hal := Nat.le_trans (len_le_tot hfm) HOk.out.tot
              have hdr : D.fs.drop i = x.f :: D.fs.drop (i + 1) := by rw [List.drop_eq_getElem_cons hin]; congr 1; rw [List.getElem?_eq_getElem hin] at hff; exact Option.some.inj hff
              obtain ⟨gx, ox, rfl, hgx, -, hc⟩ := RdZ.at_ (HXr7.out.touch HTx.out (fun _ _ e => e)) (fun a _ => FlX.len a) rfl hx
              have h0 := hc 0 _ rfl
              have h1 := hc 1 _ rfl
              have h2 := hc 2 _ rfl
              simp only [Nat.add_zero, ← Nat.add_assoc] at h0 h1 h2
              have HFx := Lib.hid ((HXx7.out x (List.mem_of_getElem? hx)).touch HTx.out (fun _ _ e => e))
              obtain ⟨wo, hwo⟩ : ∃ wo, wo = wr.alloc (.cells #[St x.f.nm, .slice x.A1 x.f.kp x.c1, .slice x.A2 (x.f.al.length - x.f.kp) x.c2] 90) := ⟨_, rfl⟩
              have HWo := Lib.hid hwo
              have HTo := Lib.hid (show Touch (fun _ => False) wr wo from hwo ▸ (Touch.refl (fun _ => False) wr).alloc _)
              have HBo := Lib.hid (show Blk wo wr.heap.size 90 #[St x.f.nm, .slice x.A1 x.f.kp x.c1, .slice x.A2 (x.f.al.length - x.f.kp) x.c2] from hwo ▸ Blk.new wr _ _)
              have hso : wo.heap.size = wr.heap.size + 1 := by rw [hwo]; simp
              have HSo := Lib.hid (show Sorted D.fs from HOk.out.so)
              obtain ⟨W, hW⟩ : ∃ z, z = wo.drew := ⟨_, rfl⟩
              have HTW := Lib.hid ((Touch.refl (fun _ => False) wo).trans (show Touch (fun _ => False) wo W from hW ▸ (Touch.refl _ _).drew) (fun _ _ e => e))
              clear hwo hc hx
              obtain ⟨ts', hst⟩ := crash_step x.f (D.fs.drop (i + 1)) tsi hfo.2.2
              rcases hst with ⟨k, hcs, hk1, hk2, hk3, hk4⟩ | ⟨hcs, hk0⟩
              · have hyl2 : done.length < ys.length := by rw [hyl, HCr.out, hdr, hcs]; simp
                have HCr2 := Lib.hid (show crashF D.fs l1 = (done ++ [(⟨x.f.nm, k, k.length⟩ : Fi)]) ++ crashF (D.fs.drop (i + 1)) ts' by rw [HCr.out, hdr, hcs]; simp)
                obtain ⟨y, hy⟩ : ∃ y, ys[done.length]? = some y := ⟨_, List.getElem?_eq_getElem hyl2⟩
                have hyf : y.f = ⟨x.f.nm, k, k.length⟩ := by
                  have h9 : (ys.map FlX.f)[done.length]? = some y.f := by rw [List.getElem?_map, hy]; rfl
                  rw [HYf.out, HCr2.out, List.append_assoc, List.getElem?_append_right (Nat.le_refl _), Nat.sub_self] at h9
                  simpa using h9.symm
                obtain ⟨yg, yo, rfl, hyg, -, hc⟩ := RdZ.at_ (HYr.out.touch (HTx.out.trans HTo.out (fun _ _ e => e)) (fun _ _ e => e)) (fun a _ => FlX.len a) rfl hy
                have hy0 : wo.cell? ⟨yg, yo + done.length * 3, none⟩ = some (St x.f.nm) := by have := hc 0 _ rfl; rw [hyf] at this; exact this
                have hy1 : wo.cell? ⟨yg, yo + done.length * 3 + 1, none⟩ = some (.slice y.A1 k.length y.c1) := by have := hc 1 _ rfl; rw [hyf, ← Nat.add_assoc] at this; exact this
                have hy2 : wo.cell? ⟨yg, yo + done.length * 3 + 2, none⟩ = some (.slice y.A2 0 y.c2) := by have := hc 2 _ rfl; rw [hyf, ← Nat.add_assoc, show (⟨x.f.nm, k, k.length⟩ : Fi).al.length - (⟨x.f.nm, k, k.length⟩ : Fi).kp = 0 from Nat.sub_self _] at this; exact this
                have hybt := ((HYx.out y (List.mem_of_getElem? hy)).1.1.touch (HTx.out.trans HTo.out (fun _ _ e => e)) (fun _ _ e => e))
                rw [hyf, List.take_length] at hybt
                have HYb := Lib.hid hybt
                have HFo := Lib.hid (HFx.out.touch HTo.out (fun _ _ e => e))
                obtain ⟨K, hK⟩ : ∃ K, K = x.f.al.take x.f.kp := ⟨_, rfl⟩
                obtain ⟨L, hL⟩ : ∃ L, L = x.f.al.drop x.f.kp := ⟨_, rfl⟩
                have hkl : K.length = x.f.kp := by rw [hK]; simp; omega
                have hll : L.length = x.f.al.length - x.f.kp := by rw [hL]; simp
                have hb1 := HFo.out.1.1
                have hb2 := HFo.out.2.1
                rw [← hK, hkl] at hb1
                rw [← hL, hll] at hb2
                have HK1 := Lib.hid hb1
                have HK2 := Lib.hid hb2
                have hKL : (⟨K.toArray⟩ ++ ⟨L.toArray⟩ : ByteArray) = ⟨x.f.al.toArray⟩ := by rw [bytes_app, hK, hL, List.take_append_drop]
                have hcl : ¬ 9223372036854775807 < K.length + L.length := by omega
                rw [← hK] at hk3
                obtain ⟨sf, hsf⟩ : ∃ sf, sf = max x.f.kp (k.length - 3) := ⟨_, rfl⟩
                rw [← hsf] at hk4
                have hsk := stSize k
                have hsx := stSize x.f.al
                have hwm : IntKind.i64.wrap ((k.length : Int) - 3) = (k.length : Int) - 3 := IntWalk.i64_in _ (by omega)
                have hmx : max (x.f.kp : Int) ((k.length : Int) - 3) = (sf : Int) := by rw [hsf]; omega
                have hq1i : decide ((x.f.al.length : Int) < (k.length : Int)) = false := by simp only [decide_eq_false_iff_not]; omega
                have hq1n : decide (x.f.al.length < k.length) = false := by simp only [decide_eq_false_iff_not]; omega
                have hq2i : decide ((k.length : Int) < (x.f.kp : Int)) = false := by simp only [decide_eq_false_iff_not]; omega
                have hq2n : decide (k.length < x.f.kp) = false := by simp only [decide_eq_false_iff_not]; omega
                have hd1i : decide ((ys.length : Int) ≤ (done.length : Int)) = false := by simp only [decide_eq_false_iff_not]; omega
                have hd1n : decide (ys.length ≤ done.length) = false := by simp only [decide_eq_false_iff_not]; omega
                have hsl1 := st_h k x.f.kp hk2
                rw [hk3] at hsl1
                have hsl2 := st_h k sf (by omega)
                have hsl3 := st_h x.f.al sf (by omega)
                rw [hk4] at hsl2
                clear hK hL hb1 hb2 hkl hll hc hy hyf hybt hcs hdr hsf hk1 hk2 hk3 hk4 hff hfm hyl HFx
                have c0 := (HTW.out).blk HBo.out (fun e => e) |>.cell 0
                have c1' := (HTW.out).blk HBo.out (fun e => e) |>.cell 1
                have c2 := (HTW.out).blk HBo.out (fun e => e) |>.cell 2
                simp at c0 c1' c2
                have d0 := ((HTW.out).cell (p := ⟨yg, yo + done.length * 3, none⟩) hyg (fun e => e)).trans hy0
                have d1 := ((HTW.out).cell (p := ⟨yg, yo + done.length * 3 + 1, none⟩) hyg (fun e => e)).trans hy1
                have d2 := ((HTW.out).cell (p := ⟨yg, yo + done.length * 3 + 2, none⟩) hyg (fun e => e)).trans hy2
                go_wp2_with fail
                rw [← HWo.out]
                refine wp_region_plan [(0, 0), (0, 1), (0, 2), (0, 3), (0, 4), (0, 5), (0, 6), (0, 7), (0, 8), (0, 9), (0, 10), (0, 11), (0, 12), (0, 13)] (fun _ => False) (by kernel_rfl) (by kernel_rfl) (fun c a d v w h => by cases d <;> exact h) ?_
                rw [← hW]
                clear hW
                iterate 14
                  refine plan_s1 rfl (by rfl) (fun Kc hKc => ?_)
                  go_simp
                  first
                    | (refine hKc _ ?_)
                  clear hKc Kc
                refine plan_done ?_
                clear c0 c1' c2
                clear d0 d1 d2
                have hv1 := (HYb.out.touch HTW.out (fun _ _ e => e)).str y.c1
                have hv2 := (HK1.out.touch HTW.out (fun _ _ e => e)).str x.c1
                have hv3 := (HK2.out.touch HTW.out (fun _ _ e => e)).str x.c2
                have c0 := (HTW.out).blk HBo.out (fun e => e) |>.cell 0
                have c1' := (HTW.out).blk HBo.out (fun e => e) |>.cell 1
                have c2 := (HTW.out).blk HBo.out (fun e => e) |>.cell 2
                simp at c0 c1' c2
                have d0 := ((HTW.out).cell (p := ⟨yg, yo + done.length * 3, none⟩) hyg (fun e => e)).trans hy0
                have d1 := ((HTW.out).cell (p := ⟨yg, yo + done.length * 3 + 1, none⟩) hyg (fun e => e)).trans hy1
                have d2 := ((HTW.out).cell (p := ⟨yg, yo + done.length * 3 + 2, none⟩) hyg (fun e => e)).trans hy2
                go_wp2_with fail
                clear hv1 hv2 hv3
                clear c0 c1' c2
                clear d0 d1 d2
                obtain ⟨V, hV⟩ : ∃ z, z = W.drew := ⟨_, rfl⟩
                have HTV := Lib.hid ((HTW.out).trans (show Touch (fun _ => False) W V from hV ▸ (Touch.refl _ _).drew) (fun _ _ e => e))
                have hv2 := (HK1.out.touch HTV.out (fun _ _ e => e)).str x.c1
                have c0 := (HTV.out).blk HBo.out (fun e => e) |>.cell 0
                have c1' := (HTV.out).blk HBo.out (fun e => e) |>.cell 1
                have c2 := (HTV.out).blk HBo.out (fun e => e) |>.cell 2
                simp at c0 c1' c2
                have d0 := ((HTV.out).cell (p := ⟨yg, yo + done.length * 3, none⟩) hyg (fun e => e)).trans hy0
                have d1 := ((HTV.out).cell (p := ⟨yg, yo + done.length * 3 + 1, none⟩) hyg (fun e => e)).trans hy1
                have d2 := ((HTV.out).cell (p := ⟨yg, yo + done.length * 3 + 2, none⟩) hyg (fun e => e)).trans hy2
                refine wp_region_plan [(0, 0), (0, 1), (0, 2), (0, 3), (0, 4), (0, 5), (0, 6), (0, 7), (0, 8), (0, 9), (0, 10), (0, 11), (0, 12), (0, 13), (0, 14), (0, 15), (0, 16), (0, 17), (0, 18), (0, 19), (0, 20), (0, 21), (0, 22), (0, 23), (0, 24), (0, 25), (0, 26), (0, 27), (0, 28), (0, 29), (0, 30), (0, 31), (0, 32)] (fun _ => False) (by kernel_rfl) (by kernel_rfl) (fun c a d v w h => by cases d <;> exact h) ?_
                rw [← hV]
                clear hV
                iterate 33
                  refine plan_s1 rfl (by rfl) (fun Kc hKc => ?_)
                  go_simp
                  first
                    | (refine hKc _ ?_)
                  clear hKc Kc
                refine plan_done ?_
                go_wp2_with fail
                clear hv2
                clear c0 c1' c2
                clear d0 d1 d2
                obtain ⟨U, hU⟩ : ∃ z, z = V.drew := ⟨_, rfl⟩
                have HTU := Lib.hid ((HTV.out).trans (show Touch (fun _ => False) V U from hU ▸ (Touch.refl _ _).drew) (fun _ _ e => e))
                refine wp_region_plan [(0, 0), (0, 1), (0, 2), (0, 3), (0, 4), (0, 5), (0, 6)] (fun _ => False) (by kernel_rfl) (by kernel_rfl) (fun c a d v w h => by cases d <;> exact h) ?_
                rw [← hU]
                clear hU
                iterate 7
                  refine plan_s1 rfl (by rfl) (fun Kc hKc => ?_)
                  go_simp
                  first
                    | (refine hKc _ ?_)
                  clear hKc Kc
                refine plan_done ?_
                go_wp2_with fail
                go_roundw
                case rel => exact ⟨i + 1, done ++ [⟨x.f.nm, k, k.length⟩], ts', by omega, (by simp; omega), by simp, by simp, HCr2.out, (HTx.out.trans HTo.out (fun _ _ e => e)).trans HTU.out (fun _ _ e => e)⟩
                case measure => simp [intOf]; omega
              · have HCr2 := Lib.hid (show crashF D.fs l1 = done ++ crashF (D.fs.drop (i + 1)) ts' by rw [HCr.out, hdr, hcs])
                have hk9 : decide ((0 : Int) < (x.f.kp : Int)) = false := by simp only [decide_eq_false_iff_not]; omega
                have hk8 : decide (0 < x.f.kp) = false := by simp only [decide_eq_false_iff_not]; omega
                clear hk0
                by_cases hyl2 : done.length < ys.length
                · obtain ⟨y, hy⟩ : ∃ y, ys[done.length]? = some y := ⟨_, List.getElem?_eq_getElem hyl2⟩
                  have hyf : y.f.nm ≠ x.f.nm := by
                    have h9 : (ys.map FlX.f)[done.length]? = some y.f := by rw [List.getElem?_map, hy]; rfl
                    rw [HYf.out, HCr2.out, List.getElem?_append_right (Nat.le_refl _), Nat.sub_self] at h9
                    obtain ⟨z, hz, hze⟩ := crash_sub (List.mem_of_getElem? h9)
                    rw [← hze]
                    intro e
                    have hs := HSo.out
                    have hs2 : Sorted (D.fs.drop i) := hs.sublist (List.drop_sublist _ _)
                    rw [hdr] at hs2
                    have h3 := (List.pairwise_cons.1 hs2).1 z hz
                    rw [e, ltB_irr] at h3
                    cases h3
                  obtain ⟨yg, yo, rfl, hyg, -, hc⟩ := RdZ.at_ (HYr.out.touch (HTx.out.trans HTo.out (fun _ _ e => e)) (fun _ _ e => e)) (fun a _ => FlX.len a) rfl hy
                  have hy0 : wo.cell? ⟨yg, yo + done.length * 3, none⟩ = some (St y.f.nm) := hc 0 _ rfl
                  have hne : (y.f.nm == x.f.nm) = false := by simpa using hyf
                  have hd1i : decide ((ys.length : Int) ≤ (done.length : Int)) = false := by simp only [decide_eq_false_iff_not]; omega
                  have hd1n : decide (ys.length ≤ done.length) = false := by simp only [decide_eq_false_iff_not]; omega
                  have d0 := (HTW.out.cell (p := ⟨yg, yo + done.length * 3, none⟩) hyg (fun e => e)).trans hy0
                  clear hc hy hyf hcs hdr hff hfm hyl HFx
                  have c0 := (HTW.out).blk HBo.out (fun e => e) |>.cell 0
                  have c1' := (HTW.out).blk HBo.out (fun e => e) |>.cell 1
                  have c2 := (HTW.out).blk HBo.out (fun e => e) |>.cell 2
                  simp at c0 c1' c2
                  go_wp2_with fail
                  rw [← HWo.out]
                  refine wp_region_plan [(0, 0), (0, 1), (0, 2), (0, 3), (0, 4), (0, 5), (0, 6), (0, 7), (0, 8), (0, 9), (0, 10), (0, 11), (0, 12), (0, 13)] (fun _ => False) (by kernel_rfl) (by kernel_rfl) (fun c a d v w h => by cases d <;> exact h) ?_
                  rw [← hW]
                  clear hW
                  iterate 14
                    refine plan_s1 rfl (by rfl) (fun Kc hKc => ?_)
                    go_simp
                    first
                      | (refine hKc _ ?_)
                    clear hKc Kc
                  refine plan_done ?_
                  go_wp2_with fail
                  go_roundw
                  case rel => exact ⟨i + 1, done, ts', by omega, by omega, rfl, by simp, HCr2.out, (HTx.out.trans HTo.out (fun _ _ e => e)).trans HTW.out (fun _ _ e => e)⟩
                  case measure => simp [intOf]; omega
                · have hdl2 : (ys.length : Int) ≤ (done.length : Int) := by omega
                  have hd1i : decide ((ys.length : Int) ≤ (done.length : Int)) = true := by simp only [decide_eq_true_eq]; omega
                  have hd1n : decide (ys.length ≤ done.length) = true := by simp only [decide_eq_true_eq]; omega
                  clear hdl2
                  clear hcs hdr hff hfm hyl HFx
                  have c0 := (HTW.out).blk HBo.out (fun e => e) |>.cell 0
                  have c1' := (HTW.out).blk HBo.out (fun e => e) |>.cell 1
                  have c2 := (HTW.out).blk HBo.out (fun e => e) |>.cell 2
                  simp at c0 c1' c2
                  go_wp2_with fail
                  rw [← HWo.out]
                  refine wp_region_plan [(0, 0), (0, 1), (0, 2), (0, 3), (0, 4), (0, 5), (0, 6), (0, 7), (0, 8), (0, 9), (0, 10), (0, 11), (0, 12), (0, 13)] (fun _ => False) (by kernel_rfl) (by kernel_rfl) (fun c a d v w h => by cases d <;> exact h) ?_
                  rw [← hW]
                  clear hW
                  iterate 5
                    refine plan_s1 rfl (by rfl) (fun Kc hKc => ?_)
                    go_simp
                    first
                      | (refine hKc _ ?_)
                    clear hKc Kc
                  iterate 8
                    refine plan_s0 rfl (by rfl) ?_
                    go_frame
                  iterate 1
                    refine plan_s1 rfl (by rfl) (fun Kc hKc => ?_)
                    go_simp
                    first
                      | (refine hKc _ ?_)
                    clear hKc Kc
                  refine plan_done ?_
                  go_wp2_with fail
                  go_roundw
                  case rel => exact ⟨i + 1, done, ts', by omega, by omega, rfl, by simp, HCr2.out, (HTx.out.trans HTo.out (fun _ _ e => e)).trans HTW.out (fun _ _ e => e)⟩
                  case measure => simp [intOf]; omega
            · obtain rfl : i = D.fs.length := by omega
              have hdl2 : ys.length = done.length := by rw [hyl, HCr.out, List.drop_length]; simp [crashF]
              clear hyl
              go_wp2_with (first
                | (go_at_call 32; go_must (refine (lives23_any _).mono ?_); rintro e w9 ⟨rfl, t9⟩; have HT9 := Lib.hid t9; clear t9))
              go_ret
              exact ⟨rfl, ((HT7.out.trans HTx.out (fun _ _ e => e)).trans HT9.out (fun _ _ e => e)).below⟩
end Go.Proofs.Ytpgakkpmpnebnaa
