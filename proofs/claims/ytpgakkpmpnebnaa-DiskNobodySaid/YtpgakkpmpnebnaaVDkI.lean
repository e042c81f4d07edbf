/- disk.Disk: Append. (written by genDkI.py) -/
import Derived.Test.YtpgakkpmpnebnaaVDkH
import Derived.Test.YtpgakkpmpnebnaaVSortS
import Derived.Test.YtpgakkpmpnebnaaOwnF
namespace Go.Proofs.Ytpgakkpmpnebnaa
open Go.RowKit Go.Maps
set_option maxHeartbeats 4000000
set_option maxRecDepth 100000
set_option linter.unusedVariables false
attribute [local irreducible] wpPlan

theorem infoB8 : ∃ i : TypeInfo, Try.prog.info? 5 = some i ∧ i.zero = some (.int .u8 0) ∧ i.size = 1 ∧ i.bytes = 1  := by
  obtain ⟨i, h1, h2⟩ := Option.map_eq_some_iff.1 info8
  simp only [Prod.mk.injEq] at h2
  exact ⟨i, h1, h2⟩
theorem file_nm {fs : List Fi} {nm : List UInt8} {x : Fi} (h : getF fs nm = some x) : x.nm = nm := (getF_some h).2
theorem app_fi (D : Dk) (nm bs : List UInt8) (hd : D.down = false) : ({ (getF D.fs nm).getD ⟨nm, [], 0⟩ with al := ((getF D.fs nm).getD ⟨nm, [], 0⟩).al ++ bs } : Fi) = ⟨nm, (fileV D nm).al ++ bs, (fileV D nm).kp⟩ := by
  unfold fileV
  rw [hd]
  cases hg : getF D.fs nm with
  | none => rfl
  | some x => simp [file_nm hg]
theorem app_tot {D : Dk} (h : D.Ok) (nm bs : List UInt8) (hd : D.down = false) (hnm : namedF nm = true) (h1 : ¬ ((getF D.fs nm).isNone = true ∧ 128 ≤ D.fs.length)) (h2 : ¬ D.free < (bs.length : Int)) :
    totF (putF D.fs ⟨nm, (fileV D nm).al ++ bs, (fileV D nm).kp⟩) ≤ 1048576 ∧ (putF D.fs ⟨nm, (fileV D nm).al ++ bs, (fileV D nm).kp⟩).length ≤ 128 ∧ (fileV D nm).kp ≤ (fileV D nm).al.length ∧ (fileV D nm).al.length ≤ 1048576 ∧ 1 ≤ nm.length ∧ nm.length ≤ 16 := by
  have ht := putF_tot h.so ⟨nm, (fileV D nm).al ++ bs, (fileV D nm).kp⟩
  have hl := putF_len h.so ⟨nm, (fileV D nm).al ++ bs, (fileV D nm).kp⟩
  have h3 := h.tot
  have h4 := h.n
  have h5 := h.room
  unfold Dk.free at h2
  have hn : 1 ≤ nm.length ∧ nm.length ≤ 16 := by simpa [namedF] using hnm
  unfold fileV at *
  rw [hd] at *
  cases hg : getF D.fs nm with
  | none =>
    rw [hg] at ht hl h1
    simp [hg, fiZ] at ht hl h1 ⊢
    omega
  | some x =>
    have h6 := len_le_tot (getF_some hg).1
    have h7 := h.nm x (getF_some hg).1
    rw [hg] at ht hl h1
    simp [hg] at ht hl ⊢
    omega
theorem fileV_le {D : Dk} (h : D.Ok) (nm : List UInt8) : (fileV D nm).al.length ≤ 1048576 := by
  have h3 := h.tot
  unfold fileV
  cases hd : D.down
  · cases hg : getF D.fs nm with
    | none => simp [fiZ]
    | some x => have := len_le_tot (getF_some hg).1; simp; omega
  · simp [fiZ]
theorem dappend_any {w : World} {g b m : Nat} {D : Dk} {F : Nat → Prop} (h : DkAt w g b m D F) (nm : List UInt8) (hn : nm.length ≤ 1000000) (hst : D.steps ≤ 1000000) {G : Nat → Prop} {B : Option Addr} {bc : Nat} (bs : List UInt8) (hB : Rd w G B bs.length (bs.map B8)) (hG : ∀ q, G q → q < w.heap.size) (hbl : bs.length ≤ 1000000) :
    Calls Try.prog 45 #[.pointer (some ⟨g, 0, none⟩), St nm, .slice B bs.length bc] w (DkC g b m (D.append nm bs) F w) := by
  have HF := Lib.hid (dfile_any h nm hn)
  unfold FilP at HF
  have HH := Lib.hid h
  have HB := Lib.hid hB
  have hlt := h.lt
  have HFl := Lib.hid h.fl
  have HVl := Lib.hid (fileV_le h.ok nm)
  have HFi := Lib.hid (app_fi D nm bs)
  have HTo := Lib.hid (app_tot h.ok nm bs)
  obtain ⟨i0, hi, hi0, hi1, hi2⟩ := infoB8
  cases hd : D.down
  · obtain ⟨V, hV⟩ : ∃ V, V = fileV D nm := ⟨_, rfl⟩
    rw [← hV] at HF HVl HFi HTo
    unfold ctA at HF
    have hVl := HVl.out
    cases hnm : namedF nm
    · have HV := Lib.hid (show D.append nm bs = (D, 2) by rw [Dk.append, if_neg (by rw [hd]; simp), if_pos hnm])
      have HNm := Lib.hid hnm
      cases hg : getF D.fs nm with
      | none =>
        rw [show fileE D nm = 31 by rw [fileE, hd, hg]; rfl] at HF
        clear h hd hg hnm hV
        go_enter Try.func45, Try.ntmps45
        go_wp2_with (first
          | (go_at_call 95; go_must (refine HF.out.mono ?_); rintro e w1 ⟨A1, c1, rfl, hr1, t1⟩
             have ta := (Touch.refl (fun _ => False) w1).alloc (.cells #[.slice A1 V.al.length c1, .int .i64 V.kp] 149)
             have HT1 := Lib.hid (t1.trans ta (fun _ _ e => e))
             have HH1 := Lib.hid (HH.out.far HT1.out)
             have HP1 := Lib.hid (Blk.new w1 149 #[.slice A1 V.al.length c1, .int .i64 V.kp])
             have HR1 := Lib.hid (hr1.touch ta (fun _ _ e => e))
             have hz1 := t1.size
             clear hr1 t1 ta)
          | (go_at_call 96; go_must (refine (dnamed_any nm _ hn).mono ?_); rintro e wn ⟨rfl, rfl⟩; rw [HNm.out]))
        go_ret
        exact DkC.same HH.out HT1.out HV.out
      | some x =>
        rw [show fileE D nm = 0 by rw [fileE, hd, hg]; rfl] at HF
        clear h hd hg hnm hV
        go_enter Try.func45, Try.ntmps45
        go_wp2_with (first
          | (go_at_call 95; go_must (refine HF.out.mono ?_); rintro e w1 ⟨A1, c1, rfl, hr1, t1⟩
             have ta := (Touch.refl (fun _ => False) w1).alloc (.cells #[.slice A1 V.al.length c1, .int .i64 V.kp] 149)
             have HT1 := Lib.hid (t1.trans ta (fun _ _ e => e))
             have HH1 := Lib.hid (HH.out.far HT1.out)
             have HP1 := Lib.hid (Blk.new w1 149 #[.slice A1 V.al.length c1, .int .i64 V.kp])
             have HR1 := Lib.hid (hr1.touch ta (fun _ _ e => e))
             have hz1 := t1.size
             clear hr1 t1 ta)
          | (go_at_call 96; go_must (refine (dnamed_any nm _ hn).mono ?_); rintro e wn ⟨rfl, rfl⟩; rw [HNm.out]))
        go_ret
        exact DkC.same HH.out HT1.out HV.out
    · have HNm := Lib.hid hnm
      cases hg : getF D.fs nm with
      | none =>
        have hgn : (getF D.fs nm).isNone = true := by rw [hg]; rfl
        rw [show fileE D nm = 31 by rw [fileE, hd, hg]; rfl] at HF
        by_cases h0 : 128 ≤ D.fs.length
        · have HV := Lib.hid (show D.append nm bs = (D, 30) by rw [Dk.append, if_neg (by rw [hd]; simp), if_neg (by rw [hnm]; simp), if_pos (.inl ⟨hgn, h0⟩)])
          have hI : (128 : Int) ≤ (D.fs.length : Int) := by omega
          clear h hd hg hnm hV hgn
          go_enter Try.func45, Try.ntmps45
          go_wp2_with (first
            | (go_at_call 95; go_must (refine HF.out.mono ?_); rintro e w1 ⟨A1, c1, rfl, hr1, t1⟩
               have ta := (Touch.refl (fun _ => False) w1).alloc (.cells #[.slice A1 V.al.length c1, .int .i64 V.kp] 149)
               have HT1 := Lib.hid (t1.trans ta (fun _ _ e => e))
               have HH1 := Lib.hid (HH.out.far HT1.out)
               have HP1 := Lib.hid (Blk.new w1 149 #[.slice A1 V.al.length c1, .int .i64 V.kp])
               have HR1 := Lib.hid (hr1.touch ta (fun _ _ e => e))
               have hz1 := t1.size
               have hln := HH1.out.mp.len HH.out.ok.so HH.out.ok.inS 3
               have q0 := HH1.out.blk.cell 0
               simp [dkA] at q0
               clear hr1 t1 ta)
            | (go_at_call 96; go_must (refine (dnamed_any nm _ hn).mono ?_); rintro e wn ⟨rfl, rfl⟩; rw [HNm.out]))
          go_ret
          exact DkC.same HH.out HT1.out HV.out
        · have h1 : ¬ ((getF D.fs nm).isNone = true ∧ 128 ≤ D.fs.length) := fun e => h0 e.2
          have hI : ¬ (128 : Int) ≤ (D.fs.length : Int) := by omega
          by_cases h2 : D.free < (bs.length : Int)
          · have HV := Lib.hid (show D.append nm bs = (D, 30) by rw [Dk.append, if_neg (by rw [hd]; simp), if_neg (by rw [hnm]; simp), if_pos (.inr h2)])
            clear h hd hg hnm hV hgn h1
            go_enter Try.func45, Try.ntmps45
            go_wp2_with (first
              | (go_at_call 95; go_must (refine HF.out.mono ?_); rintro e w1 ⟨A1, c1, rfl, hr1, t1⟩
                 have ta := (Touch.refl (fun _ => False) w1).alloc (.cells #[.slice A1 V.al.length c1, .int .i64 V.kp] 149)
                 have HT1 := Lib.hid (t1.trans ta (fun _ _ e => e))
                 have HH1 := Lib.hid (HH.out.far HT1.out)
                 have HP1 := Lib.hid (Blk.new w1 149 #[.slice A1 V.al.length c1, .int .i64 V.kp])
                 have HR1 := Lib.hid (hr1.touch ta (fun _ _ e => e))
                 have hz1 := t1.size
                 have hln := HH1.out.mp.len HH.out.ok.so HH.out.ok.inS 3
                 have q0 := HH1.out.blk.cell 0
                 simp [dkA] at q0
                 clear hr1 t1 ta)
              | (go_at_call 96; go_must (refine (dnamed_any nm _ hn).mono ?_); rintro e wn ⟨rfl, rfl⟩; rw [HNm.out])
              | (go_at_call 37; go_must (refine (dfree_any (by exact HH1.out)).mono ?_); rintro e w2 ⟨rfl, t2⟩
                 have HT2 := Lib.hid (HT1.out.trans t2 (fun _ _ e => e))
                 have HH2 := Lib.hid (HH.out.far HT2.out)
                 have HP2 := Lib.hid (t2.blk HP1.out (fun e => e))
                 have HR2 := Lib.hid (HR1.out.touch t2 (fun _ _ e => e))
                 have hz2' := t2.size
                 simp at hz2'
                 clear t2))
            go_ret
            exact DkC.same HH.out HT2.out HV.out
          · clear hgn
            have HV := Lib.hid (show D.append nm bs = (({ D with fs := putF D.fs ⟨nm, V.al ++ bs, V.kp⟩ } : Dk).step.1, if ({ D with fs := putF D.fs ⟨nm, V.al ++ bs, V.kp⟩ } : Dk).step.2 = true then 0 else 50) by rw [Dk.append, if_neg (by rw [hd]; simp), if_neg (by rw [hnm]; simp), if_neg (by rintro (e | e); exact h1 e; exact h2 e)]; simp only; rw [HFi.out hd])
            obtain ⟨htot, hlen, hkp, hVl', hn1, hn16⟩ := HTo.out hd hnm h1 h2
            clear h hd hg hnm hV h1
            go_enter Try.func45, Try.ntmps45
            go_wp2_with (first
              | (go_at_call 95; go_must (refine HF.out.mono ?_); rintro e w1 ⟨A1, c1, rfl, hr1, t1⟩
                 have ta := (Touch.refl (fun _ => False) w1).alloc (.cells #[.slice A1 V.al.length c1, .int .i64 V.kp] 149)
                 have HT1 := Lib.hid (t1.trans ta (fun _ _ e => e))
                 have HH1 := Lib.hid (HH.out.far HT1.out)
                 have HP1 := Lib.hid (Blk.new w1 149 #[.slice A1 V.al.length c1, .int .i64 V.kp])
                 have HR1 := Lib.hid (hr1.touch ta (fun _ _ e => e))
                 have hz1 := t1.size
                 have hln := HH1.out.mp.len HH.out.ok.so HH.out.ok.inS 3
                 have q0 := HH1.out.blk.cell 0
                 simp [dkA] at q0
                 clear hr1 t1 ta)
              | (go_at_call 96; go_must (refine (dnamed_any nm _ hn).mono ?_); rintro e wn ⟨rfl, rfl⟩; rw [HNm.out])
              | (go_at_call 37; go_must (refine (dfree_any (by exact HH1.out)).mono ?_); rintro e w2 ⟨rfl, t2⟩
                 have HT2 := Lib.hid (HT1.out.trans t2 (fun _ _ e => e))
                 have HH2 := Lib.hid (HH.out.far HT2.out)
                 have HP2 := Lib.hid (t2.blk HP1.out (fun e => e))
                 have HR2 := Lib.hid (HR1.out.touch t2 (fun _ _ e => e))
                 have hz2' := t2.size
                 simp at hz2'
                 have x0 := HP2.out.cell 0
                 simp at x0
                 have hsl := slice_hm 88 Try.underlying88 size8 A1 V.al.length c1 V.al.length HR2.out.2.1
                 have HRn := Lib.hid (show Rd w2 F (baseA A1 0 V.al.length) V.al.length (V.al.map B8) from by have := HR2.out.1.hm (m := V.al.length) (Nat.le_refl _); rwa [List.take_of_length_le (by simp)] at this)
                 have HSb := Lib.hid (Rd.src Try.underlying88 (HB.out.touch HT2.out (fun _ _ e => e)) (fun u hu => by obtain ⟨y, -, rfl⟩ := List.mem_map.1 hu; rfl) bc)
                 clear t2)
              | (at_builtin; refine wpList_full_append rfl _ _ 88 88 rfl 5 i0 (.int .u8 0) 1 Try.underlying88 hi hi0 hi1 hi2 rfl (baseA A1 0 V.al.length) V.al.length (V.al.map B8) rfl F (by exact HRn.out) (.slice B bs.length bc) bs.length (bs.map B8) rfl (by exact HSb.out) (by simp only [maxLen]; omega) (by omega) ?_
                 intro A3 c3 w3 hr3 hle3 hcm3 t3
                 have HR3 := Lib.hid (And.intro hr3 (And.intro hle3 hcm3))
                 have HT3 := Lib.hid (HT2.out.trans t3 (fun _ _ e => e))
                 have HP3 := Lib.hid (t3.blk HP2.out (fun e => e))
                 have hz3 := t3.size
                 have f0 := HP3.out.frozen 0
                 have x0 := HP3.out.cell 0
                 simp at x0
                 clear hr3 hle3 hcm3 t3; go_frame))
            clear x0 f0 hsl hln
            have tq := (Touch.refl (fun q => q = w1.heap.size) w3).set (b := w1.heap.size) (o := 0) (fun _ => rfl) (.slice A3 (V.al.length + bs.length) c3)
            have hpq := HP3.out.set_ 0 (.slice A3 (V.al.length + bs.length) c3)
            have hdq := (HH.out.far HT3.out).touch tq (by omega) (by omega) (by omega) (fun q hq e => by have := HFl.out q hq; omega)
            have hrq := HR3.out.1.touch tq (fun q hq e => by rcases hq with hq | hq; have := HFl.out q hq; omega; omega)
            obtain ⟨W, hW⟩ : ∃ W, W = (w3.setCell ⟨w1.heap.size, 0, none⟩ (.slice A3 (V.al.length + bs.length) c3)).drew := ⟨_, rfl⟩
            have HTW := Lib.hid (show Touch (fun _ => False) (w3.setCell ⟨w1.heap.size, 0, none⟩ (.slice A3 (V.al.length + bs.length) c3)) W from hW ▸ (Touch.refl _ _).drew)
            have HDW := Lib.hid (hdq.far HTW.out)
            have hpw := HTW.out.blk hpq (fun e => e)
            have x0 := hpw.cell 0
            have x1 := hpw.cell 1
            simp at x0 x1
            have q0 := HDW.out.blk.cell 0
            simp [dkA] at q0
            have hbr : BtR W (fun q => F q ∨ (w2.heap.size ≤ q ∧ q < w3.heap.size)) A3 c3 (V.al ++ bs) := by
              refine ⟨?_, by simpa using HR3.out.2.1, HR3.out.2.2⟩
              rw [List.length_append, List.map_append]
              exact hrq.touch HTW.out (fun _ _ e => e)
            obtain ⟨w7, hrun, hm7, t7⟩ := HDW.out.mp.store HDW.out.ok.so HDW.out.ok.inS ⟨nm, V.al ++ bs, V.kp⟩ (by unfold inS; simp only [maxLen]; omega) hlen A3 c3 (fun q => F q ∨ (w2.heap.size ≤ q ∧ q < w3.heap.size)) (fun q hq => .inl hq) (fun q hq e => by rcases hq with hq | hq; exact HH.out.nF.2.1 (e ▸ hq); omega) hbr
            have hz6 := HTW.out.size
            have hz7 := t7.size
            simp at hz6
            have HR7 := Lib.hid (HDW.out.remap hm7 t7 (lo := w.heap.size) hlt (fun q hq => by rcases hq with hq | hq; exact .inl hq; exact .inr (by omega)) (putF_sorted HH.out.ok.so _) (nm_put HH.out.ok.nm (by simp; omega)) hlen htot)
            unfold ctA at hrun
            simp only [List.length_append] at hrun
            have HTq := Lib.hid tq
            have HT77 := Lib.hid t7
            clear hm7 t7 hrq hdq hpq hpw tq hbr
            refine wp_region_plan [(0, 0), (0, 1), (0, 2), (0, 3), (0, 4), (0, 5), (2, 6)] (fun q => q = b) (by kernel_rfl) (by kernel_rfl) (fun c a d v w h => by cases d <;> exact h) ?_
            rw [← hW]
            clear hW
            iterate 6
              refine plan_s1 rfl (by rfl) (fun Kc hKc => ?_)
              go_simp
              first
                | (refine hKc _ ?_)
              clear hKc Kc
            refine plan_a1 rfl (by rfl) (fun Kc hKc => ?_)
            go_simp
            refine hKc _ _ ⟨HT77.out, ?_⟩
            clear hKc Kc
            refine plan_done ?_
            clear hrun q0 x0 x1
            have HSt := Lib.hid (dstep_any HR7.out hst)
            unfold StpP at HSt
            obtain ⟨sv, hsv⟩ : ∃ sv : Int, sv = (if ({ D with fs := putF D.fs ⟨nm, V.al ++ bs, V.kp⟩ } : Dk).step.2 = true then 0 else 50) := ⟨_, rfl⟩
            rw [← hsv] at HSt HV
            clear hsv
            go_wp2_with (go_at_call 97; go_must (refine HSt.out.mono ?_); rintro e w8 ⟨rfl, hd8, t8⟩
                         have HD8 := Lib.hid hd8
                         have HT8 := Lib.hid t8
                         have hz8 := t8.size
                         clear hd8 t8)
            go_ret
            rw [HV.out]
            refine ⟨rfl, _, HD8.out, fun q hq => ?_, ?_⟩
            · rcases hq with hq | hq
              · exact .inl hq
              · exact .inr (by omega)
            · exact ((((HT3.out.mono (S' := fun q => q = g ∨ q = b ∨ q = m) (fun _ _ e => e.elim)).trans HTq.out (fun q hq e => by omega)).trans HTW.out (fun _ _ e => e.elim)).trans HT77.out (fun q _ e => .inr (.inl e))).trans HT8.out (fun q _ e => by rcases e with e | e; exact .inl e; exact .inr (.inr e))
      | some x =>
        have h1 : ¬ ((getF D.fs nm).isNone = true ∧ 128 ≤ D.fs.length) := fun e => by rw [hg] at e; simp at e
        rw [show fileE D nm = 0 by rw [fileE, hd, hg]; rfl] at HF
        by_cases h2 : D.free < (bs.length : Int)
        · have HV := Lib.hid (show D.append nm bs = (D, 30) by rw [Dk.append, if_neg (by rw [hd]; simp), if_neg (by rw [hnm]; simp), if_pos (.inr h2)])
          clear h hd hg hnm hV h1
          go_enter Try.func45, Try.ntmps45
          go_wp2_with (first
            | (go_at_call 95; go_must (refine HF.out.mono ?_); rintro e w1 ⟨A1, c1, rfl, hr1, t1⟩
               have ta := (Touch.refl (fun _ => False) w1).alloc (.cells #[.slice A1 V.al.length c1, .int .i64 V.kp] 149)
               have HT1 := Lib.hid (t1.trans ta (fun _ _ e => e))
               have HH1 := Lib.hid (HH.out.far HT1.out)
               have HP1 := Lib.hid (Blk.new w1 149 #[.slice A1 V.al.length c1, .int .i64 V.kp])
               have HR1 := Lib.hid (hr1.touch ta (fun _ _ e => e))
               have hz1 := t1.size
               clear hr1 t1 ta)
            | (go_at_call 96; go_must (refine (dnamed_any nm _ hn).mono ?_); rintro e wn ⟨rfl, rfl⟩; rw [HNm.out])
            | (go_at_call 37; go_must (refine (dfree_any (by exact HH1.out)).mono ?_); rintro e w2 ⟨rfl, t2⟩
               have HT2 := Lib.hid (HT1.out.trans t2 (fun _ _ e => e))
               have HH2 := Lib.hid (HH.out.far HT2.out)
               have HP2 := Lib.hid (t2.blk HP1.out (fun e => e))
               have HR2 := Lib.hid (HR1.out.touch t2 (fun _ _ e => e))
               have hz2' := t2.size
               simp at hz2'
               clear t2))
          go_ret
          exact DkC.same HH.out HT2.out HV.out
        · have HV := Lib.hid (show D.append nm bs = (({ D with fs := putF D.fs ⟨nm, V.al ++ bs, V.kp⟩ } : Dk).step.1, if ({ D with fs := putF D.fs ⟨nm, V.al ++ bs, V.kp⟩ } : Dk).step.2 = true then 0 else 50) by rw [Dk.append, if_neg (by rw [hd]; simp), if_neg (by rw [hnm]; simp), if_neg (by rintro (e | e); exact h1 e; exact h2 e)]; simp only; rw [HFi.out hd])
          obtain ⟨htot, hlen, hkp, hVl', hn1, hn16⟩ := HTo.out hd hnm h1 h2
          clear h hd hg hnm hV h1
          go_enter Try.func45, Try.ntmps45
          go_wp2_with (first
            | (go_at_call 95; go_must (refine HF.out.mono ?_); rintro e w1 ⟨A1, c1, rfl, hr1, t1⟩
               have ta := (Touch.refl (fun _ => False) w1).alloc (.cells #[.slice A1 V.al.length c1, .int .i64 V.kp] 149)
               have HT1 := Lib.hid (t1.trans ta (fun _ _ e => e))
               have HH1 := Lib.hid (HH.out.far HT1.out)
               have HP1 := Lib.hid (Blk.new w1 149 #[.slice A1 V.al.length c1, .int .i64 V.kp])
               have HR1 := Lib.hid (hr1.touch ta (fun _ _ e => e))
               have hz1 := t1.size
               clear hr1 t1 ta)
            | (go_at_call 96; go_must (refine (dnamed_any nm _ hn).mono ?_); rintro e wn ⟨rfl, rfl⟩; rw [HNm.out])
            | (go_at_call 37; go_must (refine (dfree_any (by exact HH1.out)).mono ?_); rintro e w2 ⟨rfl, t2⟩
               have HT2 := Lib.hid (HT1.out.trans t2 (fun _ _ e => e))
               have HH2 := Lib.hid (HH.out.far HT2.out)
               have HP2 := Lib.hid (t2.blk HP1.out (fun e => e))
               have HR2 := Lib.hid (HR1.out.touch t2 (fun _ _ e => e))
               have hz2' := t2.size
               simp at hz2'
               have x0 := HP2.out.cell 0
               simp at x0
               have hsl := slice_hm 88 Try.underlying88 size8 A1 V.al.length c1 V.al.length HR2.out.2.1
               have HRn := Lib.hid (show Rd w2 F (baseA A1 0 V.al.length) V.al.length (V.al.map B8) from by have := HR2.out.1.hm (m := V.al.length) (Nat.le_refl _); rwa [List.take_of_length_le (by simp)] at this)
               have HSb := Lib.hid (Rd.src Try.underlying88 (HB.out.touch HT2.out (fun _ _ e => e)) (fun u hu => by obtain ⟨y, -, rfl⟩ := List.mem_map.1 hu; rfl) bc)
               clear t2)
            | (at_builtin; refine wpList_full_append rfl _ _ 88 88 rfl 5 i0 (.int .u8 0) 1 Try.underlying88 hi hi0 hi1 hi2 rfl (baseA A1 0 V.al.length) V.al.length (V.al.map B8) rfl F (by exact HRn.out) (.slice B bs.length bc) bs.length (bs.map B8) rfl (by exact HSb.out) (by simp only [maxLen]; omega) (by omega) ?_
               intro A3 c3 w3 hr3 hle3 hcm3 t3
               have HR3 := Lib.hid (And.intro hr3 (And.intro hle3 hcm3))
               have HT3 := Lib.hid (HT2.out.trans t3 (fun _ _ e => e))
               have HP3 := Lib.hid (t3.blk HP2.out (fun e => e))
               have hz3 := t3.size
               have f0 := HP3.out.frozen 0
               have x0 := HP3.out.cell 0
               simp at x0
               clear hr3 hle3 hcm3 t3; go_frame))
          clear x0 f0 hsl
          have tq := (Touch.refl (fun q => q = w1.heap.size) w3).set (b := w1.heap.size) (o := 0) (fun _ => rfl) (.slice A3 (V.al.length + bs.length) c3)
          have hpq := HP3.out.set_ 0 (.slice A3 (V.al.length + bs.length) c3)
          have hdq := (HH.out.far HT3.out).touch tq (by omega) (by omega) (by omega) (fun q hq e => by have := HFl.out q hq; omega)
          have hrq := HR3.out.1.touch tq (fun q hq e => by rcases hq with hq | hq; have := HFl.out q hq; omega; omega)
          obtain ⟨W, hW⟩ : ∃ W, W = (w3.setCell ⟨w1.heap.size, 0, none⟩ (.slice A3 (V.al.length + bs.length) c3)).drew := ⟨_, rfl⟩
          have HTW := Lib.hid (show Touch (fun _ => False) (w3.setCell ⟨w1.heap.size, 0, none⟩ (.slice A3 (V.al.length + bs.length) c3)) W from hW ▸ (Touch.refl _ _).drew)
          have HDW := Lib.hid (hdq.far HTW.out)
          have hpw := HTW.out.blk hpq (fun e => e)
          have x0 := hpw.cell 0
          have x1 := hpw.cell 1
          simp at x0 x1
          have q0 := HDW.out.blk.cell 0
          simp [dkA] at q0
          have hbr : BtR W (fun q => F q ∨ (w2.heap.size ≤ q ∧ q < w3.heap.size)) A3 c3 (V.al ++ bs) := by
            refine ⟨?_, by simpa using HR3.out.2.1, HR3.out.2.2⟩
            rw [List.length_append, List.map_append]
            exact hrq.touch HTW.out (fun _ _ e => e)
          obtain ⟨w7, hrun, hm7, t7⟩ := HDW.out.mp.store HDW.out.ok.so HDW.out.ok.inS ⟨nm, V.al ++ bs, V.kp⟩ (by unfold inS; simp only [maxLen]; omega) hlen A3 c3 (fun q => F q ∨ (w2.heap.size ≤ q ∧ q < w3.heap.size)) (fun q hq => .inl hq) (fun q hq e => by rcases hq with hq | hq; exact HH.out.nF.2.1 (e ▸ hq); omega) hbr
          have hz6 := HTW.out.size
          have hz7 := t7.size
          simp at hz6
          have HR7 := Lib.hid (HDW.out.remap hm7 t7 (lo := w.heap.size) hlt (fun q hq => by rcases hq with hq | hq; exact .inl hq; exact .inr (by omega)) (putF_sorted HH.out.ok.so _) (nm_put HH.out.ok.nm (by simp; omega)) hlen htot)
          unfold ctA at hrun
          simp only [List.length_append] at hrun
          have HTq := Lib.hid tq
          have HT77 := Lib.hid t7
          clear hm7 t7 hrq hdq hpq hpw tq hbr
          refine wp_region_plan [(0, 0), (0, 1), (0, 2), (0, 3), (0, 4), (0, 5), (2, 6)] (fun q => q = b) (by kernel_rfl) (by kernel_rfl) (fun c a d v w h => by cases d <;> exact h) ?_
          rw [← hW]
          clear hW
          iterate 6
            refine plan_s1 rfl (by rfl) (fun Kc hKc => ?_)
            go_simp
            first
              | (refine hKc _ ?_)
            clear hKc Kc
          refine plan_a1 rfl (by rfl) (fun Kc hKc => ?_)
          go_simp
          refine hKc _ _ ⟨HT77.out, ?_⟩
          clear hKc Kc
          refine plan_done ?_
          clear hrun q0 x0 x1
          have HSt := Lib.hid (dstep_any HR7.out hst)
          unfold StpP at HSt
          obtain ⟨sv, hsv⟩ : ∃ sv : Int, sv = (if ({ D with fs := putF D.fs ⟨nm, V.al ++ bs, V.kp⟩ } : Dk).step.2 = true then 0 else 50) := ⟨_, rfl⟩
          rw [← hsv] at HSt HV
          clear hsv
          go_wp2_with (go_at_call 97; go_must (refine HSt.out.mono ?_); rintro e w8 ⟨rfl, hd8, t8⟩
                       have HD8 := Lib.hid hd8
                       have HT8 := Lib.hid t8
                       have hz8 := t8.size
                       clear hd8 t8)
          go_ret
          rw [HV.out]
          refine ⟨rfl, _, HD8.out, fun q hq => ?_, ?_⟩
          · rcases hq with hq | hq
            · exact .inl hq
            · exact .inr (by omega)
          · exact ((((HT3.out.mono (S' := fun q => q = g ∨ q = b ∨ q = m) (fun _ _ e => e.elim)).trans HTq.out (fun q hq e => by omega)).trans HTW.out (fun _ _ e => e.elim)).trans HT77.out (fun q _ e => .inr (.inl e))).trans HT8.out (fun q _ e => by rcases e with e | e; exact .inl e; exact .inr (.inr e))
  · have HV := Lib.hid (show D.append nm bs = (D, 50) by rw [Dk.append, if_pos hd])
    rw [show fileE D nm = 50 by rw [fileE, hd]; rfl, show fileV D nm = fiZ by rw [fileV, hd]; rfl] at HF
    unfold ctA at HF
    clear h hd
    go_enter Try.func45, Try.ntmps45
    go_wp2_with (first
      | (go_at_call 95; go_must (refine HF.out.mono ?_); rintro e w1 ⟨A1, c1, rfl, hr1, t1⟩
         have ta := (Touch.refl (fun _ => False) w1).alloc (.cells #[.slice A1 fiZ.al.length c1, .int .i64 fiZ.kp] 149)
         have HT1 := Lib.hid (t1.trans ta (fun _ _ e => e))
         have HH1 := Lib.hid (HH.out.far HT1.out)
         have HP1 := Lib.hid (Blk.new w1 149 #[.slice A1 fiZ.al.length c1, .int .i64 fiZ.kp])
         have HR1 := Lib.hid (hr1.touch ta (fun _ _ e => e))
         have hz1 := t1.size
         clear hr1 t1 ta))
    go_ret
    exact DkC.same HH.out HT1.out HV.out
end Go.Proofs.Ytpgakkpmpnebnaa
