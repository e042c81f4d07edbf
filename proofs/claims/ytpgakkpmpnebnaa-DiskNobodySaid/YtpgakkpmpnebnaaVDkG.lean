/- disk.Disk: Sync, Remove, Move, Cut. (written by genDk.py) -/
import Derived.Test.YtpgakkpmpnebnaaVDkF
namespace Go.Proofs.Ytpgakkpmpnebnaa
open Go.RowKit Go.Maps
set_option maxHeartbeats 4000000
set_option maxRecDepth 100000
set_option linter.unusedVariables false
attribute [local irreducible] wpPlan

theorem step_fs (D : Dk) : D.step.1.fs = D.fs := by unfold Dk.step; split <;> try rfl
                                                    split <;> rfl
theorem step_room (D : Dk) : D.step.1.room = D.room := by unfold Dk.step; split <;> try rfl
                                                          split <;> rfl
/-- Another list of files: the map turned. -/
theorem DkAt.remap {w w' : World} {g b m : Nat} {D : Dk} {F F' : Nat → Prop} (h : DkAt w g b m D F) {fs' : List Fi} (hm : FlM w' b fs' F') (t : Touch (fun q => q = b) w w') {lo : Nat} (hlo : g < lo ∧ b < lo ∧ m < lo) (hF : ∀ q, F' q → F q ∨ (lo ≤ q ∧ q < w'.heap.size))
    (so : Sorted fs') (hnm : ∀ f ∈ fs', 1 ≤ f.nm.length ∧ f.nm.length ≤ 16 ∧ f.kp ≤ f.al.length) (hn : fs'.length ≤ 128) (ht : totF fs' ≤ 1048576) : DkAt w' g b m { D with fs := fs' } F' := by
  have hne := h.ne
  have hz := t.size
  refine ⟨t.blk h.blk hne.1, hm, h.mt.touch t (fun e => hne.2.2 e.symm), ⟨so, hnm, hn, ht, h.ok.room, h.ok.armed⟩, fun q hq => ?_, ⟨fun e => ?_, fun e => ?_, fun e => ?_⟩, hne⟩
  · rcases hF q hq with e | e
    · have := h.fl q e; omega
    · exact e.2
  · rcases hF g e with e | e
    · exact h.nF.1 e
    · omega
  · rcases hF b e with e | e
    · exact h.nF.2.1 e
    · omega
  · rcases hF m e with e | e
    · exact h.nF.2.2 e
    · omega
theorem nm_put {fs : List Fi} {f : Fi} (h : ∀ f ∈ fs, 1 ≤ f.nm.length ∧ f.nm.length ≤ 16 ∧ f.kp ≤ f.al.length) (hf : 1 ≤ f.nm.length ∧ f.nm.length ≤ 16 ∧ f.kp ≤ f.al.length) : ∀ x ∈ putF fs f, 1 ≤ x.nm.length ∧ x.nm.length ≤ 16 ∧ x.kp ≤ x.al.length := fun x hx => by
  rcases putF_mem.1 hx with rfl | ⟨hx, -⟩
  · exact hf
  · exact h x hx
theorem nm_out {fs : List Fi} {nm : List UInt8} (h : ∀ f ∈ fs, 1 ≤ f.nm.length ∧ f.nm.length ≤ 16 ∧ f.kp ≤ f.al.length) : ∀ x ∈ outF fs nm, 1 ≤ x.nm.length ∧ x.nm.length ≤ 16 ∧ x.kp ≤ x.al.length := fun x hx => h x (List.mem_filter.1 hx).1
theorem put_tot {fs : List Fi} (hs : Sorted fs) {x : Fi} (hg : getF fs x.nm = some x) {f : Fi} (hf : f.nm = x.nm) (hl : f.al.length ≤ x.al.length) : totF (putF fs f) ≤ totF fs ∧ (putF fs f).length = fs.length := by
  have h1 := putF_tot hs f
  have h2 := putF_len hs f
  rw [hf, hg] at h1 h2
  have h3 := len_le_tot (getF_some hg).1
  simp at h1 h2
  exact ⟨by omega, h2⟩
theorem move_tot {fs : List Fi} (hs : Sorted fs) {x : Fi} (hg : getF fs x.nm = some x) (to_ : List UInt8) : totF (putF (outF fs x.nm) { x with nm := to_ }) ≤ totF fs ∧ (putF (outF fs x.nm) { x with nm := to_ }).length ≤ fs.length := by
  have h0 := outF_some hs hg
  have h1 := putF_tot (outF_sorted hs x.nm) { x with nm := to_ }
  have h2 := putF_len (outF_sorted hs x.nm) { x with nm := to_ }
  simp only at h1 h2
  rw [h1, h2]
  refine ⟨by omega, ?_⟩
  split <;> omega
theorem dsync_any {w : World} {g b m : Nat} {D : Dk} {F : Nat → Prop} (h : DkAt w g b m D F) (nm : List UInt8) (hn : nm.length ≤ 1000000) (hst : D.steps ≤ 1000000) :
    Calls Try.prog 46 #[.pointer (some ⟨g, 0, none⟩), St nm] w (DkC g b m (D.sync nm) F w) := by
  have HF := Lib.hid (dfile_any h nm hn)
  unfold FilP at HF
  have HH := Lib.hid h
  have hlt := h.lt
  have HFl := Lib.hid h.fl
  have HSt := Lib.hid (fun w1 (h1 : DkAt w1 g b m D F) => dstep_any h1 hst)
  unfold StpP at HSt
  cases hd : D.down
  · cases hg : getF D.fs nm with
    | none =>
      have HV := Lib.hid (show D.sync nm = (D, 31) by rw [Dk.sync, if_neg (by rw [hd]; simp), hg])
      rw [show fileE D nm = 31 by rw [fileE, hd, hg]; rfl, show fileV D nm = fiZ by rw [fileV, hd, hg]; rfl] at HF
      unfold ctA at HF
      clear h hd hg
      go_enter Try.func46, Try.ntmps46
      go_wp2_with (first
        | (go_at_call 95; go_must (refine HF.out.mono ?_); rintro e w1 ⟨A1, c1, rfl, hr1, t1⟩
           have ta := (Touch.refl (fun _ => False) w1).alloc (.cells #[.slice A1 fiZ.al.length c1, .int .i64 fiZ.kp] 149)
           have HT1 := Lib.hid (t1.trans ta (fun _ _ e => e))
           have HH1 := Lib.hid (HH.out.far HT1.out)
           have HP1 := Lib.hid (Blk.new w1 149 #[.slice A1 fiZ.al.length c1, .int .i64 fiZ.kp])
           have HR1 := Lib.hid (hr1.touch ta (fun _ _ e => e))
           have hz1 := t1.size
           clear hr1 t1 ta))
      go_ret
      exact DkC.same HH.out HT1.out HV.out
    | some x =>
      rw [show fileE D nm = 0 by rw [fileE, hd, hg]; rfl, show fileV D nm = x by rw [fileV, hd, hg]; rfl] at HF
      unfold ctA at HF
      obtain ⟨hmem, hnm⟩ := getF_some hg
      subst hnm
      have hxn := h.ok.nm x hmem
      have HOk := Lib.hid h.ok
      have HGx := Lib.hid hg
      have hxt := len_le_tot hmem
      have htot := h.ok.tot
      cases hs : D.step.2
      · have HV := Lib.hid (show D.sync x.nm = (D.step.1, 50) by rw [Dk.sync, if_neg (by rw [hd]; simp), hg]; simp only; rw [if_neg (by rw [hs]; simp)])
        rw [hs] at HSt
        clear h hd hg hs hmem
        go_enter Try.func46, Try.ntmps46
        go_wp2_with (first
          | (go_at_call 95; go_must (refine HF.out.mono ?_); rintro e w1 ⟨A1, c1, rfl, hr1, t1⟩
             have ta := (Touch.refl (fun _ => False) w1).alloc (.cells #[.slice A1 x.al.length c1, .int .i64 x.kp] 149)
             have HT1 := Lib.hid (t1.trans ta (fun _ _ e => e))
             have HH1 := Lib.hid (HH.out.far HT1.out)
             have HP1 := Lib.hid (Blk.new w1 149 #[.slice A1 x.al.length c1, .int .i64 x.kp])
             have HR1 := Lib.hid (hr1.touch ta (fun _ _ e => e))
             have hz1 := t1.size
             clear hr1 t1 ta)
          | (go_at_call 97; go_must (refine (HSt.out _ (by exact HH1.out)).mono ?_); rintro e w2 ⟨rfl, hd2, t2⟩
             have HD2 := Lib.hid hd2
             have HT2 := Lib.hid t2
             have HP2 := Lib.hid (t2.blk HP1.out (by omega))
             have HR2 := Lib.hid (HR1.out.touch t2 (fun q hq e => by rcases e with rfl | rfl; exact HH.out.nF.1 hq; exact HH.out.nF.2.2 hq))
             have hz2 := t2.size
             clear hd2 t2))
        go_ret
        rw [HV.out]
        exact ⟨rfl, F, HD2.out, fun q hq => .inl hq, (HT1.out.mono (fun _ _ e => e.elim)).trans HT2.out (fun q _ e => by rcases e with e | e; exact .inl e; exact .inr (.inr e))⟩
      · have HV := Lib.hid (show D.sync x.nm = ({ D.step.1 with fs := putF D.fs { x with kp := x.al.length } }, 0) by rw [Dk.sync, if_neg (by rw [hd]; simp), hg]; simp only; rw [if_pos hs])
        rw [hs] at HSt
        clear h hd hg hs hmem
        go_enter Try.func46, Try.ntmps46
        go_wp2_with (first
          | (go_at_call 95; go_must (refine HF.out.mono ?_); rintro e w1 ⟨A1, c1, rfl, hr1, t1⟩
             have ta := (Touch.refl (fun _ => False) w1).alloc (.cells #[.slice A1 x.al.length c1, .int .i64 x.kp] 149)
             have HT1 := Lib.hid (t1.trans ta (fun _ _ e => e))
             have HH1 := Lib.hid (HH.out.far HT1.out)
             have HP1 := Lib.hid (Blk.new w1 149 #[.slice A1 x.al.length c1, .int .i64 x.kp])
             have HR1 := Lib.hid (hr1.touch ta (fun _ _ e => e))
             have hz1 := t1.size
             clear hr1 t1 ta)
          | (go_at_call 97; go_must (refine (HSt.out _ (by exact HH1.out)).mono ?_); rintro e w2 ⟨rfl, hd2, t2⟩
             have HD2 := Lib.hid hd2
             have HT2 := Lib.hid t2
             have HP2 := Lib.hid (t2.blk HP1.out (by omega))
             have HR2 := Lib.hid (HR1.out.touch t2 (fun q hq e => by rcases e with rfl | rfl; exact HH.out.nF.1 hq; exact HH.out.nF.2.2 hq))
             have hz2 := t2.size
             have x0 := HP2.out.cell 0
             have x1 := HP2.out.cell 1
             have f1 := HP2.out.frozen 1
             simp at x0 x1
             clear hd2 t2))
        clear x0 x1 f1
        have tq := (Touch.refl (fun q => q = w1.heap.size) w2).set (b := w1.heap.size) (o := 1) (fun _ => rfl) (.int .i64 (x.al.length : Nat))
        have hpq := HP2.out.set_ 1 (.int .i64 (x.al.length : Nat))
        have hdq := HD2.out.touch tq (by omega) (by omega) (by omega) (fun q hq e => by have := HFl.out q hq; omega)
        have hrq := HR2.out.touch tq (fun q hq e => by have := HFl.out q hq; omega)
        obtain ⟨W, hW⟩ : ∃ W, W = (w2.setCell ⟨w1.heap.size, 1, none⟩ (.int .i64 (x.al.length : Nat))).drew := ⟨_, rfl⟩
        have HTW := Lib.hid (show Touch (fun _ => False) (w2.setCell ⟨w1.heap.size, 1, none⟩ (.int .i64 (x.al.length : Nat))) W from hW ▸ (Touch.refl _ _).drew)
        have HDW := Lib.hid (hdq.far HTW.out)
        have hpw := HTW.out.blk hpq (fun e => e)
        have x0 := hpw.cell 0
        have x1 := hpw.cell 1
        simp at x0 x1
        have q0 := HDW.out.blk.cell 0
        simp [dkA] at q0
        have HRW := Lib.hid (hrq.touch HTW.out (fun _ _ e => e))
        have hpt := put_tot HOk.out.so HGx.out (f := { x with kp := x.al.length }) rfl (Nat.le_refl _)
        obtain ⟨w7, hrun, hm7, t7⟩ := HDW.out.mp.store HDW.out.ok.so HDW.out.ok.inS { x with kp := x.al.length } (by unfold inS; simp only [maxLen]; omega) (by rw [step_fs, hpt.2]; exact HOk.out.n) A1 c1 F (fun q hq => hq) (fun q hq e => HH.out.nF.2.1 (e ▸ hq)) HRW.out
        have HR7 := Lib.hid (HDW.out.remap hm7 t7 (lo := w.heap.size) hlt (fun q hq => .inl hq) (putF_sorted (by rw [step_fs]; exact HOk.out.so) _) (nm_put (by rw [step_fs]; exact HOk.out.nm) (by simp; omega)) (by rw [step_fs, hpt.2]; exact HOk.out.n) (by rw [step_fs]; omega))
        unfold ctA at hrun
        simp only at hrun
        have HTq := Lib.hid tq
        have HT77 := Lib.hid t7
        clear hm7 t7 hpt hrq hdq hpq hpw tq
        refine wp_region_plan [(0, 0), (0, 1), (0, 2), (0, 3), (0, 4), (0, 5), (2, 6)] (fun q => q = b) (by kernel_rfl) (by kernel_rfl) (fun c a d v w h => by cases d <;> exact h) ?_
        rw [← hW]
        clear hW
        iterate 6
          refine plan_s1 rfl (by rfl) (fun Kc hKc => ?_)
          go_simp
          first
            | (refine hKc _ ?_)
          clear hKc Kc
        refine plan_a1 rfl (by rfl) (fun Kc hKc => ?_)
        go_simp
        refine hKc _ _ ⟨HT77.out, ?_⟩
        clear hKc Kc
        refine plan_done ?_
        clear hrun q0 x0 x1
        go_wp2
        go_ret
        rw [HV.out]
        have hz7 := HT77.out.size
        refine ⟨rfl, F, ?_, fun q hq => .inl hq, ?_⟩
        · have := HR7.out; rw [step_fs] at this; exact this
        · exact (((((HT1.out.mono (S' := fun q => q = g ∨ q = b ∨ q = m) (fun _ _ e => e.elim)).trans HT2.out (fun q _ e => by rcases e with e | e; exact .inl e; exact .inr (.inr e)))).trans HTq.out (fun q hq e => by omega)).trans HTW.out (fun _ _ e => e.elim)).trans HT77.out (fun q _ e => .inr (.inl e))
  · have HV := Lib.hid (show D.sync nm = (D, 50) by rw [Dk.sync, if_pos hd])
    rw [show fileE D nm = 50 by rw [fileE, hd]; rfl, show fileV D nm = fiZ by rw [fileV, hd]; rfl] at HF
    unfold ctA at HF
    clear h hd
    go_enter Try.func46, Try.ntmps46
    go_wp2_with (first
      | (go_at_call 95; go_must (refine HF.out.mono ?_); rintro e w1 ⟨A1, c1, rfl, hr1, t1⟩
         have ta := (Touch.refl (fun _ => False) w1).alloc (.cells #[.slice A1 fiZ.al.length c1, .int .i64 fiZ.kp] 149)
         have HT1 := Lib.hid (t1.trans ta (fun _ _ e => e))
         have HH1 := Lib.hid (HH.out.far HT1.out)
         have HP1 := Lib.hid (Blk.new w1 149 #[.slice A1 fiZ.al.length c1, .int .i64 fiZ.kp])
         have HR1 := Lib.hid (hr1.touch ta (fun _ _ e => e))
         have hz1 := t1.size
         clear hr1 t1 ta))
    go_ret
    exact DkC.same HH.out HT1.out HV.out
theorem dremove_any {w : World} {g b m : Nat} {D : Dk} {F : Nat → Prop} (h : DkAt w g b m D F) (nm : List UInt8) (hn : nm.length ≤ 1000000) (hst : D.steps ≤ 1000000) :
    Calls Try.prog 48 #[.pointer (some ⟨g, 0, none⟩), St nm] w (DkC g b m (D.remove nm) F w) := by
  have HF := Lib.hid (dfile_any h nm hn)
  unfold FilP at HF
  have HH := Lib.hid h
  have hlt := h.lt
  have HFl := Lib.hid h.fl
  have HSt := Lib.hid (fun w1 (h1 : DkAt w1 g b m D F) => dstep_any h1 hst)
  unfold StpP at HSt
  cases hd : D.down
  · cases hg : getF D.fs nm with
    | none =>
      have HV := Lib.hid (show D.remove nm = (D, 31) by rw [Dk.remove, if_neg (by rw [hd]; simp), hg])
      rw [show fileE D nm = 31 by rw [fileE, hd, hg]; rfl, show fileV D nm = fiZ by rw [fileV, hd, hg]; rfl] at HF
      unfold ctA at HF
      clear h hd hg
      go_enter Try.func48, Try.ntmps48
      go_wp2_with (first
        | (go_at_call 95; go_must (refine HF.out.mono ?_); rintro e w1 ⟨A1, c1, rfl, hr1, t1⟩
           have ta := (Touch.refl (fun _ => False) w1).alloc (.cells #[.slice A1 fiZ.al.length c1, .int .i64 fiZ.kp] 149)
           have HT1 := Lib.hid (t1.trans ta (fun _ _ e => e))
           have HH1 := Lib.hid (HH.out.far HT1.out)
           have HP1 := Lib.hid (Blk.new w1 149 #[.slice A1 fiZ.al.length c1, .int .i64 fiZ.kp])
           have HR1 := Lib.hid (hr1.touch ta (fun _ _ e => e))
           have hz1 := t1.size
           clear hr1 t1 ta))
      go_ret
      exact DkC.same HH.out HT1.out HV.out
    | some x =>
      rw [show fileE D nm = 0 by rw [fileE, hd, hg]; rfl, show fileV D nm = x by rw [fileV, hd, hg]; rfl] at HF
      unfold ctA at HF
      obtain ⟨hmem, hnm⟩ := getF_some hg
      subst hnm
      have hxn := h.ok.nm x hmem
      have HOk := Lib.hid h.ok
      have HGx := Lib.hid hg
      have hxt := len_le_tot hmem
      have htot := h.ok.tot
      cases hs : D.step.2
      · have HV := Lib.hid (show D.remove x.nm = (D.step.1, 50) by rw [Dk.remove, if_neg (by rw [hd]; simp), hg]; simp only; rw [if_neg (by rw [hs]; simp)])
        rw [hs] at HSt
        clear h hd hg hs hmem
        go_enter Try.func48, Try.ntmps48
        go_wp2_with (first
          | (go_at_call 95; go_must (refine HF.out.mono ?_); rintro e w1 ⟨A1, c1, rfl, hr1, t1⟩
             have ta := (Touch.refl (fun _ => False) w1).alloc (.cells #[.slice A1 x.al.length c1, .int .i64 x.kp] 149)
             have HT1 := Lib.hid (t1.trans ta (fun _ _ e => e))
             have HH1 := Lib.hid (HH.out.far HT1.out)
             have HP1 := Lib.hid (Blk.new w1 149 #[.slice A1 x.al.length c1, .int .i64 x.kp])
             have HR1 := Lib.hid (hr1.touch ta (fun _ _ e => e))
             have hz1 := t1.size
             clear hr1 t1 ta)
          | (go_at_call 97; go_must (refine (HSt.out _ (by exact HH1.out)).mono ?_); rintro e w2 ⟨rfl, hd2, t2⟩
             have HD2 := Lib.hid hd2
             have HT2 := Lib.hid t2
             have HP2 := Lib.hid (t2.blk HP1.out (by omega))
             have HR2 := Lib.hid (HR1.out.touch t2 (fun q hq e => by rcases e with rfl | rfl; exact HH.out.nF.1 hq; exact HH.out.nF.2.2 hq))
             have hz2 := t2.size
             clear hd2 t2))
        go_ret
        rw [HV.out]
        exact ⟨rfl, F, HD2.out, fun q hq => .inl hq, (HT1.out.mono (fun _ _ e => e.elim)).trans HT2.out (fun q _ e => by rcases e with e | e; exact .inl e; exact .inr (.inr e))⟩
      · have HV := Lib.hid (show D.remove x.nm = ({ D.step.1 with fs := outF D.fs x.nm }, 0) by rw [Dk.remove, if_neg (by rw [hd]; simp), hg]; simp only; rw [if_pos hs])
        rw [hs] at HSt
        clear h hd hg hs hmem
        go_enter Try.func48, Try.ntmps48
        go_wp2_with (first
          | (go_at_call 95; go_must (refine HF.out.mono ?_); rintro e w1 ⟨A1, c1, rfl, hr1, t1⟩
             have ta := (Touch.refl (fun _ => False) w1).alloc (.cells #[.slice A1 x.al.length c1, .int .i64 x.kp] 149)
             have HT1 := Lib.hid (t1.trans ta (fun _ _ e => e))
             have HH1 := Lib.hid (HH.out.far HT1.out)
             have HP1 := Lib.hid (Blk.new w1 149 #[.slice A1 x.al.length c1, .int .i64 x.kp])
             have HR1 := Lib.hid (hr1.touch ta (fun _ _ e => e))
             have hz1 := t1.size
             clear hr1 t1 ta)
          | (go_at_call 97; go_must (refine (HSt.out _ (by exact HH1.out)).mono ?_); rintro e w2 ⟨rfl, hd2, t2⟩
             have HD2 := Lib.hid hd2
             have HT2 := Lib.hid t2
             have HP2 := Lib.hid (t2.blk HP1.out (by omega))
             have HR2 := Lib.hid (HR1.out.touch t2 (fun q hq e => by rcases e with rfl | rfl; exact HH.out.nF.1 hq; exact HH.out.nF.2.2 hq))
             have hz2 := t2.size
             have q0 := HD2.out.blk.cell 0
             simp [dkA] at q0
             clear hd2 t2)
          | (at_delete; refine HD2.out.mp.drop HD2.out.ok.so (fun q hq e => HH.out.nF.2.1 (e ▸ hq)) x.nm (by unfold inS; simp only [maxLen]; omega) rfl _ _ rfl rfl rfl ?_; intro w7 hm7 t7
             have HR7 := Lib.hid (HD2.out.remap hm7 t7 (lo := w.heap.size) hlt (fun q hq => .inl hq) (outF_sorted HD2.out.ok.so _) (nm_out HD2.out.ok.nm) (Nat.le_trans (outF_len _ _) HD2.out.ok.n) (Nat.le_trans (outF_tot_le _ _) HD2.out.ok.tot))
             have HT77 := Lib.hid t7
             clear hm7 t7; go_frame))
        go_ret
        rw [HV.out]
        refine ⟨rfl, F, ?_, fun q hq => .inl hq, ?_⟩
        · have := HR7.out; rw [step_fs] at this; exact this
        · exact ((HT1.out.mono (S' := fun q => q = g ∨ q = b ∨ q = m) (fun _ _ e => e.elim)).trans HT2.out (fun q _ e => by rcases e with e | e; exact .inl e; exact .inr (.inr e))).trans HT77.out (fun q _ e => .inr (.inl e))
  · have HV := Lib.hid (show D.remove nm = (D, 50) by rw [Dk.remove, if_pos hd])
    rw [show fileE D nm = 50 by rw [fileE, hd]; rfl, show fileV D nm = fiZ by rw [fileV, hd]; rfl] at HF
    unfold ctA at HF
    clear h hd
    go_enter Try.func48, Try.ntmps48
    go_wp2_with (first
      | (go_at_call 95; go_must (refine HF.out.mono ?_); rintro e w1 ⟨A1, c1, rfl, hr1, t1⟩
         have ta := (Touch.refl (fun _ => False) w1).alloc (.cells #[.slice A1 fiZ.al.length c1, .int .i64 fiZ.kp] 149)
         have HT1 := Lib.hid (t1.trans ta (fun _ _ e => e))
         have HH1 := Lib.hid (HH.out.far HT1.out)
         have HP1 := Lib.hid (Blk.new w1 149 #[.slice A1 fiZ.al.length c1, .int .i64 fiZ.kp])
         have HR1 := Lib.hid (hr1.touch ta (fun _ _ e => e))
         have hz1 := t1.size
         clear hr1 t1 ta))
    go_ret
    exact DkC.same HH.out HT1.out HV.out
theorem dmove_any {w : World} {g b m : Nat} {D : Dk} {F : Nat → Prop} (h : DkAt w g b m D F) (nm : List UInt8) (hn : nm.length ≤ 1000000) (to_ : List UInt8) (ht : to_.length ≤ 1000000) (hst : D.steps ≤ 1000000) :
    Calls Try.prog 49 #[.pointer (some ⟨g, 0, none⟩), St nm, St to_] w (DkC g b m (D.move nm to_) F w) := by
  have HF := Lib.hid (dfile_any h nm hn)
  unfold FilP at HF
  have HH := Lib.hid h
  have hlt := h.lt
  have HFl := Lib.hid h.fl
  have HSt := Lib.hid (fun w1 (h1 : DkAt w1 g b m D F) => dstep_any h1 hst)
  unfold StpP at HSt
  cases hd : D.down
  · cases hg : getF D.fs nm with
    | none =>
      have HV := Lib.hid (show D.move nm to_ = (D, 31) by rw [Dk.move, if_neg (by rw [hd]; simp), hg])
      rw [show fileE D nm = 31 by rw [fileE, hd, hg]; rfl, show fileV D nm = fiZ by rw [fileV, hd, hg]; rfl] at HF
      unfold ctA at HF
      clear h hd hg
      go_enter Try.func49, Try.ntmps49
      go_wp2_with (first
        | (go_at_call 95; go_must (refine HF.out.mono ?_); rintro e w1 ⟨A1, c1, rfl, hr1, t1⟩
           have ta := (Touch.refl (fun _ => False) w1).alloc (.cells #[.slice A1 fiZ.al.length c1, .int .i64 fiZ.kp] 149)
           have HT1 := Lib.hid (t1.trans ta (fun _ _ e => e))
           have HH1 := Lib.hid (HH.out.far HT1.out)
           have HP1 := Lib.hid (Blk.new w1 149 #[.slice A1 fiZ.al.length c1, .int .i64 fiZ.kp])
           have HR1 := Lib.hid (hr1.touch ta (fun _ _ e => e))
           have hz1 := t1.size
           clear hr1 t1 ta))
      go_ret
      exact DkC.same HH.out HT1.out HV.out
    | some x =>
      rw [show fileE D nm = 0 by rw [fileE, hd, hg]; rfl, show fileV D nm = x by rw [fileV, hd, hg]; rfl] at HF
      unfold ctA at HF
      obtain ⟨hmem, hnm⟩ := getF_some hg
      subst hnm
      have hxn := h.ok.nm x hmem
      have HOk := Lib.hid h.ok
      have HGx := Lib.hid hg
      have hxt := len_le_tot hmem
      have htot := h.ok.tot
      cases hnt : namedF to_
      · have HV := Lib.hid (show D.move x.nm to_ = (D, 2) by rw [Dk.move, if_neg (by rw [hd]; simp), hg]; simp only; rw [if_pos hnt])
        have HNm := Lib.hid hnt
        clear h hd hg hmem hnt
        go_enter Try.func49, Try.ntmps49
        go_wp2_with (first
          | (go_at_call 95; go_must (refine HF.out.mono ?_); rintro e w1 ⟨A1, c1, rfl, hr1, t1⟩
             have ta := (Touch.refl (fun _ => False) w1).alloc (.cells #[.slice A1 x.al.length c1, .int .i64 x.kp] 149)
             have HT1 := Lib.hid (t1.trans ta (fun _ _ e => e))
             have HH1 := Lib.hid (HH.out.far HT1.out)
             have HP1 := Lib.hid (Blk.new w1 149 #[.slice A1 x.al.length c1, .int .i64 x.kp])
             have HR1 := Lib.hid (hr1.touch ta (fun _ _ e => e))
             have hz1 := t1.size
             clear hr1 t1 ta)
          | (go_at_call 96; go_must (refine (dnamed_any to_ _ ht).mono ?_); rintro e wn ⟨rfl, rfl⟩; rw [HNm.out]))
        go_ret
        exact DkC.same HH.out HT1.out HV.out
      have HNm := Lib.hid hnt
      cases hs : D.step.2
      · have HV := Lib.hid (show D.move x.nm to_ = (D.step.1, 50) by rw [Dk.move, if_neg (by rw [hd]; simp), hg]; simp only; rw [if_neg (by rw [hnt]; simp), if_neg (by rw [hs]; simp)])
        rw [hs] at HSt
        clear h hd hg hs hmem hnt
        go_enter Try.func49, Try.ntmps49
        go_wp2_with (first
          | (go_at_call 95; go_must (refine HF.out.mono ?_); rintro e w1 ⟨A1, c1, rfl, hr1, t1⟩
             have ta := (Touch.refl (fun _ => False) w1).alloc (.cells #[.slice A1 x.al.length c1, .int .i64 x.kp] 149)
             have HT1 := Lib.hid (t1.trans ta (fun _ _ e => e))
             have HH1 := Lib.hid (HH.out.far HT1.out)
             have HP1 := Lib.hid (Blk.new w1 149 #[.slice A1 x.al.length c1, .int .i64 x.kp])
             have HR1 := Lib.hid (hr1.touch ta (fun _ _ e => e))
             have hz1 := t1.size
             clear hr1 t1 ta)
          | (go_at_call 96; go_must (refine (dnamed_any to_ _ ht).mono ?_); rintro e wn ⟨rfl, rfl⟩; rw [HNm.out])
          | (go_at_call 97; go_must (refine (HSt.out _ (by exact HH1.out)).mono ?_); rintro e w2 ⟨rfl, hd2, t2⟩
             have HD2 := Lib.hid hd2
             have HT2 := Lib.hid t2
             have HP2 := Lib.hid (t2.blk HP1.out (by omega))
             have HR2 := Lib.hid (HR1.out.touch t2 (fun q hq e => by rcases e with rfl | rfl; exact HH.out.nF.1 hq; exact HH.out.nF.2.2 hq))
             have hz2 := t2.size
             clear hd2 t2))
        go_ret
        rw [HV.out]
        exact ⟨rfl, F, HD2.out, fun q hq => .inl hq, (HT1.out.mono (fun _ _ e => e.elim)).trans HT2.out (fun q _ e => by rcases e with e | e; exact .inl e; exact .inr (.inr e))⟩
      · have HV := Lib.hid (show D.move x.nm to_ = ({ D.step.1 with fs := putF (outF D.fs x.nm) { x with nm := to_ } }, 0) by rw [Dk.move, if_neg (by rw [hd]; simp), hg]; simp only; rw [if_neg (by rw [hnt]; simp), if_pos hs])
        have htn : 1 ≤ to_.length ∧ to_.length ≤ 16 := by simpa [namedF] using hnt
        rw [hs] at HSt
        clear h hd hg hs hmem hnt
        go_enter Try.func49, Try.ntmps49
        go_wp2_with (first
          | (go_at_call 95; go_must (refine HF.out.mono ?_); rintro e w1 ⟨A1, c1, rfl, hr1, t1⟩
             have ta := (Touch.refl (fun _ => False) w1).alloc (.cells #[.slice A1 x.al.length c1, .int .i64 x.kp] 149)
             have HT1 := Lib.hid (t1.trans ta (fun _ _ e => e))
             have HH1 := Lib.hid (HH.out.far HT1.out)
             have HP1 := Lib.hid (Blk.new w1 149 #[.slice A1 x.al.length c1, .int .i64 x.kp])
             have HR1 := Lib.hid (hr1.touch ta (fun _ _ e => e))
             have hz1 := t1.size
             clear hr1 t1 ta)
          | (go_at_call 96; go_must (refine (dnamed_any to_ _ ht).mono ?_); rintro e wn ⟨rfl, rfl⟩; rw [HNm.out])
          | (go_at_call 97; go_must (refine (HSt.out _ (by exact HH1.out)).mono ?_); rintro e w2 ⟨rfl, hd2, t2⟩
             have HD2 := Lib.hid hd2
             have HT2 := Lib.hid t2
             have HP2 := Lib.hid (t2.blk HP1.out (by omega))
             have HR2 := Lib.hid (HR1.out.touch t2 (fun q hq e => by rcases e with rfl | rfl; exact HH.out.nF.1 hq; exact HH.out.nF.2.2 hq))
             have hz2 := t2.size
             have q0 := HD2.out.blk.cell 0
             simp [dkA] at q0
             clear hd2 t2)
          | (at_delete; refine HD2.out.mp.drop HD2.out.ok.so (fun q hq e => HH.out.nF.2.1 (e ▸ hq)) x.nm (by unfold inS; simp only [maxLen]; omega) rfl _ _ rfl rfl rfl ?_; intro w6 hm6 t6
             have HD6 := Lib.hid (HD2.out.remap hm6 t6 (lo := w.heap.size) hlt (fun q hq => .inl hq) (outF_sorted HD2.out.ok.so _) (nm_out HD2.out.ok.nm) (Nat.le_trans (outF_len _ _) HD2.out.ok.n) (Nat.le_trans (outF_tot_le _ _) HD2.out.ok.tot))
             have HT66 := Lib.hid t6
             have HP6 := Lib.hid (t6.blk HP2.out (by omega))
             have HR6 := Lib.hid (HR2.out.touch t6 (fun q hq e => HH.out.nF.2.1 (e ▸ hq)))
             clear hm6 t6 q0; go_frame))
        obtain ⟨W, hW⟩ : ∃ W, W = w6.drew := ⟨_, rfl⟩
        have HTW := Lib.hid (show Touch (fun _ => False) w6 W from hW ▸ (Touch.refl _ _).drew)
        have HDW := Lib.hid (HD6.out.far HTW.out)
        have hpw := HTW.out.blk HP6.out (fun e => e)
        have x0 := hpw.cell 0
        have x1 := hpw.cell 1
        simp at x0 x1
        have q0 := HDW.out.blk.cell 0
        simp [dkA] at q0
        have HRW := Lib.hid (HR6.out.touch HTW.out (fun _ _ e => e))
        have hpt := move_tot HOk.out.so HGx.out to_
        obtain ⟨w7, hrun, hm7, t7⟩ := HDW.out.mp.store HDW.out.ok.so HDW.out.ok.inS { x with nm := to_ } (by unfold inS; simp only [maxLen]; omega) (by simp only; rw [step_fs]; have := HOk.out.n; omega) A1 c1 F (fun q hq => hq) (fun q hq e => HH.out.nF.2.1 (e ▸ hq)) HRW.out
        have HR7 := Lib.hid (HDW.out.remap hm7 t7 (lo := w.heap.size) hlt (fun q hq => .inl hq) (putF_sorted HDW.out.ok.so _) (nm_put HDW.out.ok.nm (by simp; omega)) (by simp only; rw [step_fs]; have := HOk.out.n; omega) (by simp only; rw [step_fs]; omega))
        unfold ctA at hrun
        simp only at hrun
        have HT77 := Lib.hid t7
        clear hm7 t7 hpt hpw
        refine wp_region_plan [(0, 0), (0, 1), (0, 2), (0, 3), (0, 4), (0, 5), (2, 6)] (fun q => q = b) (by kernel_rfl) (by kernel_rfl) (fun c a d v w h => by cases d <;> exact h) ?_
        rw [← hW]
        clear hW
        iterate 6
          refine plan_s1 rfl (by rfl) (fun Kc hKc => ?_)
          go_simp
          first
            | (refine hKc _ ?_)
          clear hKc Kc
        refine plan_a1 rfl (by rfl) (fun Kc hKc => ?_)
        go_simp
        refine hKc _ _ ⟨HT77.out, ?_⟩
        clear hKc Kc
        refine plan_done ?_
        clear hrun q0 x0 x1
        go_wp2
        go_ret
        rw [HV.out]
        refine ⟨rfl, F, ?_, fun q hq => .inl hq, ?_⟩
        · have := HR7.out; try simp only at this
          rw [step_fs] at this; exact this
        · exact ((((HT1.out.mono (S' := fun q => q = g ∨ q = b ∨ q = m) (fun _ _ e => e.elim)).trans HT2.out (fun q _ e => by rcases e with e | e; exact .inl e; exact .inr (.inr e))).trans HT66.out (fun q _ e => .inr (.inl e))).trans HTW.out (fun _ _ e => e.elim)).trans HT77.out (fun q _ e => .inr (.inl e))
  · have HV := Lib.hid (show D.move nm to_ = (D, 50) by rw [Dk.move, if_pos hd])
    rw [show fileE D nm = 50 by rw [fileE, hd]; rfl, show fileV D nm = fiZ by rw [fileV, hd]; rfl] at HF
    unfold ctA at HF
    clear h hd
    go_enter Try.func49, Try.ntmps49
    go_wp2_with (first
      | (go_at_call 95; go_must (refine HF.out.mono ?_); rintro e w1 ⟨A1, c1, rfl, hr1, t1⟩
         have ta := (Touch.refl (fun _ => False) w1).alloc (.cells #[.slice A1 fiZ.al.length c1, .int .i64 fiZ.kp] 149)
         have HT1 := Lib.hid (t1.trans ta (fun _ _ e => e))
         have HH1 := Lib.hid (HH.out.far HT1.out)
         have HP1 := Lib.hid (Blk.new w1 149 #[.slice A1 fiZ.al.length c1, .int .i64 fiZ.kp])
         have HR1 := Lib.hid (hr1.touch ta (fun _ _ e => e))
         have hz1 := t1.size
         clear hr1 t1 ta))
    go_ret
    exact DkC.same HH.out HT1.out HV.out
end Go.Proofs.Ytpgakkpmpnebnaa
