/- disk.Disk: Cut. (written by genDk.py) -/
import Derived.Test.YtpgakkpmpnebnaaVDkG
namespace Go.Proofs.Ytpgakkpmpnebnaa
open Go.RowKit Go.Maps
set_option maxHeartbeats 4000000
set_option maxRecDepth 100000
set_option linter.unusedVariables false
attribute [local irreducible] wpPlan

/-- The base of s[l:..]. -/
def baseA (A : Option Addr) (l m : Nat) : Option Addr := if m = l then A else A.map (·.add (l * 1))
theorem Rd.hm {w : World} {F : Nat → Prop} {A : Option Addr} {n k m : Nat} {xs : List Value} (h : Rd w F A n xs) (hk : k ≤ n) : Rd w F (baseA A 0 m) k (xs.take k) := by
  have := h.take hk
  unfold baseA
  split
  · exact this
  · refine ⟨this.1, fun h0 => ?_⟩
    obtain ⟨g, off, rfl, hl, hF, hc⟩ := this.2 h0
    refine ⟨g, off + 0, by simp [Addr.add], hl, hF, by simpa using hc⟩
theorem slice_hm (t : TypeId) {P : Program} (ht : P.underlying t = some (.slice (P.elem t))) (h1 : ∀ w : World, (sizeOf (P.elem t)).run P w = .ok 1 w) (A : Option Addr) (n c k : Nat) (hk : k ≤ c) (w : World) :
    (Instr.slice t (.slice A n c) none (some (.int .i64 (k : Int))) (some (.int .i64 (k : Int)))).run P w = .ok (.slice (baseA A 0 k) k k) w := by
  rw [run_slice_hm w t A n c ht .i64 .i64 k k (by omega) (by omega) (by omega), h1]
  simp [Result.andThen, sliced, baseA]
theorem size8 (w : World) : (sizeOf (Try.prog.elem 88)).run Try.prog w = .ok 1 w := by kernel_rfl
theorem dcut_any {w : World} {g b m : Nat} {D : Dk} {F : Nat → Prop} (h : DkAt w g b m D F) (nm : List UInt8) (hn : nm.length ≤ 1000000) (n : Int) (hst : D.steps ≤ 1000000) :
    Calls Try.prog 47 #[.pointer (some ⟨g, 0, none⟩), St nm, .int .i64 n] w (DkC g b m (D.cut nm n) F w) := by
  have HF := Lib.hid (dfile_any h nm hn)
  unfold FilP at HF
  have HH := Lib.hid h
  have hlt := h.lt
  have HFl := Lib.hid h.fl
  have HSt := Lib.hid (fun w1 (h1 : DkAt w1 g b m D F) => dstep_any h1 hst)
  unfold StpP at HSt
  cases hd : D.down
  · cases hg : getF D.fs nm with
    | none =>
      have HV := Lib.hid (show D.cut nm n = (D, 31) by rw [Dk.cut, if_neg (by rw [hd]; simp), hg])
      rw [show fileE D nm = 31 by rw [fileE, hd, hg]; rfl, show fileV D nm = fiZ by rw [fileV, hd, hg]; rfl] at HF
      unfold ctA at HF
      clear h hd hg
      go_enter Try.func47, Try.ntmps47
      go_wp2_with (first
        | (go_at_call 95; go_must (refine HF.out.mono ?_); rintro e w1 ⟨A1, c1, rfl, hr1, t1⟩
           have ta := (Touch.refl (fun _ => False) w1).alloc (.cells #[.slice A1 fiZ.al.length c1, .int .i64 fiZ.kp] 149)
           have HT1 := Lib.hid (t1.trans ta (fun _ _ e => e))
           have HH1 := Lib.hid (HH.out.far HT1.out)
           have HP1 := Lib.hid (Blk.new w1 149 #[.slice A1 fiZ.al.length c1, .int .i64 fiZ.kp])
           have HR1 := Lib.hid (hr1.touch ta (fun _ _ e => e))
           have hz1 := t1.size
           clear hr1 t1 ta))
      go_ret
      exact DkC.same HH.out HT1.out HV.out
    | some x =>
      rw [show fileE D nm = 0 by rw [fileE, hd, hg]; rfl, show fileV D nm = x by rw [fileV, hd, hg]; rfl] at HF
      unfold ctA at HF
      obtain ⟨hmem, hnm⟩ := getF_some hg
      subst hnm
      have hxn := h.ok.nm x hmem
      have HOk := Lib.hid h.ok
      have HGx := Lib.hid hg
      have hxt := len_le_tot hmem
      have htot := h.ok.tot
      rcases (by rcases Int.lt_or_le n 0 with h | h; exact .inl h; rcases Int.lt_or_le x.al.length n with h' | h'; exact .inr (.inl ⟨by omega, h'⟩); exact .inr (.inr ⟨n.toNat, by omega, by omega⟩) : n < 0 ∨ (¬ n < 0 ∧ (x.al.length : Int) < n) ∨ ∃ k : Nat, n = k ∧ k ≤ x.al.length) with h0 | ⟨h0, h1⟩ | ⟨k, rfl, hk⟩
      · have HV := Lib.hid (show D.cut x.nm n = (D, 2) by rw [Dk.cut, if_neg (by rw [hd]; simp), hg]; simp only; rw [if_pos (by omega)])
        clear h hd hg hmem
        go_enter Try.func47, Try.ntmps47
        go_wp2_with (first
          | (go_at_call 95; go_must (refine HF.out.mono ?_); rintro e w1 ⟨A1, c1, rfl, hr1, t1⟩
             have ta := (Touch.refl (fun _ => False) w1).alloc (.cells #[.slice A1 x.al.length c1, .int .i64 x.kp] 149)
             have HT1 := Lib.hid (t1.trans ta (fun _ _ e => e))
             have HH1 := Lib.hid (HH.out.far HT1.out)
             have HP1 := Lib.hid (Blk.new w1 149 #[.slice A1 x.al.length c1, .int .i64 x.kp])
             have HR1 := Lib.hid (hr1.touch ta (fun _ _ e => e))
             have hz1 := t1.size
             clear hr1 t1 ta))
        go_ret
        exact DkC.same HH.out HT1.out HV.out
      · have HV := Lib.hid (show D.cut x.nm n = (D, 2) by rw [Dk.cut, if_neg (by rw [hd]; simp), hg]; simp only; rw [if_pos (by omega)])
        clear h hd hg hmem
        go_enter Try.func47, Try.ntmps47
        go_wp2_with (first
          | (go_at_call 95; go_must (refine HF.out.mono ?_); rintro e w1 ⟨A1, c1, rfl, hr1, t1⟩
             have ta := (Touch.refl (fun _ => False) w1).alloc (.cells #[.slice A1 x.al.length c1, .int .i64 x.kp] 149)
             have HT1 := Lib.hid (t1.trans ta (fun _ _ e => e))
             have HH1 := Lib.hid (HH.out.far HT1.out)
             have HP1 := Lib.hid (Blk.new w1 149 #[.slice A1 x.al.length c1, .int .i64 x.kp])
             have HR1 := Lib.hid (hr1.touch ta (fun _ _ e => e))
             have hz1 := t1.size
             clear hr1 t1 ta))
        go_ret
        exact DkC.same HH.out HT1.out HV.out
      · have hkk : ¬ (k : Int) < 0 := by omega
        have hkl : ¬ (x.al.length : Int) < (k : Int) := by omega
        have hcx : x.al.length ≤ x.al.length := Nat.le_refl _
        cases hs : D.step.2
        · have HV := Lib.hid (show D.cut x.nm k = (D.step.1, 50) by rw [Dk.cut, if_neg (by rw [hd]; simp), hg]; simp only; rw [if_neg (by omega), if_neg (by rw [hs]; simp)])
          rw [hs] at HSt
          clear h hd hg hs hmem
          go_enter Try.func47, Try.ntmps47
          go_wp2_with (first
            | (go_at_call 95; go_must (refine HF.out.mono ?_); rintro e w1 ⟨A1, c1, rfl, hr1, t1⟩
               have ta := (Touch.refl (fun _ => False) w1).alloc (.cells #[.slice A1 x.al.length c1, .int .i64 x.kp] 149)
               have HT1 := Lib.hid (t1.trans ta (fun _ _ e => e))
               have HH1 := Lib.hid (HH.out.far HT1.out)
               have HP1 := Lib.hid (Blk.new w1 149 #[.slice A1 x.al.length c1, .int .i64 x.kp])
               have HR1 := Lib.hid (hr1.touch ta (fun _ _ e => e))
               have hz1 := t1.size
               clear hr1 t1 ta)
            | (go_at_call 97; go_must (refine (HSt.out _ (by exact HH1.out)).mono ?_); rintro e w2 ⟨rfl, hd2, t2⟩
               have HD2 := Lib.hid hd2
               have HT2 := Lib.hid t2
               have HP2 := Lib.hid (t2.blk HP1.out (by omega))
               have HR2 := Lib.hid (HR1.out.touch t2 (fun q hq e => by rcases e with rfl | rfl; exact HH.out.nF.1 hq; exact HH.out.nF.2.2 hq))
               have hz2 := t2.size
               clear hd2 t2))
          go_ret
          rw [HV.out]
          exact ⟨rfl, F, HD2.out, fun q hq => .inl hq, (HT1.out.mono (fun _ _ e => e.elim)).trans HT2.out (fun q _ e => by rcases e with e | e; exact .inl e; exact .inr (.inr e))⟩
        · have HV := Lib.hid (show D.cut x.nm k = ({ D.step.1 with fs := putF D.fs { x with al := x.al.take k, kp := min x.kp k } }, 0) by rw [Dk.cut, if_neg (by rw [hd]; simp), hg]; simp only; rw [if_neg (by omega), if_pos hs]; rfl)
          rw [hs] at HSt
          clear h hd hg hs hmem
          have hmv : ∃ mv : Nat, mv = min x.kp k ∧ min (x.kp : Int) (k : Int) = (mv : Int) := ⟨_, rfl, by omega⟩
          obtain ⟨mv, hmv, hmk⟩ := hmv
          go_enter Try.func47, Try.ntmps47
          go_wp2_with (first
            | (go_at_call 95; go_must (refine HF.out.mono ?_); rintro e w1 ⟨A1, c1, rfl, hr1, t1⟩
               have ta := (Touch.refl (fun _ => False) w1).alloc (.cells #[.slice A1 x.al.length c1, .int .i64 x.kp] 149)
               have HT1 := Lib.hid (t1.trans ta (fun _ _ e => e))
               have HH1 := Lib.hid (HH.out.far HT1.out)
               have HP1 := Lib.hid (Blk.new w1 149 #[.slice A1 x.al.length c1, .int .i64 x.kp])
               have HR1 := Lib.hid (hr1.touch ta (fun _ _ e => e))
               have hz1 := t1.size
               clear hr1 t1 ta)
            | (go_at_call 97; go_must (refine (HSt.out _ (by exact HH1.out)).mono ?_); rintro e w2 ⟨rfl, hd2, t2⟩
               have HD2 := Lib.hid hd2
               have HT2 := Lib.hid t2
               have HP2 := Lib.hid (t2.blk HP1.out (by omega))
               have HR2 := Lib.hid (HR1.out.touch t2 (fun q hq e => by rcases e with rfl | rfl; exact HH.out.nF.1 hq; exact HH.out.nF.2.2 hq))
               have hz2 := t2.size
               have x0 := HP2.out.cell 0
               have x1 := HP2.out.cell 1
               simp at x0 x1
               clear hd2 t2))
          clear x0 x1
          obtain ⟨W, hW⟩ : ∃ W, W = w2.drew := ⟨_, rfl⟩
          have HTW := Lib.hid (show Touch (fun _ => False) w2 W from hW ▸ (Touch.refl _ _).drew)
          have HDW := Lib.hid (HD2.out.far HTW.out)
          have hpw := HTW.out.blk HP2.out (fun e => e)
          have x0 := hpw.cell 0
          have x1 := hpw.cell 1
          simp at x0 x1
          have q0 := HDW.out.blk.cell 0
          simp [dkA] at q0
          have HRW := Lib.hid (HR2.out.touch HTW.out (fun _ _ e => e))
          have hpt := put_tot HOk.out.so HGx.out (f := { x with al := x.al.take k, kp := min x.kp k }) rfl (by simp; omega)
          have hcap := HRW.out.2
          have hbr : BtR W F (baseA A1 0 k) k (x.al.take k) := by
            refine ⟨?_, by simp; omega, by omega⟩
            rw [List.length_take, Nat.min_eq_left hk, List.map_take]
            exact HRW.out.1.hm hk
          obtain ⟨w7, hrun, hm7, t7⟩ := HDW.out.mp.store HDW.out.ok.so HDW.out.ok.inS { x with al := x.al.take k, kp := min x.kp k } (by unfold inS; simp only [maxLen]; omega) (by rw [step_fs, hpt.2]; exact HOk.out.n) (baseA A1 0 k) k F (fun q hq => hq) (fun q hq e => HH.out.nF.2.1 (e ▸ hq)) hbr
          have HR7 := Lib.hid (HDW.out.remap hm7 t7 (lo := w.heap.size) hlt (fun q hq => .inl hq) (putF_sorted (by rw [step_fs]; exact HOk.out.so) _) (nm_put (by rw [step_fs]; exact HOk.out.nm) (by simp; omega)) (by rw [step_fs, hpt.2]; exact HOk.out.n) (by rw [step_fs]; omega))
          unfold ctA at hrun
          simp only [List.length_take, Nat.min_eq_left hk, ← hmv] at hrun
          have HT77 := Lib.hid t7
          have hsl := slice_hm 88 Try.underlying88 size8 A1 x.al.length c1 k (by omega)
          clear hm7 t7 hpt hpw hbr hmv
          all_goals
            refine wp_region_plan [(0, 0), (0, 1), (0, 2), (0, 3), (0, 4), (0, 5), (0, 6), (0, 7), (0, 8), (0, 9), (0, 10), (0, 11), (0, 12), (0, 13), (0, 14), (2, 15)] (fun q => q = b) (by kernel_rfl) (by kernel_rfl) (fun c a d v w h => by cases d <;> exact h) ?_
            rw [← hW]
            clear hW
            iterate 15
              refine plan_s1 rfl (by rfl) (fun Kc hKc => ?_)
              go_simp
              first
                | (refine hKc _ ?_)
              clear hKc Kc
            refine plan_a1 rfl (by rfl) (fun Kc hKc => ?_)
            go_simp
            refine hKc _ _ ⟨HT77.out, ?_⟩
            clear hKc Kc
            refine plan_done ?_
            clear hrun q0 x0 x1
            go_wp2
            go_ret
            rw [HV.out]
            refine ⟨rfl, F, ?_, fun q hq => .inl hq, ?_⟩
            · have := HR7.out; rw [step_fs] at this; exact this
            · exact ((((HT1.out.mono (S' := fun q => q = g ∨ q = b ∨ q = m) (fun _ _ e => e.elim)).trans HT2.out (fun q _ e => by rcases e with e | e; exact .inl e; exact .inr (.inr e)))).trans HTW.out (fun _ _ e => e.elim)).trans HT77.out (fun q _ e => .inr (.inl e))
  · have HV := Lib.hid (show D.cut nm n = (D, 50) by rw [Dk.cut, if_pos hd])
    rw [show fileE D nm = 50 by rw [fileE, hd]; rfl, show fileV D nm = fiZ by rw [fileV, hd]; rfl] at HF
    unfold ctA at HF
    clear h hd
    go_enter Try.func47, Try.ntmps47
    go_wp2_with (first
      | (go_at_call 95; go_must (refine HF.out.mono ?_); rintro e w1 ⟨A1, c1, rfl, hr1, t1⟩
         have ta := (Touch.refl (fun _ => False) w1).alloc (.cells #[.slice A1 fiZ.al.length c1, .int .i64 fiZ.kp] 149)
         have HT1 := Lib.hid (t1.trans ta (fun _ _ e => e))
         have HH1 := Lib.hid (HH.out.far HT1.out)
         have HP1 := Lib.hid (Blk.new w1 149 #[.slice A1 fiZ.al.length c1, .int .i64 fiZ.kp])
         have HR1 := Lib.hid (hr1.touch ta (fun _ _ e => e))
         have hz1 := t1.size
         clear hr1 t1 ta))
    go_ret
    exact DkC.same HH.out HT1.out HV.out
end Go.Proofs.Ytpgakkpmpnebnaa
