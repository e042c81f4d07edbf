/- disk.Disk: Arm, Boot, Resize, Read. -/
import Derived.Test.YtpgakkpmpnebnaaVDkE
namespace Go.Proofs.Ytpgakkpmpnebnaa
open Go.RowKit Go.Maps
set_option maxHeartbeats 4000000
set_option maxRecDepth 100000
set_option linter.unusedVariables false
attribute [local irreducible] wpPlan

/-- What a call on a disk leaves. -/
def DkC (g b m : Nat) (p : Dk × Int) (F : Nat → Prop) (w : World) (e : Ending) (w' : World) : Prop :=
  e = .returned (.int .i64 p.2) ∧ ∃ F', DkAt w' g b m p.1 F' ∧ (∀ q, F' q → F q ∨ (w.heap.size ≤ q ∧ q < w'.heap.size)) ∧ Touch (fun q => q = g ∨ q = b ∨ q = m) w w'
theorem DkC.same {w w' : World} {g b m : Nat} {D : Dk} {F : Nat → Prop} {p : Dk × Int} {v : Int} (h : DkAt w g b m D F) (t : Touch (fun _ => False) w w') (hp : p = (D, v)) : DkC g b m p F w (.returned (.int .i64 v)) w' := by
  subst hp
  exact ⟨rfl, F, h.far t, fun q hq => .inl hq, t.mono (fun _ _ e => e.elim)⟩
/-- Only the disk's own block is turned. -/
theorem DkAt.own {w w' : World} {g b m : Nat} {D : Dk} {F : Nat → Prop} (h : DkAt w g b m D F) {room : Int} {down : Bool} {armed : Int} (hr : 0 ≤ room ∧ room ≤ 1048576) (ha : -1 ≤ armed ∧ armed ≤ 9223372036854775807) (hb : Blk w' g 102 (dkA b room down armed m)) (t : Touch (fun q => q = g) w w') :
    DkAt w' g b m { D with room := room, down := down, armed := armed } F :=
  ⟨hb, h.mp.touch t (fun e => h.ne.1 e.symm) (fun q hq e => h.nF.1 (e ▸ hq)), h.mt.touch t (fun e => h.ne.2.1 e.symm), ⟨h.ok.so, h.ok.nm, h.ok.n, h.ok.tot, hr, ha⟩, fun q hq => Nat.lt_of_lt_of_le (h.fl q hq) t.size, h.nF, h.ne⟩
theorem darm_any {w : World} {g b m : Nat} {D : Dk} {F : Nat → Prop} (h : DkAt w g b m D F) (n : Int) (hn : n ≤ 9223372036854775807) :
    Calls Try.prog 44 #[.pointer (some ⟨g, 0, none⟩), .int .i64 n] w (DkC g b m (D.arm n) F w) := by
  have HU := Lib.hid (dup_any h)
  have HH := Lib.hid h
  have q3 := h.blk.cell 3
  have f3 := h.blk.frozen 3
  simp [dkA] at q3
  cases hd : D.down
  · rw [show upE D = 0 by rw [upE, hd]; rfl] at HU
    by_cases h0 : n < 0
    · have HV := Lib.hid (show D.arm n = (D, 2) by rw [Dk.arm, if_neg (by rw [hd]; simp), if_pos h0])
      clear h hd q3 f3
      go_enter Try.func44, Try.ntmps44
      go_wp2_with (go_at_call 94; go_must (refine HU.out.mono ?_); rintro e w1 ⟨rfl, rfl⟩)
      go_ret
      exact DkC.same HH.out (Touch.refl _ _) HV.out
    · have HV := Lib.hid (show D.arm n = ({ D with armed := n }, 0) by rw [Dk.arm, if_neg (by rw [hd]; simp), if_neg h0])
      have t1 := (Touch.refl (fun q => q = g) w).set (b := g) (o := 3) (fun _ => rfl) (.int .i64 n)
      have hb := h.blk.set_ 3 (.int .i64 n)
      have H1 := Lib.hid (h.own (room := D.room) (down := D.down) (armed := n) h.ok.room (by omega) (by simpa [dkA] using hb) t1)
      have HT1 := Lib.hid t1
      clear h hd hb t1
      go_enter Try.func44, Try.ntmps44
      go_wp2_with (go_at_call 94; go_must (refine HU.out.mono ?_); rintro e w1 ⟨rfl, rfl⟩)
      go_ret
      rw [HV.out]
      exact ⟨rfl, F, H1.out, fun q hq => .inl hq, HT1.out.mono (fun _ _ e => .inl e)⟩
  · rw [show upE D = 50 by rw [upE, hd]; rfl] at HU
    have HV := Lib.hid (show D.arm n = (D, 50) by rw [Dk.arm, if_pos hd])
    clear h hd q3 f3
    go_enter Try.func44, Try.ntmps44
    go_wp2_with (go_at_call 94; go_must (refine HU.out.mono ?_); rintro e w1 ⟨rfl, rfl⟩)
    go_ret
    exact DkC.same HH.out (Touch.refl _ _) HV.out
theorem dboot_any {w : World} {g b m : Nat} {D : Dk} {F : Nat → Prop} (h : DkAt w g b m D F) :
    Calls Try.prog 51 #[.pointer (some ⟨g, 0, none⟩)] w (DkC g b m (D.boot, 0) F w) := by
  have HN := Lib.hid (dnone_any h)
  have q2 := h.blk.cell 2
  have f2 := h.blk.frozen 2
  have q3 := h.blk.cell 3
  have f3 := h.blk.frozen 3
  simp [dkA] at q2 q3
  have t1 := ((Touch.refl (fun q => q = g) w).set (b := g) (o := 2) (fun _ => rfl) (.bool false)).set (b := g) (o := 3) (fun _ => rfl) (.int .i64 (-1))
  have hb := (h.blk.set_ 2 (.bool false)).set_ 3 (.int .i64 (-1))
  have H1 := Lib.hid (h.own (room := D.room) (down := false) (armed := -1) h.ok.room (by omega) (by simpa [dkA] using hb) t1)
  have HT1 := Lib.hid t1
  clear h hb t1
  go_enter Try.func51, Try.ntmps51
  go_wp2_with (go_at_call 87; go_must (refine HN.out.mono ?_); rintro e w1 ⟨rfl, rfl⟩)
  go_ret
  exact ⟨rfl, F, H1.out, fun q hq => .inl hq, HT1.out.mono (fun _ _ e => .inl e)⟩
theorem dresize_any {w : World} {g b m : Nat} {D : Dk} {F : Nat → Prop} (h : DkAt w g b m D F) (n : Int) :
    Calls Try.prog 50 #[.pointer (some ⟨g, 0, none⟩), .int .i64 n] w (DkC g b m (D.resize n) F w) := by
  have HU := Lib.hid (dup_any h)
  have HH := Lib.hid h
  have q1 := h.blk.cell 1
  have f1 := h.blk.frozen 1
  simp [dkA] at q1
  cases hd : D.down
  · rw [show upE D = 0 by rw [upE, hd]; rfl] at HU
    rcases (by omega : n < 0 ∨ (¬ n < 0 ∧ 1048576 < n) ∨ (¬ n < 0 ∧ ¬ 1048576 < n)) with h0 | ⟨h0, h1⟩ | ⟨h0, h1⟩
    · have HV := Lib.hid (show D.resize n = (D, 2) by rw [Dk.resize, if_neg (by rw [hd]; simp), if_pos (by omega)])
      clear h hd q1 f1
      go_enter Try.func50, Try.ntmps50
      go_wp2_with (go_at_call 94; go_must (refine HU.out.mono ?_); rintro e w1 ⟨rfl, rfl⟩)
      go_ret
      exact DkC.same HH.out (Touch.refl _ _) HV.out
    · have HV := Lib.hid (show D.resize n = (D, 2) by rw [Dk.resize, if_neg (by rw [hd]; simp), if_pos (by omega)])
      clear h hd q1 f1
      go_enter Try.func50, Try.ntmps50
      go_wp2_with (go_at_call 94; go_must (refine HU.out.mono ?_); rintro e w1 ⟨rfl, rfl⟩)
      go_ret
      exact DkC.same HH.out (Touch.refl _ _) HV.out
    · have HV := Lib.hid (show D.resize n = ({ D with room := n }, 0) by rw [Dk.resize, if_neg (by rw [hd]; simp), if_neg (by omega)])
      have t1 := (Touch.refl (fun q => q = g) w).set (b := g) (o := 1) (fun _ => rfl) (.int .i64 n)
      have hb := h.blk.set_ 1 (.int .i64 n)
      have H1 := Lib.hid (h.own (room := n) (down := D.down) (armed := D.armed) (by omega) h.ok.armed (by simpa [dkA] using hb) t1)
      have HT1 := Lib.hid t1
      clear h hd hb t1
      go_enter Try.func50, Try.ntmps50
      go_wp2_with (go_at_call 94; go_must (refine HU.out.mono ?_); rintro e w1 ⟨rfl, rfl⟩)
      go_ret
      rw [HV.out]
      exact ⟨rfl, F, H1.out, fun q hq => .inl hq, HT1.out.mono (fun _ _ e => .inl e)⟩
  · rw [show upE D = 50 by rw [upE, hd]; rfl] at HU
    have HV := Lib.hid (show D.resize n = (D, 50) by rw [Dk.resize, if_pos hd])
    clear h hd q1 f1
    go_enter Try.func50, Try.ntmps50
    go_wp2_with (go_at_call 94; go_must (refine HU.out.mono ?_); rintro e w1 ⟨rfl, rfl⟩)
    go_ret
    exact DkC.same HH.out (Touch.refl _ _) HV.out
def RdkP (p : List UInt8 × Int) (w : World) (e : Ending) (w' : World) : Prop :=
  ∃ A c, e = .returned (.tuple #[.slice A p.1.length c, .int .i64 p.2]) ∧ BtR w' (fun q => w.heap.size ≤ q) A c p.1 ∧ Touch (fun _ => False) w w'
theorem dread_any {w : World} {g b m : Nat} {D : Dk} {F : Nat → Prop} (h : DkAt w g b m D F) (nm : List UInt8) (hn : nm.length ≤ 1000000) :
    Calls Try.prog 52 #[.pointer (some ⟨g, 0, none⟩), St nm] w (RdkP (D.read nm) w) := by
  have HF := Lib.hid (dfile_any h nm hn)
  unfold FilP at HF
  unfold RdkP
  cases hd : D.down
  · cases hg : getF D.fs nm with
    | none =>
      have HV := Lib.hid (show D.read nm = ([], 31) by rw [Dk.read, if_neg (by rw [hd]; simp), hg])
      rw [show fileE D nm = 31 by rw [fileE, hd, hg]; rfl, show fileV D nm = fiZ by rw [fileV, hd, hg]; rfl] at HF
      unfold ctA at HF
      clear h hd hg
      go_enter Try.func52, Try.ntmps52
      go_wp2_with (go_at_call 95; go_must (refine HF.out.mono ?_); rintro e w1 ⟨A1, c1, rfl, hr1, t1⟩; have HT1 := Lib.hid (t1.alloc (.cells #[.slice A1 fiZ.al.length c1, .int .i64 fiZ.kp] 149)); clear hr1 t1)
      refine bodyPost_ret (v := .tuple #[.slice none 0 0, .int .i64 31]) (by simp [results, Try.results52, go_sem]) rfl ?_
      rw [HV.out]
      exact ⟨none, 0, rfl, BtR.nil _ _, HT1.out⟩
    | some x =>
      have HV := Lib.hid (show D.read nm = (x.al, 0) by rw [Dk.read, if_neg (by rw [hd]; simp), hg])
      have hxl := len_le_tot (getF_some hg).1
      have htot := h.ok.tot
      rw [show fileE D nm = 0 by rw [fileE, hd, hg]; rfl, show fileV D nm = x by rw [fileV, hd, hg]; rfl] at HF
      unfold ctA at HF
      clear h hd hg
      go_enter Try.func52, Try.ntmps52
      go_wp2_with (first
        | (go_at_call 95; go_must (refine HF.out.mono ?_); rintro e w1 ⟨A1, c1, rfl, hr1, t1⟩
           have ta := (Touch.refl (fun _ => False) w1).alloc (.cells #[.slice A1 x.al.length c1, .int .i64 x.kp] 149)
           have HT1 := Lib.hid (t1.trans ta (fun _ _ e => e))
           have HR1 := Lib.hid (hr1.touch ta (fun _ _ e => e))
           clear hr1 t1 ta)
        | (go_at_call 91; go_must (refine (clone_any F A1 x.al.length c1 x.al _ (by exact HR1.out.1) (by omega)).mono ?_); rintro e w2 ⟨A2, c2, rfl, k1, k2, hr2, t2⟩
           rw [List.length_map] at k1 hr2 ⊢
           have HR2 := Lib.hid (And.intro k1 (And.intro k2 hr2))
           have HT2 := Lib.hid (HT1.out.trans t2 (fun _ _ e => e))
           have HT12 := Lib.hid HT1.out.size
           clear k1 k2 hr2 t2))
      refine bodyPost_ret (v := .tuple #[.slice A2 x.al.length c2, .int .i64 0]) (by simp [results, Try.results52, go_sem]) rfl ?_
      rw [HV.out]
      exact ⟨A2, c2, rfl, ⟨HR2.out.2.2.mono (fun q hq => Nat.le_trans HT12.out hq), HR2.out.1, HR2.out.2.1⟩, HT2.out⟩
  · have HV := Lib.hid (show D.read nm = ([], 50) by rw [Dk.read, if_pos hd])
    rw [show fileE D nm = 50 by rw [fileE, hd]; rfl, show fileV D nm = fiZ by rw [fileV, hd]; rfl] at HF
    unfold ctA at HF
    clear h hd
    go_enter Try.func52, Try.ntmps52
    go_wp2_with (go_at_call 95; go_must (refine HF.out.mono ?_); rintro e w1 ⟨A1, c1, rfl, hr1, t1⟩; have HT1 := Lib.hid (t1.alloc (.cells #[.slice A1 fiZ.al.length c1, .int .i64 fiZ.kp] 149)); clear hr1 t1)
    refine bodyPost_ret (v := .tuple #[.slice none 0 0, .int .i64 50]) (by simp [results, Try.results52, go_sem]) rfl ?_
    rw [HV.out]
    exact ⟨none, 0, rfl, BtR.nil _ _, HT1.out⟩
end Go.Proofs.Ytpgakkpmpnebnaa
