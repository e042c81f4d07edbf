/- calendar.Elapsed, Rest. -/
import Derived.Test.YtcblbjhhlnmkjaaVCalY
namespace Go.Proofs.Ytcblbjhhlnmkjaa
open Go.RowKit Cal
set_option maxHeartbeats 4000000
set_option maxRecDepth 100000
set_option linter.unusedVariables false
attribute [local irreducible] wpPlan

theorem CkAt.drew {w : World} {k a p b : Nat} {c : Ca} {G : Nat → Prop} (h : CkAt w k a p b c G) : CkAt w.drew k a p b c G := h.none ((Touch.refl _ _).drew)
def Ck2 (k a p b : Nat) (c : Ca) (G : Nat → Prop) (r : Int × Int) (w : World) (e : Ending) (w' : World) : Prop := CkV k a p b c G (.tuple #[.int .i64 r.1, .int .i64 r.2]) w e w'
theorem Ck2.same {k a p b : Nat} {c : Ca} {G : Nat → Prop} {R r : Int × Int} {x y : Int} {w : World} (h : CkAt w k a p b c G) (h1 : Hid (R = r)) (h2 : x = r.1) (h3 : y = r.2) : Ck2 k a p b c G R w (.returned (.tuple #[.int .i64 x, .int .i64 y])) w := by
  rw [h1.out, Ck2, h2, h3]
  exact ⟨rfl, h.more (Touch.refl (fun _ => False) _) (fun e => e) (fun _ _ e => e), Touch.refl _ _⟩
theorem Ck2.of {k a p b : Nat} {c : Ca} {G : Nat → Prop} {R r : Int × Int} {x y : Int} {w w' : World} (h1 : Hid (R = r)) (h2 : x = r.1) (h3 : y = r.2) (h : CkAt w' k a p b c (More G w w')) (ht : Touch (fun q => q = b) w w') : Ck2 k a p b c G R w (.returned (.tuple #[.int .i64 x, .int .i64 y])) w' := by
  rw [h1.out, Ck2, h2, h3]
  exact ⟨rfl, h, ht⟩
theorem elapsed_any (k a p b : Nat) (c : Ca) (G : Nat → Prop) (x y : Int) (w : World) (h : CkAt w k a p b c G) :
    Calls Try.prog 118 #[.pointer (some ⟨k, 0, none⟩), .int .i64 x, .int .i64 y] w (Ck2 k a p b c G (c.el x y) w) := by
  have HN := Lib.hid (cnone_any k a p b c G w h)
  have HH := Lib.hid h
  cases ia : instB x
  · have HV := Lib.hid (el_bad1 c (b := y) ia)
    go_enter Try.func118, Try.ntmps118
    go_wp2_with (first
      | (go_at_call 117; go_must (refine HN.out.mono ?_); rintro e w0 ⟨rfl, rfl⟩)
      | (go_at_call 125; go_must (refine (cinstant_any _ _).mono ?_); rintro e w1 ⟨rfl, rfl⟩))
    go_ret2
    exact Ck2.same HH.out HV rfl rfl
  cases ib : instB y
  · have HV := Lib.hid (el_bad2 c (a := x) ib)
    go_enter Try.func118, Try.ntmps118
    go_wp2_with (first
      | (go_at_call 117; go_must (refine HN.out.mono ?_); rintro e w0 ⟨rfl, rfl⟩)
      | (go_at_call 125; go_must (refine (cinstant_any _ _).mono ?_); rintro e w1 ⟨rfl, rfl⟩))
    go_ret2
    exact Ck2.same HH.out HV rfl rfl
  by_cases hab : y < x
  · have HV := Lib.hid (el_bad3 c hab)
    go_enter Try.func118, Try.ntmps118
    go_wp2_with (first
      | (go_at_call 117; go_must (refine HN.out.mono ?_); rintro e w0 ⟨rfl, rfl⟩)
      | (go_at_call 125; go_must (refine (cinstant_any _ _).mono ?_); rintro e w1 ⟨rfl, rfl⟩))
    go_ret2
    exact Ck2.same HH.out HV rfl rfl
  · have HV := Lib.hid (el_ok c ia ib hab)
    obtain ⟨x0, x1⟩ := instB_true ia
    obtain ⟨y0, y1⟩ := instB_true ib
    have HW := Lib.hid (fun w1 G (hh : CkAt w1 k a p b c G) => cweekly_any k a p b c G x y w1 hh x0 x1 y0 y1)
    have HL := Lib.hid (fun w1 G (hh : CkAt w1 k a p b c G) => lost_any k a p b c G x y w1 hh)
    have hcnt := h.ok.count x0 (by omega : x ≤ y)
    have hwb := h.ok.weekly_bd x0 (by omega : x ≤ y)
    have hcb := cnt_pos (p := c.op) (a := x) (b := y) (by omega)
    have q0 := h.blk.cell 0
    simp at q0
    have hkl := h.blk.lt
    have hkb : k ≠ b := h.gb _ h.gk
    have hmf : ∀ (fn : Fn) (first cap : Array Value) (w : World), (Instr.makeFunc fn first cap).run Try.prog w = .ok (.func fn first cap) w := fun _ _ _ _ => rfl
    have hbl := h.bl
    have HGb := Lib.hid h.nb
    generalize c.weekly x y = u at *
    generalize c.lost (cutL c.cl x y) = z at *
    have hw1 : IntKind.i64.wrap (u - z) = cnt c.op x y := by rw [IntWalk.i64_in _ (by omega)]; exact hcnt
    generalize cnt c.op x y = v at *
    clear h hcnt
    go_enter Try.func118, Try.ntmps118
    go_wp2_with (first
      | (go_at_call 117; go_must (refine HN.out.mono ?_); rintro e w0 ⟨rfl, rfl⟩)
      | (go_at_call 125; go_must (refine (cinstant_any _ _).mono ?_); rintro e w1 ⟨rfl, rfl⟩))
    refine wp_region_plan [(0, 0), (0, 1), (0, 2), (1, 4), (1, 5), (1, 6), (1, 7), (1, 8), (1, 9), (1, 10), (1, 11), (2, 3), (2, 12), (0, 13), (0, 14), (0, 15)] (fun q => q = b) (by kernel_rfl) (by kernel_rfl) (fun c a d v w h => by cases d <;> exact h) ?_
    iterate 3
      refine plan_s1 rfl (by rfl) (fun Kc hKc => ?_)
      go_simp
      first
        | (refine hKc _ ?_)
      clear hKc Kc
    iterate 8
      apply plan_h
      · rfl
      · rfl
      · intro wh hT
        have hf0 := (hT.cell (p := ⟨k, 0, none⟩) hkl hkb).trans q0
        go_simp
        try rfl
      go_frame
    refine plan_a1 rfl (by rfl) (fun Kc hKc => ?_)
    go_simp
    refine (HW.out _ _ (by exact HH.out.drew)).mono ?_
    rintro e w1 ⟨rfl, p1, t1⟩
    refine hKc _ _ ⟨t1, ?_⟩
    clear hKc Kc
    have HP1 := Lib.hid p1
    have HT1 := Lib.hid t1
    clear p1 t1
    refine plan_a1 rfl (by rfl) (fun Kc hKc => ?_)
    go_simp
    refine (HL.out _ _ (by exact HP1.out)).mono ?_
    rintro e w2 ⟨rfl, p2, t2⟩
    refine hKc _ _ ⟨t2, ?_⟩
    clear hKc Kc
    have HP2 := Lib.hid p2
    have HT2 := Lib.hid t2
    clear p2 t2
    iterate 3
      refine plan_s1 rfl (by rfl) (fun Kc hKc => ?_)
      go_simp
      first
        | (refine hKc _ ?_)
      clear hKc Kc
    refine plan_done ?_
    clear hw1
    go_wp2
    go_ret2
    have s1 : w.heap.size ≤ w1.heap.size := HT1.out.size
    exact Ck2.of HV rfl rfl (HP2.out.more2 (w := w) s1 HT2.out.size HGb.out hbl) ((Touch.refl (fun q => q = b) w).drew.trans (HT1.out.trans HT2.out (fun _ _ e => e)) (fun _ _ e => e))
theorem crest_any (k a p b : Nat) (c : Ca) (G : Nat → Prop) (x y z : Int) (w : World) (h : CkAt w k a p b c G) (hy : y ≤ 9223372036854775807) :
    Calls Try.prog 90 #[.pointer (some ⟨k, 0, none⟩), .int .i64 x, .int .i64 y, .int .i64 z] w (Ck2 k a p b c G (c.rest x y z) w) := by
  have HN := Lib.hid (cnone_any k a p b c G w h)
  have HE := Lib.hid (elapsed_any k a p b c G x z w h)
  have HH := Lib.hid h
  have hbd := el_bd c x z
  by_cases h1 : y < 0
  · have HV := Lib.hid (rest_neg c (a := x) (x := z) h1)
    go_enter Try.func90, Try.ntmps90
    go_wp2_with (go_at_call 117; go_must (refine HN.out.mono ?_); rintro e w0 ⟨rfl, rfl⟩)
    go_ret2
    exact Ck2.same HH.out HV rfl rfl
  · have HV1 := Lib.hid (fun h' => rest_bad c (a := x) (x := z) h1 h')
    have HV2 := Lib.hid (fun h' => rest_ok c (a := x) (x := z) h1 h')
    have he := el_err c x z
    generalize c.el x z = r at *
    obtain ⟨v, e⟩ := r
    clear h
    simp only at *
    rcases he with rfl | rfl
    · have HV := Lib.hid (HV2.out rfl)
      clear HV1 HV2
      obtain ⟨m, hm⟩ : ∃ m, max (y - v) 0 = m := ⟨_, rfl⟩
      rw [hm] at HV
      go_enter Try.func90, Try.ntmps90
      go_wp2_with (first
        | (go_at_call 117; go_must (refine HN.out.mono ?_); rintro e w0 ⟨rfl, rfl⟩)
        | (go_at_call 118; go_must (refine HE.out.mono ?_); rintro e w1 ⟨rfl, p1, t1⟩; have HP1 := Lib.hid p1; have HT1 := Lib.hid t1; clear p1 t1))
      go_ret2
      exact Ck2.of HV rfl rfl HP1.out HT1.out
    · have HV := Lib.hid (HV1.out (by omega))
      clear HV1 HV2
      go_enter Try.func90, Try.ntmps90
      go_wp2_with (first
        | (go_at_call 117; go_must (refine HN.out.mono ?_); rintro e w0 ⟨rfl, rfl⟩)
        | (go_at_call 118; go_must (refine HE.out.mono ?_); rintro e w1 ⟨rfl, p1, t1⟩; have HP1 := Lib.hid p1; have HT1 := Lib.hid t1; clear p1 t1))
      go_ret2
      exact Ck2.of HV rfl rfl HP1.out HT1.out
end Go.Proofs.Ytcblbjhhlnmkjaa
