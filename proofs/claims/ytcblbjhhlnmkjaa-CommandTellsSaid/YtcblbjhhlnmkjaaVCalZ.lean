/- almanac.Lost at a clock's weekly; calendar.Elapsed, Rest. calendar.Elapsed, Rest. -/
import Derived.Test.YtcblbjhhlnmkjaaVCalW
import Derived.Test.YtcblbjhhlnmkjaaCalF
section
namespace Go.Proofs.Ytcblbjhhlnmkjaa
open Go.RowKit Cal
set_option maxHeartbeats 4000000
set_option maxRecDepth 100000
set_option linter.unusedVariables false
attribute [local irreducible] wpPlan

theorem lost_any (k a p b : Nat) (c : Ca) (G : Nat → Prop) (x y : Int) (w : World) (h : CkAt w k a p b c G) :
    Calls Try.prog 127 #[.pointer (some ⟨a, 0, none⟩), .int .i64 x, .int .i64 y, .func (.func 126) #[.pointer (some ⟨k, 0, none⟩)] #[]] w (CkV k a p b c G (.int .i64 (c.lost (cutL c.cl x y))) w) := by
  obtain ⟨B, m, hal⟩ := h.al
  have HA := Lib.hid (all_any a c.cl B m G w hal)
  have HCut := Lib.hid (cut_any G B m c.cl x y w hal.row h.ok.rowc)
  have HW := Lib.hid (fun (s : Sp) (hs : 0 ≤ s.f ∧ s.f < s.t ∧ s.t ≤ 1125899906842624) w1 G (hh : CkAt w1 k a p b c G) => cweekly_any k a p b c G s.f s.t w1 hh hs.1 (by omega) (by omega) hs.2.2)
  have hLl : (cutL c.cl x y).length ≤ 32 := Nat.le_trans (cutL_len _ _ _) h.ok.cn
  have HBd := Lib.hid (cutL_bd c.cl x y (row_bd h.ok.rowc))
  have HPre := Lib.hid (fun j => lost_pre h.ok (cutL c.cl x y) (cutL_bd c.cl x y (row_bd h.ok.rowc)) j (by omega))
  have HTk := Lib.hid (lost_take c (cutL c.cl x y))
  have HWb := Lib.hid (fun (s : Sp) (hs : 0 ≤ s.f ∧ s.f < s.t ∧ s.t ≤ 1125899906842624) => h.ok.weekly_bd (a := s.f) (b := s.t) hs.1 (by omega))
  have hfn : ∀ (fn : Fn) (first cap : Array Value) (w : World), (binOp .eql 211 (.func fn first cap) .nilFunc).run Try.prog w = .ok (.bool false) w := fun _ _ _ _ => rfl
  have hbl := h.bl
  have HGb := Lib.hid h.nb
  have HH := Lib.hid h
  generalize cutL c.cl x y = L at *
  clear h hal
  go_enter Try.func127, Try.ntmps127
  go_wp2_with (first
    | (go_at_call 137; go_must (refine HA.out.mono ?_); rintro e w0 ⟨rfl, rfl⟩)
    | (go_at_call 136; go_must (refine HCut.out.mono ?_); rintro e w1 ⟨A0, c0, rfl, -, -, -, hs, t1⟩; have HS := Lib.hid hs; have HT1 := Lib.hid t1; clear t1 hs))
  clear HA HCut
  have HH1 := Lib.hid (HH.out.more HT1.out (fun e => e) (fun _ _ e => e))
  have hs1 := HT1.out.size
  go_loopw [8, 19] (fun n i wr => ∃ j : Nat, j ≤ L.length ∧ i = .int .i64 j ∧ n = .int .i64 (c.lost (L.take j)) ∧ CkAt wr k a p b c (More G w wr) ∧ Touch (fun q => q = b) w1 wr) (fun _ i _ => L.length - (intOf i).toNat)
  case atStart => exact ⟨0, by omega, rfl, rfl, HH1.out, Touch.refl _ _⟩
  case round =>
    obtain ⟨j, hj, rfl, rfl, hC, hT⟩ := hrel
    have HC := Lib.hid hC
    have HT := Lib.hid hT
    clear hC hT
    have hp := HPre.out j
    by_cases hjk : j < L.length
    · have hs : L[j]? = some (L[j]'hjk) := List.getElem?_eq_getElem _
      have hbs := HBd.out _ (List.getElem_mem hjk)
      obtain ⟨g, o, rfl, hg, -, hc0, hc1⟩ := (HS.out.touch HT.out (fun q hq e => by omega)).at_ hs
      have HN := Lib.hid (HTk.out j _ hs)
      have hwk := HWb.out _ hbs
      have HWs := Lib.hid (HW.out _ hbs)
      generalize c.lost (L.take j) = n at *
      generalize L[j]'hjk = s at *
      obtain ⟨f, t⟩ := s
      simp only at hc0 hc1 hbs HWs hwk HN
      generalize c.weekly f t = u at *
      clear hs
      have HTb := Lib.hid ((Touch.refl (fun _ => False) wr).alloc (.cells #[.int .i64 f, .int .i64 t] 165))
      go_wp2_with (go_at_call 126; go_must (refine (HWs.out _ _ (by exact HC.out.more HTb.out (fun e => e) (fun _ _ e => e))).mono ?_); rintro e w2 ⟨rfl, h2, t2⟩; have HQ := Lib.hid (And.intro h2 t2); clear h2 t2)
      go_roundw
      case rel =>
        obtain ⟨h2, t2⟩ := HQ.out
        have ht := HT.out.size
        have sb := HTb.out.size
        have s2 := t2.size
        have hCb := HC.out.nb
        have hCl := HC.out.bl
        refine ⟨j + 1, by omega, by go_num, by rw [HN.out], ?_, (HT.out.trans (S' := fun q => q = b) (HTb.out.mono (fun _ _ e => e.elim)) (fun _ _ e => e)).trans t2 (fun _ _ e => e)⟩
        exact (h2.more2 sb s2 hCb hCl).more2 (by omega) (by omega) HGb.out hbl
      case measure => simp [intOf]; omega
    · obtain rfl : j = L.length := by omega
      rw [List.take_length] at *
      go_wp2
      go_ret
      exact ⟨rfl, HC.out, (HT1.out.mono (fun _ _ e => e.elim)).trans HT.out (fun _ _ e => e)⟩
end Go.Proofs.Ytcblbjhhlnmkjaa
end

section
namespace Go.Proofs.Ytcblbjhhlnmkjaa
open Go.RowKit Cal
set_option maxHeartbeats 4000000
set_option maxRecDepth 100000
set_option linter.unusedVariables false
attribute [local irreducible] wpPlan

theorem CkAt.drew {w : World} {k a p b : Nat} {c : Ca} {G : Nat → Prop} (h : CkAt w k a p b c G) : CkAt w.drew k a p b c G := h.none ((Touch.refl _ _).drew)
def Ck2 (k a p b : Nat) (c : Ca) (G : Nat → Prop) (r : Int × Int) (w : World) (e : Ending) (w' : World) : Prop := CkV k a p b c G (.tuple #[.int .i64 r.1, .int .i64 r.2]) w e w'
theorem Ck2.same {k a p b : Nat} {c : Ca} {G : Nat → Prop} {R r : Int × Int} {x y : Int} {w : World} (h : CkAt w k a p b c G) (h1 : Hid (R = r)) (h2 : x = r.1) (h3 : y = r.2) : Ck2 k a p b c G R w (.returned (.tuple #[.int .i64 x, .int .i64 y])) w := by
  rw [h1.out, Ck2, h2, h3]
  exact ⟨rfl, h.more (Touch.refl (fun _ => False) _) (fun e => e) (fun _ _ e => e), Touch.refl _ _⟩
theorem Ck2.of {k a p b : Nat} {c : Ca} {G : Nat → Prop} {R r : Int × Int} {x y : Int} {w w' : World} (h1 : Hid (R = r)) (h2 : x = r.1) (h3 : y = r.2) (h : CkAt w' k a p b c (More G w w')) (ht : Touch (fun q => q = b) w w') : Ck2 k a p b c G R w (.returned (.tuple #[.int .i64 x, .int .i64 y])) w' := by
  rw [h1.out, Ck2, h2, h3]
  exact ⟨rfl, h, ht⟩
theorem elapsed_any (k a p b : Nat) (c : Ca) (G : Nat → Prop) (x y : Int) (w : World) (h : CkAt w k a p b c G) :
    Calls Try.prog 118 #[.pointer (some ⟨k, 0, none⟩), .int .i64 x, .int .i64 y] w (Ck2 k a p b c G (c.el x y) w) := by
  have HN := Lib.hid (cnone_any k a p b c G w h)
  have HH := Lib.hid h
  cases ia : instB x
  · have HV := Lib.hid (el_bad1 c (b := y) ia)
    go_enter Try.func118, Try.ntmps118
    go_wp2_with (first
      | (go_at_call 117; go_must (refine HN.out.mono ?_); rintro e w0 ⟨rfl, rfl⟩)
      | (go_at_call 125; go_must (refine (cinstant_any _ _).mono ?_); rintro e w1 ⟨rfl, rfl⟩))
    go_ret2
    exact Ck2.same HH.out HV rfl rfl
  cases ib : instB y
  · have HV := Lib.hid (el_bad2 c (a := x) ib)
    go_enter Try.func118, Try.ntmps118
    go_wp2_with (first
      | (go_at_call 117; go_must (refine HN.out.mono ?_); rintro e w0 ⟨rfl, rfl⟩)
      | (go_at_call 125; go_must (refine (cinstant_any _ _).mono ?_); rintro e w1 ⟨rfl, rfl⟩))
    go_ret2
    exact Ck2.same HH.out HV rfl rfl
  by_cases hab : y < x
  · have HV := Lib.hid (el_bad3 c hab)
    go_enter Try.func118, Try.ntmps118
    go_wp2_with (first
      | (go_at_call 117; go_must (refine HN.out.mono ?_); rintro e w0 ⟨rfl, rfl⟩)
      | (go_at_call 125; go_must (refine (cinstant_any _ _).mono ?_); rintro e w1 ⟨rfl, rfl⟩))
    go_ret2
    exact Ck2.same HH.out HV rfl rfl
  · have HV := Lib.hid (el_ok c ia ib hab)
    obtain ⟨x0, x1⟩ := instB_true ia
    obtain ⟨y0, y1⟩ := instB_true ib
    have HW := Lib.hid (fun w1 G (hh : CkAt w1 k a p b c G) => cweekly_any k a p b c G x y w1 hh x0 x1 y0 y1)
    have HL := Lib.hid (fun w1 G (hh : CkAt w1 k a p b c G) => lost_any k a p b c G x y w1 hh)
    have hcnt := h.ok.count x0 (by omega : x ≤ y)
    have hwb := h.ok.weekly_bd x0 (by omega : x ≤ y)
    have hcb := cnt_pos (p := c.op) (a := x) (b := y) (by omega)
    have q0 := h.blk.cell 0
    simp at q0
    have hkl := h.blk.lt
    have hkb : k ≠ b := h.gb _ h.gk
    have hmf : ∀ (fn : Fn) (first cap : Array Value) (w : World), (Instr.makeFunc fn first cap).run Try.prog w = .ok (.func fn first cap) w := fun _ _ _ _ => rfl
    have hbl := h.bl
    have HGb := Lib.hid h.nb
    generalize c.weekly x y = u at *
    generalize c.lost (cutL c.cl x y) = z at *
    have hw1 : IntKind.i64.wrap (u - z) = cnt c.op x y := by rw [IntWalk.i64_in _ (by omega)]; exact hcnt
    generalize cnt c.op x y = v at *
    clear h hcnt
    go_enter Try.func118, Try.ntmps118
    go_wp2_with (first
      | (go_at_call 117; go_must (refine HN.out.mono ?_); rintro e w0 ⟨rfl, rfl⟩)
      | (go_at_call 125; go_must (refine (cinstant_any _ _).mono ?_); rintro e w1 ⟨rfl, rfl⟩))
    refine wp_region_plan [(0, 0), (0, 1), (0, 2), (1, 4), (1, 5), (1, 6), (1, 7), (1, 8), (1, 9), (1, 10), (1, 11), (2, 3), (2, 12), (0, 13), (0, 14), (0, 15)] (fun q => q = b) (by kernel_rfl) (by kernel_rfl) (fun c a d v w h => by cases d <;> exact h) ?_
    iterate 3
      refine plan_s1 rfl (by rfl) (fun Kc hKc => ?_)
      go_simp
      first
        | (refine hKc _ ?_)
      clear hKc Kc
    iterate 8
      apply plan_h
      · rfl
      · rfl
      · intro wh hT
        have hf0 := (hT.cell (p := ⟨k, 0, none⟩) hkl hkb).trans q0
        go_simp
        try rfl
      go_frame
    refine plan_a1 rfl (by rfl) (fun Kc hKc => ?_)
    go_simp
    refine (HW.out _ _ (by exact HH.out.drew)).mono ?_
    rintro e w1 ⟨rfl, p1, t1⟩
    refine hKc _ _ ⟨t1, ?_⟩
    clear hKc Kc
    have HP1 := Lib.hid p1
    have HT1 := Lib.hid t1
    clear p1 t1
    refine plan_a1 rfl (by rfl) (fun Kc hKc => ?_)
    go_simp
    refine (HL.out _ _ (by exact HP1.out)).mono ?_
    rintro e w2 ⟨rfl, p2, t2⟩
    refine hKc _ _ ⟨t2, ?_⟩
    clear hKc Kc
    have HP2 := Lib.hid p2
    have HT2 := Lib.hid t2
    clear p2 t2
    iterate 3
      refine plan_s1 rfl (by rfl) (fun Kc hKc => ?_)
      go_simp
      first
        | (refine hKc _ ?_)
      clear hKc Kc
    refine plan_done ?_
    clear hw1
    go_wp2
    go_ret2
    have s1 : w.heap.size ≤ w1.heap.size := HT1.out.size
    exact Ck2.of HV rfl rfl (HP2.out.more2 (w := w) s1 HT2.out.size HGb.out hbl) ((Touch.refl (fun q => q = b) w).drew.trans (HT1.out.trans HT2.out (fun _ _ e => e)) (fun _ _ e => e))
theorem crest_any (k a p b : Nat) (c : Ca) (G : Nat → Prop) (x y z : Int) (w : World) (h : CkAt w k a p b c G) (hy : y ≤ 9223372036854775807) :
    Calls Try.prog 90 #[.pointer (some ⟨k, 0, none⟩), .int .i64 x, .int .i64 y, .int .i64 z] w (Ck2 k a p b c G (c.rest x y z) w) := by
  have HN := Lib.hid (cnone_any k a p b c G w h)
  have HE := Lib.hid (elapsed_any k a p b c G x z w h)
  have HH := Lib.hid h
  have hbd := el_bd c x z
  by_cases h1 : y < 0
  · have HV := Lib.hid (rest_neg c (a := x) (x := z) h1)
    go_enter Try.func90, Try.ntmps90
    go_wp2_with (go_at_call 117; go_must (refine HN.out.mono ?_); rintro e w0 ⟨rfl, rfl⟩)
    go_ret2
    exact Ck2.same HH.out HV rfl rfl
  · have HV1 := Lib.hid (fun h' => rest_bad c (a := x) (x := z) h1 h')
    have HV2 := Lib.hid (fun h' => rest_ok c (a := x) (x := z) h1 h')
    have he := el_err c x z
    generalize c.el x z = r at *
    obtain ⟨v, e⟩ := r
    clear h
    simp only at *
    rcases he with rfl | rfl
    · have HV := Lib.hid (HV2.out rfl)
      clear HV1 HV2
      obtain ⟨m, hm⟩ : ∃ m, max (y - v) 0 = m := ⟨_, rfl⟩
      rw [hm] at HV
      go_enter Try.func90, Try.ntmps90
      go_wp2_with (first
        | (go_at_call 117; go_must (refine HN.out.mono ?_); rintro e w0 ⟨rfl, rfl⟩)
        | (go_at_call 118; go_must (refine HE.out.mono ?_); rintro e w1 ⟨rfl, p1, t1⟩; have HP1 := Lib.hid p1; have HT1 := Lib.hid t1; clear p1 t1))
      go_ret2
      exact Ck2.of HV rfl rfl HP1.out HT1.out
    · have HV := Lib.hid (HV1.out (by omega))
      clear HV1 HV2
      go_enter Try.func90, Try.ntmps90
      go_wp2_with (first
        | (go_at_call 117; go_must (refine HN.out.mono ?_); rintro e w0 ⟨rfl, rfl⟩)
        | (go_at_call 118; go_must (refine HE.out.mono ?_); rintro e w1 ⟨rfl, p1, t1⟩; have HP1 := Lib.hid p1; have HT1 := Lib.hid t1; clear p1 t1))
      go_ret2
      exact Ck2.of HV rfl rfl HP1.out HT1.out
end Go.Proofs.Ytcblbjhhlnmkjaa
end
