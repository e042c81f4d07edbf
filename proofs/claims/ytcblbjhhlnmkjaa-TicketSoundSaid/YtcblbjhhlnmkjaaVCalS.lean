/- Package week: Until, Between. -/
import Derived.Test.YtcblbjhhlnmkjaaVCalR
import Derived.Test.YtcblbjhhlnmkjaaCalD
namespace Go.Proofs.Ytcblbjhhlnmkjaa
open Go.RowKit Cal
set_option maxHeartbeats 4000000
set_option maxRecDepth 100000
set_option linter.unusedVariables false
attribute [local irreducible] wpPlan

theorem PnAt.drew {w : World} {g : Nat} {wk : List Sp} {b : Nat} {G : Nat → Prop} (h : PnAt w g wk b G) : PnAt w.drew g wk b G := h.touch ((Touch.refl (fun _ => False) w).drew) (fun e => e) (fun _ _ e => e)
theorem PnAt.more2 {w w1 w2 : World} {g : Nat} {wk : List Sp} {b : Nat} {G : Nat → Prop} (h : PnAt w2 g wk b (More (More G w w1) w1 w2)) (h1 : w.heap.size ≤ w1.heap.size) (h2 : w1.heap.size ≤ w2.heap.size) (hb : ¬ G b) (hbl : b < w.heap.size) : PnAt w2 g wk b (More G w w2) :=
  h.grow (more_trans h1 h2) (fun e => by rcases e with e | e; exact hb e; omega)
theorem until_any (g : Nat) (wk : List Sp) (b : Nat) (G : Nat → Prop) (x : Int) (w : World) (h : PnAt w g wk b G) (h0 : 0 ≤ x) (h1 : x ≤ 2251799813685248) :
    Calls Try.prog 133 #[.pointer (some ⟨g, 0, none⟩), .int .i64 x] w (PnInt g wk b G (U wk x) w) := by
  obtain ⟨A, k, hp⟩ := h.pl
  have HN := Lib.hid (wnone_any g wk A k b G w hp)
  have HA := Lib.hid (at_any g wk A k b G (x % 604800) w hp h.wk)
  have hgl := hp.blk.lt
  have hgb : g ≠ b := fun e => h.nb (e ▸ h.gG)
  have hbl := h.lz.lt
  have HGb := Lib.hid h.nb
  have HT := Lib.hid (fun w1 G (hh : PnAt w1 g wk b G) => total_any g wk b G w1 hh)
  have HG := Lib.hid (fun w1 G (hh : PnAt w1 g wk b G) => get_any g wk b G w1 hh)
  have HH := Lib.hid h
  have HS := Lib.hid (sums_bd h.wk)
  have HW := Lib.hid (fun i hi => AtP.within wk 0 (x % 604800) i h.wk.1 (by omega) hi)
  have HV := Lib.hid (show U wk x = x / 604800 * len wk + within wk 0 (x % 604800) from rfl)
  have HGe := Lib.hid (fun (i : Nat) (s : Sp) (h1 : wk[i]? = some s) => Row.getE h.wk.1 h1)
  have hwl := h.wk.2.1
  obtain ⟨u0, u1, -, -⟩ := U_parts h.wk h0
  have hlb := h.wk.len_bd
  generalize U wk x = v at *
  generalize len wk = y at *
  generalize hq : x / 604800 * y = q at *
  have HQ := Lib.hid hq
  clear h hp hq
  have hx604 : 0 ≤ x % 604800 ∧ x % 604800 < 604800 := by omega
  have hxq : 0 ≤ x / 604800 := by omega
  have hmx : max x 0 = x := Int.max_eq_left h0
  have hmn : min x 2251799813685248 = x := Int.min_eq_left h1
  go_enter Try.func133, Try.ntmps133
  go_wp2_with (first
    | (go_at_call 140; go_must (refine HN.out.mono ?_); rintro e w0 ⟨rfl, rfl⟩)
    | (go_at_call 145; go_must (refine HA.out.mono ?_); rintro e w1 ⟨i, hi, rfl, t1⟩; have HWi := Lib.hid (HW.out i hi); have hil := hi.1; have HT1 := Lib.hid t1; clear hi t1))
  clear HA HN HW
  have HP1 := Lib.hid (HH.out.more HT1.out (fun e => e) (fun _ _ e => e))
  have hs1 := HT1.out.size
  obtain ⟨A1, k1, hp1⟩ := HP1.out.pl
  have q1 := hp1.blk.cell 1
  simp at q1
  have hgl1 := hp1.blk.lt
  clear hp1
  have hsb := HS.out i
  have hwm : IntKind.i64.wrap (x / 604800 * y) = q := by rw [HQ.out]; exact IntWalk.i64_in _ (by omega)
  have hwa : IntKind.i64.wrap (q + longS (wk.take i)) = q + longS (wk.take i) := IntWalk.i64_in _ (by omega)
  refine wp_region_plan [(0, 1), (1, 0), (1, 4), (1, 5), (1, 6), (1, 7), (1, 9), (2, 2), (1, 3), (2, 8), (0, 10), (0, 11), (0, 12), (0, 13)] (fun q => q = b) (by kernel_rfl) (by kernel_rfl) (fun c a d v w h => by cases d <;> exact h) ?_
  iterate 1
    refine plan_s1 rfl (by rfl) (fun Kc hKc => ?_)
    go_simp
    first
      | (refine hKc _ ?_)
    clear hKc Kc
  iterate 6
    first
      | (apply plan_h
         · rfl
         · rfl
         · intro wh hT
           have hf0 := (hT.cell (p := ⟨g, 1, none⟩) hgl1 hgb).trans q1
           go_simp
           try rfl
         go_frame)
      | (refine plan_hn rfl (by rfl) ?_; go_frame)
  refine plan_a1 rfl (by rfl) (fun Kc hKc => ?_)
  go_simp
  refine (HT.out _ _ (by exact HP1.out.drew)).mono ?_
  rintro e w2 ⟨rfl, p2, t2⟩
  refine hKc _ _ ⟨t2, ?_⟩
  clear hKc Kc
  have HP2 := Lib.hid p2
  have HT2 := Lib.hid t2
  clear p2 t2
  iterate 1
    first
      | (apply plan_h
         · rfl
         · rfl
         · intro wh hT
           go_simp
           try rfl
         go_frame)
      | (refine plan_hn rfl (by rfl) ?_; go_frame)
  refine plan_a1 rfl (by rfl) (fun Kc hKc => ?_)
  go_simp
  refine (HG.out _ _ (by exact HP2.out)).mono ?_
  rintro e w3 ⟨A3, c3, rfl, r3, p3, t3⟩
  refine hKc _ _ ⟨t3, ?_⟩
  clear hKc Kc
  obtain ⟨g3, o3, rfl, -, hx3⟩ := r3.sum hil
  have HP3 := Lib.hid p3
  have HT3 := Lib.hid t3
  clear r3 p3 t3
  have hlt : (i : Int) < (wk.length : Int) + 1 := by omega
  have hl0 : (0 : Int) ≤ (i : Int) := by omega
  iterate 4
    refine plan_s1 rfl (by rfl) (fun Kc hKc => ?_)
    go_simp
    first
      | (refine hKc _ ?_)
    clear hKc Kc
  refine plan_done ?_
  clear hlt hwm hwa
  have s2 := HT2.out.size
  have s3 := HT3.out.size
  have s1' : w1.heap.size ≤ w2.heap.size := s2
  have HPe := Lib.hid ((HP3.out.more2 (w := w1) s1' s3 HP1.out.nb HP1.out.lz.lt).more2 hs1 (Nat.le_trans s1' s3) HGb.out hbl)
  have HTe := Lib.hid (((HT1.out.mono (S' := fun q => q = b) (fun _ _ e => e.elim)).drew.trans HT2.out (fun _ _ e => e)).trans HT3.out (fun _ _ e => e))
  obtain ⟨A4, k4, hp4⟩ := HPe.out.pl
  have r0 := hp4.blk.cell 0
  simp at r0
  have hrow := hp4.row
  clear hp4
  rcases hrow.at_or i with ⟨g4, o4, f, t, rfl, ha, hl, hc0, hc1⟩ | ⟨hl, ha⟩
  · have hv := HWi.out
    have hge := HGe.out i _ ha
    rw [ha] at hv
    simp only at hv hge
    have HVv := Lib.hid (show v = q + longS (wk.take i) + max (x % 604800 - f) 0 by rw [HV.out, hv]; omega)
    clear ha hv hrow
    generalize longS (wk.take i) = z at *
    by_cases hf : f ≤ x % 604800
    · have hm : max (x % 604800 - f) 0 = x % 604800 - f := Int.max_eq_left (by omega)
      go_wp2
      go_ret
      exact ⟨ret_int (by rw [HVv.out, hm]), HPe.out, HTe.out⟩
    · have hm : max (x % 604800 - f) 0 = 0 := Int.max_eq_right (by omega)
      go_wp2
      go_ret
      exact ⟨ret_int (by rw [HVv.out, hm]; simp), HPe.out, HTe.out⟩
  · have hv := HWi.out
    rw [ha] at hv
    have HVv := Lib.hid (show v = q + longS (wk.take i) by rw [HV.out, hv]; simp)
    clear ha hv hrow
    generalize longS (wk.take i) = z at *
    go_wp2
    go_ret
    exact ⟨ret_int HVv.out.symm, HPe.out, HTe.out⟩
theorem between_any (g : Nat) (wk : List Sp) (b : Nat) (G : Nat → Prop) (x y : Int) (w : World) (h : PnAt w g wk b G) (h0 : 0 ≤ x) (h1 : x ≤ 2251799813685248) (h2 : 0 ≤ y) (h3 : y ≤ 2251799813685248) :
    Calls Try.prog 135 #[.pointer (some ⟨g, 0, none⟩), .int .i64 x, .int .i64 y] w (PnInt g wk b G (max (U wk y - U wk x) 0) w) := by
  have HY := Lib.hid (until_any g wk b G y w h h2 h3)
  have HX := Lib.hid (fun w1 G (hh : PnAt w1 g wk b G) => until_any g wk b G x w1 hh h0 h1)
  have hbl := h.lz.lt
  have HGb := Lib.hid h.nb
  have hx := U_bd h.wk h0
  have hy := U_bd h.wk h2
  generalize U wk x = p at *
  generalize U wk y = q at *
  have hmf : ∀ (fn : Fn) (first cap : Array Value) (w : World), (Instr.makeFunc fn first cap).run Try.prog w = .ok (.func fn first cap) w := fun _ _ _ _ => rfl
  clear h
  go_enter Try.func135, Try.ntmps135
  go_wp2_with (first
    | (go_at_call 133; have M9 := HP1; go_must (refine (HX.out _ _ (by exact HP1.out)).mono ?_); rintro e w2 ⟨rfl, p2, t2⟩; have HP2 := Lib.hid p2; have HT2 := Lib.hid t2; clear p2 t2)
    | (go_at_call 133; go_must (refine HY.out.mono ?_); rintro e w1 ⟨rfl, p1, t1⟩; have HP1 := Lib.hid p1; have HT1 := Lib.hid t1; clear p1 t1))
  go_ret
  exact ⟨rfl, HP2.out.more2 HT1.out.size HT2.out.size HGb.out hbl, HT1.out.trans HT2.out (fun _ _ e => e)⟩
end Go.Proofs.Ytcblbjhhlnmkjaa
