/- Progress: Took, Refused, Heard. -/
import Derived.Test.YtpgakkpmpnebnaaVPrC
import Derived.Test.YtpgakkpmpnebnaaPlan
namespace Go.Proofs.Ytpgakkpmpnebnaa
open Go.RowKit Go.Maps Prg
set_option maxHeartbeats 4000000
set_option maxRecDepth 100000
set_option linter.unusedVariables false
attribute [local irreducible] wpPlan

def tookT (t : Tb) (n : Int) (i : Nat) : Tb := match t n with | none => t | some x => if i ≤ 1152921504606846976 then putT t n (took x i) else t
def tookR (t : Tb) (n : Int) (i : Nat) : Bool := match t n with | none => false | some x => if i ≤ 1152921504606846976 then tookB x i else false
def refusedT (t : Tb) (n : Int) (h : Nat) : Tb := match t n with | none => t | some x => putT t n (refused x h)
def refusedR (t : Tb) (n : Int) (h : Nat) : Bool := match t n with | none => false | some x => refusedB x h
def heardT (t : Tb) (n : Int) (r : Nat) : Tb := match t n with | none => t | some x => putT t n (heard x r)
def OpP (g b : Nat) (B : Bool) (t' : Tb) (F : Nat → Prop) (w : World) (e : Ending) (w' : World) : Prop := e = .returned (.bool B) ∧ PgAt w' g b t' F ∧ Touch F w w'
theorem ptook_any (g b : Nat) (t : Tb) (F : Nat → Prop) (n : Int) (i : Nat) (w : World) (h : PgAt w g b t F) (hn : inI n) (hi : i < 18446744073709551616) :
    Calls Try.prog 25 #[.pointer (some ⟨g, 0, none⟩), .int .i64 n, .int .u64 i] w (OpP g b (tookR t n i) (tookT t n i) F w) := by
  cases ht : t n with
  | none =>
    have HV := Lib.hid (show tookT t n i = t ∧ tookR t n i = false by rw [tookT, tookR, ht]; exact ⟨rfl, rfl⟩)
    have HN := Lib.hid (pline_no g b t F n w h hn ht)
    have HH := Lib.hid h
    clear h
    go_enter Try.func25, Try.ntmps25
    go_wp2_with (go_at_call 60; go_must (refine HN.out.mono ?_); rintro e w1 ⟨rfl, rfl⟩)
    go_ret
    exact ⟨by rw [HV.out.2]; rfl, by rw [HV.out.1]; exact HH.out, Touch.refl _ _⟩
  | some x =>
    obtain ⟨p, h⟩ := h
    have HN := Lib.hid (pline_yes g b t p F n x w h hn ht)
    have HH := Lib.hid h
    have HX := Lib.hid ht
    have HB := Lib.hid (h.ln n x ht)
    obtain ⟨P, hP⟩ : ∃ P, P = p n := ⟨_, rfl⟩
    have hok := (h.ok n x ht).2.2
    by_cases hi2 : i ≤ 1152921504606846976
    · have HV := Lib.hid (show tookT t n i = putT t n (took x i) ∧ tookR t n i = tookB x i by rw [tookT, tookR, ht]; simp only [if_pos hi2, and_self])
      have HO := Lib.hid (took_ok hok hi2)
      obtain ⟨m, q, r, a⟩ := x
      have h1 := hok.m; have h2 := hok.n; have h3 := hok.r
      simp only at h1 h2 h3
      obtain ⟨M, hM⟩ : ∃ M, M = max m i := ⟨_, rfl⟩
      obtain ⟨N, hN⟩ : ∃ N, N = max q (i + 1) := ⟨_, rfl⟩
      have hmx : (if m < i then (i : Int) else (m : Int)) = (M : Int) := by split <;> omega
      have hmy : (if (q : Int) < (i : Int) + 1 then (i : Int) + 1 else (q : Int)) = (N : Int) := by split <;> omega
      rw [show took ⟨m, q, r, a⟩ i = ⟨M, N, r, a⟩ by rw [hM, hN]; rfl] at HV HO
      have hwr : IntKind.u64.wrap ((i : Int) + 1) = (i : Int) + 1 := IntWalk.u64_in _ (by omega)
      have c0 := HB.out.cell 0; have c1 := HB.out.cell 1
      have f0 := HB.out.frozen 0; have f1 := HB.out.frozen 1
      rw [← hP] at HN c0 c1 f0 f1
      simp at c0 c1
      have hi3 : ¬ (1152921504606846976 : Int) < i := by omega
      have HP := Lib.hid hP
      clear h ht hok hi hi2 hP hM hN
      go_enter Try.func25, Try.ntmps25
      go_wp2_with (go_at_call 60; go_must (refine HN.out.mono ?_); rintro e w1 ⟨rfl, rfl⟩)
      refine wp_region_plan [(0, 0), (0, 2), (0, 3), (0, 4), (0, 5), (0, 6), (0, 7), (0, 8), (0, 9), (0, 10), (0, 11), (0, 15), (0, 16), (1, 1), (1, 12), (1, 13), (1, 14), (2, 17), (0, 18), (0, 19), (2, 20)] (fun k => k = P) (by kernel_rfl) (by kernel_rfl) (fun c a d v w h => by cases d <;> exact h) ?_
      iterate 13
        refine plan_s1 rfl (by rfl) (fun Kc hKc => ?_)
        go_simp
        first
          | (refine hKc _ ?_)
        clear hKc Kc
      iterate 4
        apply plan_h
        · rfl
        · rfl
        · intro wh hT
          go_simp
          try rfl
        go_frame
      refine plan_a1 rfl (by rfl) (fun Kc hKc => ?_)
      go_simp
      refine hKc _ _ ⟨(show Touch (fun k => k = P) w.drew ((w.setCell ⟨P, 0, none⟩ (.int .u64 (M : Int))).drew) from (Touch.refl (fun k => k = P) w.drew).set (fun _ => rfl) _), ?_⟩
      clear hKc Kc
      iterate 2
        refine plan_s1 rfl (by rfl) (fun Kc hKc => ?_)
        go_simp
        first
          | (refine hKc _ ?_)
        clear hKc Kc
      refine plan_a1 rfl (by rfl) (fun Kc hKc => ?_)
      go_simp
      refine hKc _ _ ⟨(show Touch (fun k => k = P) ((w.setCell ⟨P, 0, none⟩ (.int .u64 (M : Int))).drew) (((w.setCell ⟨P, 0, none⟩ (.int .u64 (M : Int))).setCell ⟨P, 1, none⟩ (.int .u64 (N : Int))).drew) from (Touch.refl (fun k => k = P) ((w.setCell ⟨P, 0, none⟩ (.int .u64 (M : Int))).drew)).set (fun _ => rfl) _), ?_⟩
      clear hKc Kc
      refine plan_done ?_
      go_wp2_with fail
      go_ret
      have hB := ((HB.out.set_ 0 (.int .u64 (M : Int))).set_ 1 (.int .u64 (N : Int))).drewN 0
      have hT : Touch (fun k => k = p n) w (((w.setCell ⟨p n, 0, none⟩ (.int .u64 (M : Int))).setCell ⟨p n, 1, none⟩ (.int .u64 (N : Int))).drew) := (((Touch.refl (fun k => k = p n) w).set (fun _ => rfl) _).set (fun _ => rfl) _).drew
      have h2 := HH.out.line HX.out HO.out hT hB
      refine ⟨by rw [HV.out.2]; exact ret_bool (by simp [tookB]), ?_, ?_⟩
      · rw [HV.out.1, HP.out]; exact ⟨p, h2⟩
      · rw [HP.out]; exact hT.mono (fun k _ e => e ▸ HH.out.fl n _ HX.out)
    · have HV := Lib.hid (show tookT t n i = t ∧ tookR t n i = false by rw [tookT, tookR, ht]; simp only [if_neg hi2, and_self])
      have hi3 : (1152921504606846976 : Int) < i := by omega
      clear h ht hok hi hi2 hP HB
      go_enter Try.func25, Try.ntmps25
      go_wp2_with (go_at_call 60; go_must (refine HN.out.mono ?_); rintro e w1 ⟨rfl, rfl⟩)
      go_ret
      exact ⟨by rw [HV.out.2]; rfl, by rw [HV.out.1]; exact ⟨p, HH.out⟩, Touch.refl _ _⟩
theorem prefused_any (g b : Nat) (t : Tb) (F : Nat → Prop) (n : Int) (k : Nat) (w : World) (h : PgAt w g b t F) (hn : inI n) (hk : k < 18446744073709551616) :
    Calls Try.prog 26 #[.pointer (some ⟨g, 0, none⟩), .int .i64 n, .int .u64 k] w (OpP g b (refusedR t n k) (refusedT t n k) F w) := by
  cases ht : t n with
  | none =>
    have HV := Lib.hid (show refusedT t n k = t ∧ refusedR t n k = false by rw [refusedT, refusedR, ht]; exact ⟨rfl, rfl⟩)
    have HN := Lib.hid (pline_no g b t F n w h hn ht)
    have HH := Lib.hid h
    clear h
    go_enter Try.func26, Try.ntmps26
    go_wp2_with (go_at_call 60; go_must (refine HN.out.mono ?_); rintro e w1 ⟨rfl, rfl⟩)
    go_ret
    exact ⟨by rw [HV.out.2]; rfl, by rw [HV.out.1]; exact HH.out, Touch.refl _ _⟩
  | some x =>
    obtain ⟨p, h⟩ := h
    have HN := Lib.hid (pline_yes g b t p F n x w h hn ht)
    have HH := Lib.hid h
    have HX := Lib.hid ht
    have HB := Lib.hid (h.ln n x ht)
    obtain ⟨P, hP⟩ : ∃ P, P = p n := ⟨_, rfl⟩
    have hok := (h.ok n x ht).2.2
    have HV := Lib.hid (show refusedT t n k = putT t n (refused x k) ∧ refusedR t n k = refusedB x k by rw [refusedT, refusedR, ht]; exact ⟨rfl, rfl⟩)
    have HO := Lib.hid (refused_ok hok k)
    obtain ⟨m, q, r, a⟩ := x
    have h1 := hok.m; have h2 := hok.n; have h3 := hok.r; have h4 := hok.up
    simp only at h1 h2 h3 h4
    obtain ⟨N, hN⟩ : ∃ N, N = refN ⟨m, q, r, a⟩ k := ⟨_, rfl⟩
    have HE := Lib.hid (show refusedB ⟨m, q, r, a⟩ k = (N != q) by rw [hN, refusedB])
    rw [show refused ⟨m, q, r, a⟩ k = ⟨m, N, r, a⟩ by rw [hN]; rfl] at HV HO
    simp only [refN] at hN
    have c0 := HB.out.cell 0; have c1 := HB.out.cell 1
    have f0 := HB.out.frozen 0; have f1 := HB.out.frozen 1
    rw [← hP] at HN c0 c1 f0 f1
    simp at c0 c1
    have HP := Lib.hid hP
    clear h ht hok hk hP
    have hwr : IntKind.u64.wrap ((m : Int) + 1) = (m : Int) + 1 := IntWalk.u64_in _ (by omega)
    have hfin : ∀ w1 : World, Touch (fun k => k = p n) w w1 → Blk w1 (p n) 43 (lnC ⟨m, N, r, a⟩) → OpP g b (N != q) (putT t n ⟨m, N, r, a⟩) F w (.returned (.bool (N != q))) w1 := fun w1 hT hB =>
      ⟨rfl, ⟨p, HH.out.line HX.out HO.out hT hB⟩, hT.mono (fun k _ e => e ▸ HH.out.fl n _ HX.out)⟩
    have HF := Lib.hid hfin
    rw [← HP.out] at HF
    clear hfin
    rw [HV.out.1, HV.out.2, HE.out]
    have HNe := Lib.hid (show (N != q) = ((N : Int) != (q : Int)) by rw [Bool.eq_iff_iff]; simp; omega)
    by_cases hlt : k < q
    · have hlt' : (k : Int) < q := by omega
      rw [if_pos hlt] at hN
      have hmy : (if k < m then (m : Int) + 1 else (k : Int) + 1) = (N : Int) := by split <;> omega
      clear hlt hN
      go_enter Try.func26, Try.ntmps26
      go_wp2_with (go_at_call 60; go_must (refine HN.out.mono ?_); rintro e w1 ⟨rfl, rfl⟩)
      refine wp_region_plan [(0, 0), (0, 1), (0, 2), (0, 3), (0, 4), (0, 5), (0, 6), (0, 7), (0, 8), (0, 9), (0, 10), (0, 11), (0, 12), (2, 13)] (fun k => k = P) (by kernel_rfl) (by kernel_rfl) (fun c a d v w h => by cases d <;> exact h) ?_
      iterate 13
        refine plan_s1 rfl (by rfl) (fun Kc hKc => ?_)
        go_simp
        first
          | (refine hKc _ ?_)
        clear hKc Kc
      refine plan_a1 rfl (by rfl) (fun Kc hKc => ?_)
      go_simp
      refine hKc _ _ ⟨(show Touch (fun k => k = P) (w.setCell ⟨P, 1, none⟩ (.int .u64 ((k : Int) + 1))).drew (((w.setCell ⟨P, 1, none⟩ (.int .u64 ((k : Int) + 1))).setCell ⟨P, 1, none⟩ (.int .u64 (N : Int))).drew) from (Touch.refl (fun q => q = P) (w.setCell ⟨P, 1, none⟩ (.int .u64 ((k : Int) + 1))).drew).set (fun _ => rfl) _), ?_⟩
      clear hKc Kc
      refine plan_done ?_
      go_wp2_with fail
      go_ret
      have h := HF.out (((w.setCell ⟨P, 1, none⟩ (.int .u64 ((k : Int) + 1))).setCell ⟨P, 1, none⟩ (.int .u64 (N : Int))).drew) ((((Touch.refl (fun q => q = P) w).set (fun _ => rfl) _).set (fun _ => rfl) _).drew) ((((HP.out ▸ HB.out : Blk w P 43 (lnC ⟨m, q, r, a⟩)).set_ 1 (.int .u64 ((k : Int) + 1))).set_ 1 (.int .u64 (N : Int))).drewN 0)
      exact ⟨by rw [HNe.out]; rfl, h.2.1, h.2.2⟩
    · have hlt' : ¬ (k : Int) < q := by omega
      rw [if_neg hlt] at hN
      have hmy : (if (q : Int) < (m : Int) + 1 then (m : Int) + 1 else (q : Int)) = (N : Int) := by split <;> omega
      clear hlt hN
      go_enter Try.func26, Try.ntmps26
      go_wp2_with (go_at_call 60; go_must (refine HN.out.mono ?_); rintro e w1 ⟨rfl, rfl⟩)
      refine wp_region_plan [(0, 0), (0, 1), (0, 2), (0, 3), (0, 4), (0, 5), (0, 6), (0, 7), (0, 8), (0, 9), (0, 10), (0, 11), (0, 12), (2, 13)] (fun k => k = P) (by kernel_rfl) (by kernel_rfl) (fun c a d v w h => by cases d <;> exact h) ?_
      iterate 13
        refine plan_s1 rfl (by rfl) (fun Kc hKc => ?_)
        go_simp
        first
          | (refine hKc _ ?_)
        clear hKc Kc
      refine plan_a1 rfl (by rfl) (fun Kc hKc => ?_)
      go_simp
      refine hKc _ _ ⟨(show Touch (fun k => k = P) w.drew ((w.setCell ⟨P, 1, none⟩ (.int .u64 (N : Int))).drew) from (Touch.refl (fun q => q = P) w.drew).set (fun _ => rfl) _), ?_⟩
      clear hKc Kc
      refine plan_done ?_
      go_wp2_with fail
      go_ret
      have h := HF.out ((w.setCell ⟨P, 1, none⟩ (.int .u64 (N : Int))).drew) ((((Touch.refl (fun q => q = P) w).set (fun _ => rfl) _)).drew) (((HP.out ▸ HB.out : Blk w P 43 (lnC ⟨m, q, r, a⟩)).set_ 1 (.int .u64 (N : Int))).drewN 0)
      exact ⟨by rw [HNe.out]; rfl, h.2.1, h.2.2⟩
theorem pheard_any (g b : Nat) (t : Tb) (F : Nat → Prop) (n : Int) (k : Nat) (w : World) (h : PgAt w g b t F) (hn : inI n) (hk : k < 18446744073709551616) :
    Calls Try.prog 27 #[.pointer (some ⟨g, 0, none⟩), .int .i64 n, .int .u64 k] w (OpP g b (t n).isSome (heardT t n k) F w) := by
  cases ht : t n with
  | none =>
    have HV := Lib.hid (show heardT t n k = t by rw [heardT, ht])
    have HN := Lib.hid (pline_no g b t F n w h hn ht)
    have HH := Lib.hid h
    clear h
    go_enter Try.func27, Try.ntmps27
    go_wp2_with (go_at_call 60; go_must (refine HN.out.mono ?_); rintro e w1 ⟨rfl, rfl⟩)
    go_ret
    exact ⟨rfl, by rw [HV.out]; exact HH.out, Touch.refl _ _⟩
  | some x =>
    obtain ⟨p, h⟩ := h
    have HN := Lib.hid (pline_yes g b t p F n x w h hn ht)
    have HH := Lib.hid h
    have HX := Lib.hid ht
    have HB := Lib.hid (h.ln n x ht)
    obtain ⟨P, hP⟩ : ∃ P, P = p n := ⟨_, rfl⟩
    have hok := (h.ok n x ht).2.2
    have HV := Lib.hid (show heardT t n k = putT t n (heard x k) by rw [heardT, ht])
    have HO := Lib.hid (heard_ok hok hk)
    obtain ⟨m, q, r, a⟩ := x
    have h3 := hok.r
    simp only at h3
    obtain ⟨M, hM⟩ : ∃ M, M = max r k := ⟨_, rfl⟩
    rw [show heard ⟨m, q, r, a⟩ k = ⟨m, q, M, true⟩ by rw [hM]; rfl] at HV HO
    have hmx : (if r < k then (k : Int) else (r : Int)) = (M : Int) := by split <;> omega
    have c2 := HB.out.cell 2; have c3 := HB.out.cell 3
    have f2 := HB.out.frozen 2; have f3 := HB.out.frozen 3
    rw [← hP] at HN c2 c3 f2 f3
    simp at c2 c3
    have HP := Lib.hid hP
    have hfin : ∀ w1 : World, Touch (fun k => k = p n) w w1 → Blk w1 (p n) 43 (lnC ⟨m, q, M, true⟩) → OpP g b true (putT t n ⟨m, q, M, true⟩) F w (.returned (.bool true)) w1 := fun w1 hT hB =>
      ⟨rfl, ⟨p, HH.out.line HX.out HO.out hT hB⟩, hT.mono (fun k _ e => e ▸ HH.out.fl n _ HX.out)⟩
    have HF := Lib.hid hfin
    rw [← HP.out] at HF
    rw [HV.out]
    clear h ht hok hk hP hM hfin
    go_enter Try.func27, Try.ntmps27
    go_wp2_with (go_at_call 60; go_must (refine HN.out.mono ?_); rintro e w1 ⟨rfl, rfl⟩)
    go_ret
    exact HF.out ((w.setCell ⟨P, 3, none⟩ (.bool true)).setCell ⟨P, 2, none⟩ (.int .u64 (M : Int))) (((Touch.refl (fun q => q = P) w).set (fun _ => rfl) _).set (fun _ => rfl) _) (((HP.out ▸ HB.out : Blk w P 43 (lnC ⟨m, q, r, a⟩)).set_ 3 (.bool true)).set_ 2 (.int .u64 (M : Int)))
end Go.Proofs.Ytpgakkpmpnebnaa
