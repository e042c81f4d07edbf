/- law01.read: both readers read alike. -/
import Derived.Test.YtomapfklpoijbaaQuillG
import Derived.Deep.RegionHeld3
import Derived.Deep.Quiet
import Derived.Deep.RegionWith
namespace Go.Proofs.Ytomapfklpoijbaa
open Go.RowKit
set_option maxHeartbeats 2000000
set_option maxRecDepth 100000

/-- Both readers are at the same place. -/
def Two (w : World) (g g2 : Nat) (F : Nat → Prop) (l : List UInt8) (bad : Bool) : Prop := RdAt w g F l bad ∧ RfAt w g2 F l bad ∧ g ≠ g2
def TwoPost (w : World) (g g2 : Nat) (F : Nat → Prop) (n : Nat) (e : Ending) (w' : World) : Prop :=
  e = .returned (.bool true) ∧ ∃ l bad, l.length ≤ n ∧ Two w' g g2 F l bad ∧ Touch (fun k => k = g ∨ k = g2) w w'
theorem Two.intro {w w0 w1 w2 : World} {g g2 : Nat} {F : Nat → Prop} {l : List UInt8} {bad : Bool} {n : Nat} (h1 : RdAt w1 g F l bad) (h2 : RfAt w2 g2 F l bad) (hne : g ≠ g2) (hF : ¬ F g2) (hn : l.length ≤ n)
    (t0 : Touch (fun _ => False) w w0) (t1 : Touch (fun k => k = g) w0 w1) (t2 : Touch (fun k => k = g2) w1 w2) : TwoPost w g g2 F n (.returned (.bool true)) w2 :=
  ⟨rfl, l, bad, hn, ⟨rdAt_touch h1 t2 hne (fun k hk e => hF (by subst e; exact hk)), h2, hne⟩,
    ((t0.mono (S' := fun k => k = g ∨ k = g2) (fun _ _ e => e.elim)).trans t1 (fun _ _ e => Or.inl e)).trans t2 (fun _ _ e => Or.inr e)⟩

section
variable (g g2 : Nat) (F : Nat → Prop) (l : List UInt8) (bad : Bool) (N : Int) (M : Nat) (w : World)

theorem read_int (h : Two w g g2 F l bad) :
    Calls Try.prog 49 #[.pointer (some ⟨g, 0, none⟩), .pointer (some ⟨g2, 0, none⟩), .agg #[.int .i64 1, .int .i64 N, .int .u64 M]] w (TwoPost w g g2 F l.length) := by
  obtain ⟨h1, h2, hne⟩ := h
  have hgF : ¬ F g := h1.1
  have hgF2 : ¬ F g2 := h2.1
  have HT := Lib.hid (((Touch.refl (fun _ => False) w)).alloc (.cells #[.int .i64 1, .int .i64 N, .int .u64 M] 103))
  have H1 := Lib.hid (rdAt_touch h1 HT.out (fun e => e) (fun _ _ e => e))
  have H2 := Lib.hid (rfAt_touch h2 HT.out (fun e => e) (fun _ _ e => e))
  have hll := rdNum_left_le 9223372036854775807 true bad l
  clear h1 h2
  go_enter Try.func49, Try.ntmps49
  go_wp2_with (first
    | (go_at_call 38; go_must (refine (int_any g F bad l _ H1.out).mono ?_); rintro e w1 ⟨rfl, k1, t1⟩)
    | (go_at_call 85; go_must (refine (rf_int g2 F bad l _ (rfAt_touch H2.out t1 (fun e => hne e.symm) (fun k hk e => hgF (by subst e; exact hk)))).mono ?_); rintro e w2 ⟨rfl, k2, t2⟩))
  go_ret
  exact Two.intro k1 k2 hne hgF2 hll HT.out t1 t2

theorem read_flag (h : Two w g g2 F l bad) :
    Calls Try.prog 49 #[.pointer (some ⟨g, 0, none⟩), .pointer (some ⟨g2, 0, none⟩), .agg #[.int .i64 2, .int .i64 N, .int .u64 M]] w (TwoPost w g g2 F l.length) := by
  obtain ⟨h1, h2, hne⟩ := h
  have hgF : ¬ F g := h1.1
  have hgF2 : ¬ F g2 := h2.1
  have HT := Lib.hid (((Touch.refl (fun _ => False) w)).alloc (.cells #[.int .i64 2, .int .i64 N, .int .u64 M] 103))
  have H1 := Lib.hid (rdAt_touch h1 HT.out (fun e => e) (fun _ _ e => e))
  have H2 := Lib.hid (rfAt_touch h2 HT.out (fun e => e) (fun _ _ e => e))
  have hll := rdNum_left_le 1 false bad l
  clear h1 h2
  go_enter Try.func49, Try.ntmps49
  go_wp2_with (first
    | (go_at_call 52; go_must (refine (flag_any g F bad l _ H1.out).mono ?_); rintro e w1 ⟨rfl, k1, t1⟩)
    | (go_at_call 86; go_must (refine (rf_flag g2 F bad l _ (rfAt_touch H2.out t1 (fun e => hne e.symm) (fun k hk e => hgF (by subst e; exact hk)))).mono ?_); rintro e w2 ⟨rfl, k2, t2⟩))
  go_ret
  exact Two.intro k1 k2 hne hgF2 hll HT.out t1 t2

theorem rdText_left_le (m : Int) (b : Bool) (l : List UInt8) : (rdText m b l).left.length ≤ l.length := by
  unfold rdText
  split
  · simp
  · split
    · simp
    · have := rdNum_left_le m.toNat false b l
      simp; omega

theorem read_text (h : Two w g g2 F l bad) (hsm : l.length ≤ 3000) (hN : N ≤ 9223372036854775807) (hN0 : -9223372036854775808 ≤ N) :
    Calls Try.prog 49 #[.pointer (some ⟨g, 0, none⟩), .pointer (some ⟨g2, 0, none⟩), .agg #[.int .i64 3, .int .i64 N, .int .u64 M]] w (TwoPost w g g2 F l.length) := by
  obtain ⟨h1, h2, hne⟩ := h
  have hlt : g < w.heap.size := by obtain ⟨_, _, _, _, _, hb, _⟩ := h1; exact hb.lt
  have hlt2 : g2 < w.heap.size := by obtain ⟨_, _, _, _, _, hb, _⟩ := h2; exact hb.lt
  have hgF : ¬ F g := h1.1
  have hgF2 : ¬ F g2 := h2.1
  have HT := Lib.hid (((Touch.refl (fun _ => False) w)).alloc (.cells #[.int .i64 3, .int .i64 N, .int .u64 M] 103))
  have H1 := Lib.hid (rdAt_touch h1 HT.out (fun e => e) (fun _ _ e => e))
  have H2 := Lib.hid (rfAt_touch h2 HT.out (fun e => e) (fun _ _ e => e))
  have hll := rdText_left_le N bad l
  clear h1 h2
  go_enter Try.func49, Try.ntmps49
  go_wp2_with fail
  go_region_held3 (fun w' => w'.cell? ⟨w.heap.size, 1, none⟩ = some (.int .i64 N)) (first | assumption | go_keep)
    (first
      | (go_at_call 53; go_must (refine (text_any g F bad N l _ (by exact H1.out) (by omega) hN hN0).mono ?_); rintro e w1 ⟨rfl, k1, t1⟩
         have hq : w1.cell? ⟨w.heap.size, 1, none⟩ = some (.int .i64 N) := (t1.cell (by simp) (by simp; omega)).trans (by simp))
      | (go_at_call 87; go_must (refine (rf_text g2 F bad N l _ (rfAt_touch (by exact H2.out) t1 (fun e => hne e.symm) (fun k hk e => hgF (by subst e; exact hk))) (by omega) hN hN0).mono ?_); rintro e w2 ⟨rfl, k2, t2⟩
         have hq2 : w2.cell? ⟨w.heap.size, 1, none⟩ = some (.int .i64 N) := (t2.cell (by have := t1.size; simp at this; simp; omega) (by simp; omega)).trans hq))
  go_wp2
  go_ret
  exact Two.intro k1 k2 hne hgF2 hll HT.out.drew t1 t2

theorem read_num (K : Int) (hK1 : (K == 1) = false) (hK2 : (K == 2) = false) (hK3 : (K == 3) = false) (hK4 : (K == 4) = false) (hK5 : (K == 5) = false) (h : Two w g g2 F l bad) :
    Calls Try.prog 49 #[.pointer (some ⟨g, 0, none⟩), .pointer (some ⟨g2, 0, none⟩), .agg #[.int .i64 K, .int .i64 N, .int .u64 M]] w (TwoPost w g g2 F l.length) := by
  obtain ⟨h1, h2, hne⟩ := h
  have hlt : g < w.heap.size := by obtain ⟨_, _, _, _, _, hb, _⟩ := h1; exact hb.lt
  have hlt2 : g2 < w.heap.size := by obtain ⟨_, _, _, _, _, hb, _⟩ := h2; exact hb.lt
  have hgF : ¬ F g := h1.1
  have hgF2 : ¬ F g2 := h2.1
  have HT := Lib.hid (((Touch.refl (fun _ => False) w)).alloc (.cells #[.int .i64 K, .int .i64 N, .int .u64 M] 103))
  have H1 := Lib.hid (rdAt_touch h1 HT.out (fun e => e) (fun _ _ e => e))
  have H2 := Lib.hid (rfAt_touch h2 HT.out (fun e => e) (fun _ _ e => e))
  have hll := rdNum_left_le M false bad l
  clear h1 h2
  go_enter Try.func49, Try.ntmps49
  go_wp2_with fail
  go_region_held3 (fun w' => w'.cell? ⟨w.heap.size, 2, none⟩ = some (.int .u64 M)) (first | assumption | go_keep)
    (first
      | (go_at_call 37; go_must (refine (num_any g F bad M l _ (by exact H1.out)).mono ?_); rintro e w1 ⟨rfl, k1, t1⟩
         have hq : w1.cell? ⟨w.heap.size, 2, none⟩ = some (.int .u64 M) := (t1.cell (by simp) (by simp; omega)).trans (by simp))
      | (go_at_call 91; go_must (refine (rf_num g2 F bad M l _ (rfAt_touch (by exact H2.out) t1 (fun e => hne e.symm) (fun k hk e => hgF (by subst e; exact hk)))).mono ?_); rintro e w2 ⟨rfl, k2, t2⟩
         have hq2 : w2.cell? ⟨w.heap.size, 2, none⟩ = some (.int .u64 M) := (t2.cell (by have := t1.size; simp at this; simp; omega) (by simp; omega)).trans hq))
  go_wp2
  go_ret
  exact Two.intro k1 k2 hne hgF2 hll HT.out.drew t1 t2

theorem read_fail (h : Two w g g2 F l bad) :
    Calls Try.prog 49 #[.pointer (some ⟨g, 0, none⟩), .pointer (some ⟨g2, 0, none⟩), .agg #[.int .i64 5, .int .i64 N, .int .u64 M]] w (TwoPost w g g2 F l.length) := by
  obtain ⟨h1, h2, hne⟩ := h
  have hgF : ¬ F g := h1.1
  have hgF2 : ¬ F g2 := h2.1
  have HT := Lib.hid (((Touch.refl (fun _ => False) w)).alloc (.cells #[.int .i64 5, .int .i64 N, .int .u64 M] 103))
  have H2 := Lib.hid (rfAt_touch h2 HT.out (fun e => e) (fun _ _ e => e))
  obtain ⟨hg, A, cap, hl, hm, hb, hr⟩ := rdAt_touch h1 HT.out (fun e => e) (fun _ _ e => e)
  have HF := Lib.hid (failPost (F := F) hg hb)
  clear h1 h2 hr
  go_enter Try.func49, Try.ntmps49
  go_wp2_with (first
    | (go_at_call 89; go_must (refine (fail_any _ _ _ _ _ _ hb).mono ?_); rintro e w1 ⟨rfl, hw⟩
       have k1 := HF.out
       rw [hw] at k1
       clear hw
       obtain ⟨k1, t1⟩ := k1)
    | (go_at_call 90; go_must (refine (rf_fail g2 F l bad _ (rfAt_touch H2.out t1 (fun e => hne e.symm) (fun k hk e => hgF (by subst e; exact hk)))).mono ?_); rintro e w2 ⟨rfl, k2, t2⟩))
  go_ret
  exact Two.intro k1 k2 hne hgF2 (by simp) HT.out t1 t2

theorem read_raw_ok (n : Nat) (h : Two w g g2 F l bad) (hn : n ≤ l.length) (hsm : l.length ≤ 3000) :
    Calls Try.prog 49 #[.pointer (some ⟨g, 0, none⟩), .pointer (some ⟨g2, 0, none⟩), .agg #[.int .i64 4, .int .i64 n, .int .u64 M]] w (TwoPost w g g2 F l.length) := by
  obtain ⟨h1, h2, hne⟩ := h
  have hlt : g < w.heap.size := by obtain ⟨_, _, _, _, _, hb, _⟩ := h1; exact hb.lt
  have hlt2 : g2 < w.heap.size := by obtain ⟨_, _, _, _, _, hb, _⟩ := h2; exact hb.lt
  have hgF : ¬ F g := h1.1
  have hgF2 : ¬ F g2 := h2.1
  have HT := Lib.hid (((Touch.refl (fun _ => False) w)).alloc (.cells #[.int .i64 4, .int .i64 n, .int .u64 M] 103))
  have H1 := Lib.hid (rdAt_touch h1 HT.out (fun e => e) (fun _ _ e => e))
  have H2 := Lib.hid (rfAt_touch h2 HT.out (fun e => e) (fun _ _ e => e))
  have hll : (l.drop n).length ≤ l.length := by simp
  clear h1 h2
  go_enter Try.func49, Try.ntmps49
  go_wp2_with fail
  go_region_with (
    (first
      | (go_at_call 54; go_must (refine (raw_ok g F bad n l _ (by exact H1.out) hn (by omega)).mono ?_); rintro e w1 ⟨A1, c1, rfl, _, _, r1, k1, t1⟩
         have hq : w1.cell? ⟨w.heap.size, 1, none⟩ = some (.int .i64 n) := (t1.cell (by simp) (by simp; omega)).trans (by simp)
         have hs := Rd.str r1 c1)
      | (go_at_call 88; go_must (refine (rf_raw_ok g2 F bad n l _ (rfAt_touch (by exact H2.out) t1 (fun e => hne e.symm) (fun k hk e => hgF (by subst e; exact hk))) hn (by omega)).mono ?_); rintro e w2 ⟨A2, c2, rfl, _, _, r2, k2, t2⟩
         have hq2 : w2.cell? ⟨w.heap.size, 1, none⟩ = some (.int .i64 n) := (t2.cell (by have := t1.size; simp at this; simp; omega) (by simp; omega)).trans hq
         have hs2 := Rd.str r2 c2
         have hs1 := Rd.str (r1.touch t2 (fun k hk e => by simp at hk; omega)) c1)))
  all_goals
    go_wp2
    go_ret
    exact Two.intro k1 k2 hne hgF2 hll HT.out.drew t1 t2

theorem read_raw_no (h : Two w g g2 F l bad) (hn : N < 0 ∨ (l.length : Int) < N) :
    Calls Try.prog 49 #[.pointer (some ⟨g, 0, none⟩), .pointer (some ⟨g2, 0, none⟩), .agg #[.int .i64 4, .int .i64 N, .int .u64 M]] w (TwoPost w g g2 F l.length) := by
  obtain ⟨h1, h2, hne⟩ := h
  have hlt : g < w.heap.size := by obtain ⟨_, _, _, _, _, hb, _⟩ := h1; exact hb.lt
  have hlt2 : g2 < w.heap.size := by obtain ⟨_, _, _, _, _, hb, _⟩ := h2; exact hb.lt
  have hgF : ¬ F g := h1.1
  have hgF2 : ¬ F g2 := h2.1
  have HT := Lib.hid (((Touch.refl (fun _ => False) w)).alloc (.cells #[.int .i64 4, .int .i64 N, .int .u64 M] 103))
  have H1 := Lib.hid (rdAt_touch h1 HT.out (fun e => e) (fun _ _ e => e))
  have H2 := Lib.hid (rfAt_touch h2 HT.out (fun e => e) (fun _ _ e => e))
  have HR : ∀ w0, RdAt w0 g F l bad → Calls Try.prog 54 #[.pointer (some ⟨g, 0, none⟩), .int .i64 N] w0 (RawPost 0 [] [] true w0 g F) := fun w0 h0 => by
    rcases hn with hn | hn
    · exact raw_neg g F bad N l w0 h0 hn
    · exact raw_more g F bad N l w0 h0 (by omega) hn
  have HR := Lib.hid HR
  have hn := Lib.hid hn
  clear h1 h2
  go_enter Try.func49, Try.ntmps49
  go_wp2_with fail
  go_region_with (
    (first
      | (go_at_call 54; go_must (refine (HR.out _ (by exact H1.out)).mono ?_); rintro e w1 ⟨A1, c1, rfl, _, _, r1, k1, t1⟩
         have hq : w1.cell? ⟨w.heap.size, 1, none⟩ = some (.int .i64 N) := (t1.cell (by simp) (by simp; omega)).trans (by simp)
         have hs := Rd.str r1 c1)
      | (go_at_call 88; go_must (refine (rf_raw_no g2 F bad N l _ (rfAt_touch (by exact H2.out) t1 (fun e => hne e.symm) (fun k hk e => hgF (by subst e; exact hk))) hn.out).mono ?_); rintro e w2 ⟨A2, c2, rfl, _, _, r2, k2, t2⟩
         have hq2 : w2.cell? ⟨w.heap.size, 1, none⟩ = some (.int .i64 N) := (t2.cell (by have := t1.size; simp at this; simp; omega) (by simp; omega)).trans hq
         have hs2 := Rd.str r2 c2
         have hs1 := Rd.str (r1.touch t2 (fun k hk e => by simp at hk; omega)) c1)))
  all_goals
    go_wp2
    go_ret
    exact Two.intro k1 k2 hne hgF2 (by simp) HT.out.drew t1 t2

theorem read_any (K : Int) (hsm : l.length ≤ 3000) (hN : N ≤ 9223372036854775807) (hN0 : -9223372036854775808 ≤ N) (h : Two w g g2 F l bad) :
    Calls Try.prog 49 #[.pointer (some ⟨g, 0, none⟩), .pointer (some ⟨g2, 0, none⟩), .agg #[.int .i64 K, .int .i64 N, .int .u64 M]] w (TwoPost w g g2 F l.length) := by
  by_cases h1 : K = 1
  · subst h1; exact read_int g g2 F l bad N M w h
  by_cases h2 : K = 2
  · subst h2; exact read_flag g g2 F l bad N M w h
  by_cases h3 : K = 3
  · subst h3; exact read_text g g2 F l bad N M w h hsm hN hN0
  by_cases h4 : K = 4
  · subst h4
    by_cases hn : N < 0 ∨ (l.length : Int) < N
    · exact read_raw_no g g2 F l bad N M w h hn
    · obtain ⟨n, rfl⟩ := Int.eq_ofNat_of_zero_le (by omega : 0 ≤ N)
      exact read_raw_ok g g2 F l bad M w n h (by omega) hsm
  by_cases h5 : K = 5
  · subst h5; exact read_fail g g2 F l bad N M w h
  exact read_num g g2 F l bad N M w K (by simp [h1]) (by simp [h2]) (by simp [h3]) (by simp [h4]) (by simp [h5]) h
end
end Go.Proofs.Ytomapfklpoijbaa
