/- Package week: Open, Row, Total. -/
import Derived.Test.YtcblbjhhlnmkjaaGreatCalQ
namespace Go.Proofs.YtcblbjhhlnmkjaaGreat
open Go.RowKit Cal
set_option maxHeartbeats 4000000
set_option maxRecDepth 100000
set_option linter.unusedVariables false
attribute [local irreducible] wpPlan

theorem SpR.at_or {w : World} {F : Nat → Prop} {A : Option Addr} {n : Nat} {l : List Sp} (h : SpR w F A n l) (i : Nat) :
    (∃ g off f t, A = some ⟨g, off, none⟩ ∧ l[i]? = some ⟨f, t⟩ ∧ i < n ∧ w.cell? ⟨g, off + i * 2, none⟩ = some (.int .i64 f) ∧ w.cell? ⟨g, off + i * 2 + 1, none⟩ = some (.int .i64 t)) ∨ (¬ i < n ∧ l[i]? = none) := by
  by_cases hl : i < l.length
  · obtain ⟨g, off, e, -, -, h0, h1⟩ := h.at_ (List.getElem?_eq_getElem hl)
    exact .inl ⟨g, off, l[i].f, l[i].t, e, List.getElem?_eq_getElem hl, by rw [← h.1]; exact hl, h0, h1⟩
  · exact .inr ⟨by rw [← h.1]; exact hl, List.getElem?_eq_none (by omega)⟩
theorem Rd.sum {w : World} {F : Nat → Prop} {A : Option Addr} {n : Nat} {wk : List Sp} (h : Rd w F A n ((sumsN wk wk.length).map V64)) {i : Nat} (hi : i ≤ wk.length) :
    ∃ g off, A = some ⟨g, off, none⟩ ∧ g < w.heap.size ∧ w.cell? ⟨g, off + i, none⟩ = some (.int .i64 (longS (wk.take i))) := by
  have hn : n = wk.length + 1 := by have := h.1; rw [List.length_map, sumsN_len] at this; omega
  obtain ⟨g, off, e, hg, -, hc⟩ := h.2 (by omega)
  refine ⟨g, off, e, hg, hc i _ ?_⟩
  rw [List.getElem?_map, sumsN_get wk wk.length i hi]; rfl
/-- What a call that may fill the lazy cell leaves. -/
def PnInt (g : Nat) (wk : List Sp) (b : Nat) (G : Nat → Prop) (v : Int) (w : World) (e : Ending) (w' : World) : Prop :=
  e = .returned (.int .i64 v) ∧ PnAt w' g wk b (More G w w') ∧ Touch (fun q => q = b) w w'
theorem total_any (g : Nat) (wk : List Sp) (b : Nat) (G : Nat → Prop) (w : World) (h : PnAt w g wk b G) :
    Calls Tryz.prog 88 #[.pointer (some ⟨g, 0, none⟩)] w (PnInt g wk b G (len wk) w) := by
  obtain ⟨A, k, hp⟩ := h.pl
  have HN := Lib.hid (wnone_any g wk A k b G w hp)
  have q0 := hp.blk.cell 0; have q1 := hp.blk.cell 1
  simp at q0 q1
  have hgl := hp.blk.lt
  have hgb : g ≠ b := fun e => h.nb (e ▸ h.gG)
  have HG := Lib.hid (fun w1 (hh : PnAt w1 g wk b G) => get_any g wk b G w1 hh)
  have HH := Lib.hid h
  have HL := Lib.hid (len_sums h.wk)
  clear h hp
  go_enter Tryz.func88, Tryz.ntmps88
  go_wp2_with (go_at_call 107; go_must (refine HN.out.mono ?_); rintro e w0 ⟨rfl, rfl⟩)
  refine wp_region_plan [(0, 0), (0, 1), (0, 2), (0, 3), (1, 5), (1, 6), (1, 7), (1, 8), (1, 9), (2, 4), (0, 10), (0, 11), (0, 12)] (fun q => q = b) (by kernel_rfl) (by kernel_rfl) (fun c a d v w h => by cases d <;> exact h) ?_
  iterate 4
    refine plan_s1 rfl (by rfl) (fun Kc hKc => ?_)
    go_simp
    first
      | (refine hKc _ ?_)
    clear hKc Kc
  iterate 5
    first
      | (apply plan_h
         · rfl
         · rfl
         · intro wh hT
           have hf0 := (hT.cell (p := ⟨g, 0, none⟩) hgl hgb).trans q0
           go_simp
           try rfl
         go_frame)
      | (refine plan_hn rfl (by rfl) ?_; go_frame)
  refine plan_a1 rfl (by rfl) (fun Kc hKc => ?_)
  go_simp
  refine (HG.out _ (by exact HH.out.touch ((Touch.refl (fun _ => False) _).drew) (fun e => e) (fun _ _ e => e))).mono ?_
  rintro e w1 ⟨A1, c1, rfl, r1, p1, t1⟩
  refine hKc _ _ ⟨t1, ?_⟩
  clear hKc Kc
  obtain ⟨g1, o1, rfl, -, hx⟩ := r1.sum (i := wk.length) (by omega)
  rw [HL.out] at hx
  have HP1 := Lib.hid p1
  have HT1 := Lib.hid t1
  clear r1 p1 t1
  have hlt : (wk.length : Int) < (wk.length : Int) + 1 := by omega
  have hl0 : (0 : Int) ≤ (wk.length : Int) := by omega
  iterate 3
    refine plan_s1 rfl (by rfl) (fun Kc hKc => ?_)
    go_simp
    first
      | (refine hKc _ ?_)
    clear hKc Kc
  refine plan_done ?_
  clear hlt
  go_wp2
  go_ret
  exact ⟨rfl, HP1.out, (Touch.refl _ w).drew.trans HT1.out (fun _ _ e => e)⟩
end Go.Proofs.YtcblbjhhlnmkjaaGreat
