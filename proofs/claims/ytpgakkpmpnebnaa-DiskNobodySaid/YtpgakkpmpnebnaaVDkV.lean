/- The law of disks: Tears. -/
import Derived.Test.YtpgakkpmpnebnaaVDkN
namespace Go.Proofs.Ytpgakkpmpnebnaa
open Go.RowKit Go.Maps
set_option maxHeartbeats 1000000
set_option maxRecDepth 100000
set_option linter.unusedVariables false
attribute [local irreducible] wpPlan

theorem infoTr : (Try.prog.info? 172).map (fun i => (i.zero, i.size, i.bytes)) = some (some (.agg #[.int .u16 0, .int .u32 0]), 2, 8) := by kernel_rfl
theorem trC_one (t : Tr) : ∀ u ∈ trC t, u.oneCell' = true := by intro u hu; simp [trC] at hu; rcases hu with rfl | rfl <;> rfl
def TrsP (ts : List Tr) (w : World) (e : Ending) (w' : World) : Prop :=
  ∃ A c, e = .returned (.slice A ts.length c) ∧ TrR w' (fun q => w.heap.size ≤ q ∧ q < w'.heap.size) A ts.length ts ∧ Touch (fun _ => False) w w'
theorem tears_any (F : Nat → Prop) (A : Option Addr) (c : Nat) (ts : List Tr) (w : World) (hr : TrR w F A ts.length ts) (hn : ts.length ≤ 1000) :
    Calls Try.prog 83 #[.slice A ts.length c] w (TrsP ts w) := by
  have HR := Lib.hid hr
  obtain ⟨i0, hi0, hz0, hz1, hz2⟩ := info_parts infoTr
  clear hr
  go_enter Try.func83, Try.ntmps83
  go_wp2_with fail
  go_loopw [3, 8] (fun l s wr => ∃ (i : Nat) (r : Option Nat), i ≤ ts.length ∧ s = .int .i64 i ∧ Own wr 172 2 l r i ((ts.take i).flatMap trC) ∧ (∀ q, r = some q → w.heap.size ≤ q) ∧ Touch (fun _ => False) w wr) (fun _ s _ => ts.length - (intOf s).toNat)
  case atStart => exact ⟨0, none, by omega, rfl, by simpa using Own.nil _ _ _, (fun _ h => by cases h), Touch.refl _ _⟩
  case round =>
    obtain ⟨i, r, hi, rfl, ho, hr, hT⟩ := hrel
    have hTs := hT.size
    have HT := Lib.hid hT
    have HRK := Lib.hid hr
    have hol := ho.lt
    obtain ⟨A0, c0, hv0, -⟩ := ho.form
    subst hv0
    have HO := Lib.hid ho
    clear ho hr hT
    by_cases hin : i < ts.length
    · obtain ⟨t, ht⟩ : ∃ t, ts[i]? = some t := ⟨_, List.getElem?_eq_getElem hin⟩
      obtain ⟨g, off, rfl, hg, -, h0, h1⟩ := (HR.out.touch HT.out (fun _ _ e => e)).at_ ht
      have HTk := Lib.hid (show (ts.take (i + 1)).flatMap trC = (ts.take i).flatMap trC ++ trC t by rw [List.take_add_one, ht]; simp)
      have hti : (ts.take i).length = i := by simp; omega
      clear ht
      go_wp2_with (
        at_builtin; refine wpList_own_append rfl _ _ 141 141 rfl 172 i0 _ 2 8 Try.underlying141 hi0 hz0 hz1 hz2 rfl _ r i ((ts.take i).flatMap trC) rfl (by exact HO.out.touch (((Touch.refl (fun _ => False) wr).alloc _).alloc _) (fun _ _ e => e)) (.slice (some ⟨wr.heap.size + 1, 0, none⟩) 1 1) 1 (trC t) rfl (Src.lit (sz := 2) Try.underlying141 (wr.heap.size + 1) 1 1 172 (trA t) (by have := Blk.new (wr.alloc (.cells (trA t) 132)) 172 (trA t); rwa [show (wr.alloc (.cells (trA t) 132)).heap.size = wr.heap.size + 1 from by simp] at this) rfl (trC_one t)) (by simp only [maxLen]; omega) (by omega) ?_
        intro v9 r9 w4 ho9 t9 hr9
        obtain ⟨A9, c9, hv9, -⟩ := ho9.form
        subst hv9
        have HO9 := Lib.hid ho9
        have HT9 := Lib.hid ((((HT.out.trans ((Touch.refl (fun _ => False) wr).alloc _) (fun _ _ e => e)).alloc _)).trans t9 (fun q hq e => by have := HRK.out q e; omega))
        have HR9 := Lib.hid hr9
        clear ho9 t9 hr9; go_frame)
      go_roundw
      case rel =>
        refine ⟨i + 1, r9, by omega, by simp, by rw [HTk.out]; exact HO9.out, fun q hq => ?_, HT9.out⟩
        rcases HR9.out with e | ⟨k, e, hk⟩
        · exact HRK.out q (e ▸ hq)
        · rw [hq] at e; injection e with e; simp at hk; omega
      case measure => simp [intOf]; omega
    · obtain rfl : i = ts.length := by omega
      obtain ⟨A1, c1, hv1, hrd⟩ := HO.out.rdZ'
      injection hv1 with e1 _ e2
      subst e1 e2
      have HRd := Lib.hid hrd
      clear hrd
      go_wp2
      go_ret
      refine ⟨A0, c0, rfl, ⟨rfl, ?_⟩, HT.out⟩
      have h := HRd.out
      rw [List.take_length] at h
      exact ⟨h.1, fun h0 => by
        obtain ⟨g, off, e, hl, hF, hc⟩ := h.2 h0
        exact ⟨g, off, e, hl, ⟨HRK.out g hF, hl⟩, hc⟩⟩
end Go.Proofs.Ytpgakkpmpnebnaa
