/- The reference's disk: Same, of equal rows. The law of disks: Files. -/
import Derived.Test.YtpgakkpmpnebnaaVDkQ
import Derived.Test.YtpgakkpmpnebnaaVDkS
section
namespace Go.Proofs.Ytpgakkpmpnebnaa
open Go.RowKit Go.Maps
set_option maxHeartbeats 1000000
set_option maxRecDepth 100000
set_option linter.unusedVariables false
attribute [local irreducible] wpPlan

theorem fi_neq (f : Fi) (w : World) : (binOp .neq 82 (.agg #[St f.nm, St f.al, .int .i64 (f.kp : Int)]) (.agg #[St f.nm, St f.al, .int .i64 (f.kp : Int)])).run Try.prog w = .ok (.bool false) w := by
  simp [go_sem, Try.underlying82, Try.underlying9, Try.underlying3]
theorem fsame_yes (F F' : Nat → Prop) (A A' : Option Addr) (c c' : Nat) (fs : List Fi) (w : World) (hr : RfF w F A fs) (hr' : RfF w F' A' fs) (hn : fs.length ≤ 1000000) :
    Calls Try.prog 40 #[.slice A fs.length c, .slice A' fs.length c'] w fun e w' => e = .returned (.bool true) ∧ Touch (fun _ => False) w w' := by
  have HR := Lib.hid hr
  have HR' := Lib.hid hr'
  clear hr hr'
  go_enter Try.func40, Try.ntmps40
  go_wp2_with fail
  go_loopw [5] (fun s wr => ∃ i : Nat, i ≤ fs.length ∧ s = .int .i64 i ∧ Touch (fun _ => False) w wr) (fun s _ => fs.length - (intOf s).toNat)
  case atStart => exact ⟨0, by omega, rfl, Touch.refl _ _⟩
  case round =>
    obtain ⟨i, hi, rfl, hT⟩ := hrel
    have HT := Lib.hid hT
    clear hT
    by_cases hin : i < fs.length
    · obtain ⟨f, hf⟩ : ∃ f, fs[i]? = some f := ⟨_, List.getElem?_eq_getElem hin⟩
      obtain ⟨W, hW⟩ : ∃ W, W = wr.drew := ⟨_, rfl⟩
      have HTW := Lib.hid (HT.out.trans (show Touch (fun _ => False) wr W from hW ▸ (Touch.refl _ _).drew) (fun _ _ e => e))
      obtain ⟨g, off, rfl, hg, -, h0, h1, h2⟩ := (HR.out.touch HTW.out (fun _ _ e => e)).at_ hf
      obtain ⟨g', off', rfl, hg', -, h0', h1', h2'⟩ := (HR'.out.touch HTW.out (fun _ _ e => e)).at_ hf
      have hne := fi_neq f
      clear hf
      go_wp2_with fail
      refine wp_region_plan [(0, 0), (0, 1), (0, 2), (0, 3), (0, 4), (0, 5), (0, 6), (0, 7), (0, 8)] (fun _ => False) (by kernel_rfl) (by kernel_rfl) (fun c a d v w h => by cases d <;> exact h) ?_
      rw [← hW]
      clear hW
      iterate 9
        refine plan_s1 rfl (by rfl) (fun Kc hKc => ?_)
        go_simp
        first
          | (refine hKc _ ?_)
        clear hKc Kc
      refine plan_done ?_
      go_wp2
      go_roundw
      case rel => exact ⟨i + 1, by omega, by simp, HTW.out⟩
      case measure => simp [intOf]; omega
    · obtain rfl : i = fs.length := by omega
      go_wp2
      go_ret
      exact ⟨rfl, HT.out⟩
end Go.Proofs.Ytpgakkpmpnebnaa
end

section
namespace Go.Proofs.Ytpgakkpmpnebnaa
open Go.RowKit Go.Maps
set_option maxHeartbeats 1000000
set_option maxRecDepth 100000
set_option linter.unusedVariables false
attribute [local irreducible] wpPlan

/-- What the law's Files tells. -/
def LflP (fs : List Fi) (w : World) (e : Ending) (w' : World) : Prop :=
  ∃ A c, e = .returned (.slice A fs.length c) ∧ RfF w' (fun q => w.heap.size ≤ q ∧ q < w'.heap.size) A fs ∧ Touch (fun _ => False) w w'
theorem lfiles_any {w : World} {g b m : Nat} {D : Dk} {F : Nat → Prop} (h : DkAt w g b m D F) :
    Calls Try.prog 41 #[.pointer (some ⟨g, 0, none⟩)] w (LflP D.fs w) := by
  have HF := Lib.hid (dfiles_any h)
  unfold FlsP at HF
  have hn := h.ok.n
  have HOk := Lib.hid h.ok
  obtain ⟨i0, hi0, hz0, hz1, hz2⟩ := info_parts infoFi
  clear h
  go_enter Try.func41, Try.ntmps41
  go_wp2_with (go_at_call 42; go_must (refine HF.out.mono ?_); rintro e w3 ⟨xs, XA, xc, rfl, hxf, hrd, hfx, t3⟩
               have HXf := Lib.hid hxf
               have HRd := Lib.hid hrd
               have HFx := Lib.hid hfx
               have HT3 := Lib.hid t3
               have hs3 := t3.size
               have hxl : xs.length = D.fs.length := by have := congrArg List.length hxf; simpa using this
               clear hxf hrd hfx t3)
  go_loopw [3, 9] (fun l s wr => ∃ (i : Nat) (r : Option Nat), i ≤ xs.length ∧ s = .int .i64 i ∧ Own wr 82 3 l r i ((D.fs.take i).flatMap fiC) ∧ (∀ q, r = some q → w3.heap.size ≤ q) ∧ Touch (fun _ => False) w3 wr) (fun _ s _ => xs.length - (intOf s).toNat)
  case atStart => exact ⟨0, none, by omega, rfl, by simpa using Own.nil _ _ _, (fun _ h => by cases h), Touch.refl _ _⟩
  case round =>
    obtain ⟨i, r, hi, rfl, ho, hr, hT⟩ := hrel
    have hTs := hT.size
    have HT := Lib.hid hT
    have HRK := Lib.hid hr
    have hol := ho.lt
    obtain ⟨A0, c0, hv0, -⟩ := ho.form
    subst hv0
    have HO := Lib.hid ho
    clear ho hr hT
    by_cases hin : i < xs.length
    · obtain ⟨x, hx⟩ : ∃ x, xs[i]? = some x := ⟨_, List.getElem?_eq_getElem hin⟩
      obtain ⟨gx, ox, rfl, hgx, -, hc⟩ := RdZ.at_ (HRd.out.touch HT.out (fun _ _ e => e)) (fun a _ => FlX.len a) rfl hx
      have h0 := hc 0 _ rfl
      have h1 := hc 1 _ rfl
      have h2 := hc 2 _ rfl
      simp only [Nat.add_zero, ← Nat.add_assoc] at h0 h1 h2
      have hfx := HFx.out x (List.mem_of_getElem? hx)
      have hff : D.fs[i]? = some x.f := by rw [← HXf.out, List.getElem?_map, hx]; rfl
      have hfm := List.mem_of_getElem? hff
      have hfo := HOk.out.nm x.f hfm
      have hal := Nat.le_trans (len_le_tot hfm) HOk.out.tot
      have HTk := Lib.hid (show D.fs.take (i + 1) = D.fs.take i ++ [x.f] by rw [List.take_add_one, hff]; rfl)
      have ta := (Touch.refl (fun _ => False) wr).alloc (.cells #[St x.f.nm, .slice x.A1 x.f.kp x.c1, .slice x.A2 (x.f.al.length - x.f.kp) x.c2] 90)
      have hb := (hfx.touch HT.out (fun _ _ e => e)).touch ta (fun _ _ e => e)
      obtain ⟨K, hK⟩ : ∃ K, K = x.f.al.take x.f.kp := ⟨_, rfl⟩
      obtain ⟨L, hL⟩ : ∃ L, L = x.f.al.drop x.f.kp := ⟨_, rfl⟩
      have HKL := Lib.hid (show K ++ L = x.f.al by rw [hK, hL, List.take_append_drop])
      have hkl : K.length = x.f.kp := by rw [hK]; simp; omega
      have hll : L.length = x.f.al.length - x.f.kp := by rw [hL]; simp
      have hb1 := hb.1.1
      have hb2 := hb.2.1
      rw [← hK, hkl] at hb1
      rw [← hL, hll] at hb2
      have hs1 := Rd.str hb1 x.c1
      have hs2 := Rd.str hb2 x.c2
      have hcl : ¬ 9223372036854775807 < K.length + L.length := by omega
      clear hb hb1 hb2 hfx hff hfm hx hc hK hL hkl hll
      go_wp2_with (
        at_builtin; rw [bytes_app K L, HKL.out]; refine wpList_own_append rfl _ _ 65 65 rfl 82 i0 _ 3 40 Try.underlying65 hi0 hz0 hz1 hz2 rfl _ r i ((D.fs.take i).flatMap fiC) rfl (by exact HO.out.touch (((Touch.refl (fun _ => False) wr).alloc _).alloc _) (fun _ _ e => e)) (.slice (some ⟨wr.heap.size + 1, 0, none⟩) 1 1) 1 (fiC x.f) rfl (Src.lit (sz := 3) Try.underlying65 (wr.heap.size + 1) 1 1 82 (#[St x.f.nm, St x.f.al, .int .i64 (x.f.kp : Int)]) (by have := Blk.new (wr.alloc (.cells #[St x.f.nm, .slice x.A1 x.f.kp x.c1, .slice x.A2 (x.f.al.length - x.f.kp) x.c2] 90)) 82 #[St x.f.nm, St x.f.al, .int .i64 (x.f.kp : Int)]; rwa [show (wr.alloc (.cells #[St x.f.nm, .slice x.A1 x.f.kp x.c1, .slice x.A2 (x.f.al.length - x.f.kp) x.c2] 90)).heap.size = wr.heap.size + 1 from by simp] at this) rfl (fiC_one x.f)) (by simp only [maxLen]; omega) (by omega) ?_
        intro v9 r9 w9 ho9 t9 hr9
        obtain ⟨A9, c9, hv9, -⟩ := ho9.form
        subst hv9
        have HO9 := Lib.hid ho9
        have HT9 := Lib.hid (((HT.out.trans ((Touch.refl (fun _ => False) wr).alloc _) (fun _ _ e => e)).alloc _).trans t9 (fun q hq e => by have := HRK.out q e; omega))
        have HR9 := Lib.hid hr9
        clear ho9 t9 hr9; go_frame)
      go_roundw
      case rel =>
        refine ⟨i + 1, r9, by omega, by simp, by rw [HTk.out]; simpa using HO9.out, fun q hq => ?_, HT9.out⟩
        rcases HR9.out with e | ⟨k, e, hk⟩
        · exact HRK.out q (e ▸ hq)
        · rw [hq] at e; injection e with e; simp at hk; omega
      case measure => simp [intOf]; omega
    · have hie : i = D.fs.length := by omega
      subst hie
      obtain ⟨A1, c1, hv1, hrd⟩ := HO.out.rdZ'
      injection hv1 with e1 _ e2
      subst e1 e2
      have HRd2 := Lib.hid hrd
      clear hrd
      go_wp2
      go_ret
      refine ⟨A0, c0, rfl, ?_, HT3.out.trans HT.out (fun _ _ e => e)⟩
      have h := HRd2.out
      rw [List.take_length] at h
      exact ⟨h.1, fun h0 => by
        obtain ⟨g, off, e, hl, hF, hc⟩ := h.2 h0
        exact ⟨g, off, e, hl, ⟨by have := HRK.out g hF; omega, hl⟩, hc⟩⟩
end Go.Proofs.Ytpgakkpmpnebnaa
end
