/- disk.Disk: Files. -/
import Derived.Test.YtpgakkpmpnebnaaVDkM
import Derived.Test.YtpgakkpmpnebnaaOwn
namespace Go.Proofs.Ytpgakkpmpnebnaa
open Go.RowKit Go.Maps
set_option maxHeartbeats 4000000
set_option maxRecDepth 100000
set_option linter.unusedVariables false
attribute [local irreducible] wpPlan

/-- A file that Files tells, in memory. -/
structure FlX where
  f : Fi
  A1 : Option Addr
  c1 : Nat
  A2 : Option Addr
  c2 : Nat
def FlX.cells (x : FlX) : List Value := [St x.f.nm, .slice x.A1 x.f.kp x.c1, .slice x.A2 (x.f.al.length - x.f.kp) x.c2]
theorem FlX.len (x : FlX) : x.cells.length = 3 := rfl
theorem FlX.one (x : FlX) : ∀ u ∈ x.cells, u.oneCell' = true := by intro u hu; simp [FlX.cells] at hu; rcases hu with rfl | rfl | rfl <;> rfl
def FxR (w : World) (F : Nat → Prop) (x : FlX) : Prop := BtR w F x.A1 x.c1 (x.f.al.take x.f.kp) ∧ BtR w F x.A2 x.c2 (x.f.al.drop x.f.kp)
theorem FxR.touch {w w' : World} {F S : Nat → Prop} {x : FlX} (h : FxR w F x) (t : Touch S w w') (hF : ∀ q, F q → ¬ S q) : FxR w' F x := ⟨h.1.touch t hF, h.2.touch t hF⟩
theorem FxR.mono {w : World} {F F' : Nat → Prop} {x : FlX} (h : FxR w F x) (hF : ∀ q, F q → F' q) : FxR w F' x := ⟨h.1.mono hF, h.2.mono hF⟩
theorem infoFl : (Try.prog.info? 90).map (fun i => (i.zero, i.size, i.bytes)) = some (some (.agg #[.string ByteArray.empty, .slice none 0 0, .slice none 0 0]), 3, 64) := by kernel_rfl
/-- What Files tells. -/
def FlsP (fs : List Fi) (w : World) (e : Ending) (w' : World) : Prop :=
  ∃ (xs : List FlX) (A : Option Addr) (c : Nat), e = .returned (.slice A xs.length c) ∧ xs.map FlX.f = fs ∧ RdZ w' (fun q => w.heap.size ≤ q ∧ q < w'.heap.size) 3 A xs.length (xs.flatMap FlX.cells) ∧ (∀ x ∈ xs, FxR w' (fun q => w.heap.size ≤ q ∧ q < w'.heap.size) x) ∧ Touch (fun _ => False) w w'
theorem Own.rdZ' {w : World} {e : TypeId} {sz : Nat} {v : Value} {r : Option Nat} {n : Nat} {xs : List Value} (h : Own w e sz v r n xs) : ∃ A c, v = .slice A n c ∧ RdZ w (fun k => r = some k) sz A n xs := by
  rcases h.2 with ⟨hv, hn, _⟩ | ⟨g, cap, cur, hr, hv, hb, hn, hc, hs, ht⟩
  · subst hn
    exact ⟨none, 0, hv, h.1, fun h0 => absurd h0 (by omega)⟩
  · refine ⟨_, cap, hv, h.1, fun _ => ⟨g, 0, rfl, hb.lt, hr, fun j u hu => ?_⟩⟩
    rw [Nat.zero_add, hb.cell]
    exact take_get ht hu
theorem Rd.bound {w : World} {F : Nat → Prop} {A : Option Addr} {n : Nat} {xs : List Value} (h : Rd w F A n xs) : Rd w (fun q => F q ∧ q < w.heap.size) A n xs :=
  ⟨h.1, fun h0 => by
    obtain ⟨g, off, e, hl, hF, hc⟩ := h.2 h0
    exact ⟨g, off, e, hl, ⟨hF, hl⟩, hc⟩⟩
theorem dfiles_any {w : World} {g b m : Nat} {D : Dk} {F : Nat → Prop} (h : DkAt w g b m D F) :
    Calls Try.prog 42 #[.pointer (some ⟨g, 0, none⟩)] w (FlsP D.fs w) := by
  have HNm := Lib.hid (dnames_any h)
  unfold NmsP at HNm
  have HH := Lib.hid h
  have HOk := Lib.hid h.ok
  have hFl := h.fl
  have hlt := h.lt
  have hn128 := h.ok.n
  obtain ⟨i0, hi0, hz0, hz1, hz2⟩ := info_parts infoFl
  clear h
  go_enter Try.func42, Try.ntmps42
  go_wp2_with (go_at_call 35; go_must (refine HNm.out.mono ?_); rintro e w2 ⟨NA, nc, rfl, hrn, t2⟩
               have HRn := Lib.hid hrn
               have HT2 := Lib.hid t2
               have hs2 := t2.size
               clear hrn t2)
  go_loopw [2, 9] (fun l s wr => ∃ (i : Nat) (xs : List FlX) (r : Option Nat), i ≤ D.fs.length ∧ s = .int .i64 i ∧ xs.map FlX.f = D.fs.take i ∧ Own wr 90 3 l r i (xs.flatMap FlX.cells) ∧ (∀ x ∈ xs, FxR wr (fun q => w2.heap.size ≤ q ∧ r ≠ some q ∧ q < wr.heap.size) x) ∧ (∀ q, r = some q → w2.heap.size ≤ q) ∧ Touch (fun _ => False) w2 wr) (fun _ s _ => D.fs.length - (intOf s).toNat)
  case atStart => exact ⟨0, [], none, by omega, rfl, by simp, Own.nil _ _ _, (fun _ h => by cases h), (fun _ h => by cases h), Touch.refl _ _⟩
  case round =>
    clear HNm
    obtain ⟨i, xs, r, hi, rfl, hxf, ho, hxr, hr, hT⟩ := hrel
    have hTs := hT.size
    by_cases hin : i < D.fs.length
    · obtain ⟨f, hf⟩ : ∃ f, D.fs[i]? = some f := ⟨_, List.getElem?_eq_getElem hin⟩
      obtain ⟨gn, on, rfl, hgl, hgR, hgc⟩ := HRn.out.2 (by omega)
      have hnm := (hT.cell (p := ⟨gn, on + i, none⟩) hgl (fun e => e)).trans (hgc i (St f.nm) (by simp [namesOf, hf]))
      have hfm : f ∈ D.fs := List.mem_of_getElem? hf
      have hfo := HOk.out.nm f hfm
      have hd := HH.out.far (HT2.out.trans hT (fun _ _ e => e))
      have hal : f.al.length ≤ 1048576 := Nat.le_trans (len_le_tot hfm) HOk.out.tot
      obtain ⟨Af, cf, hlk, hbr⟩ := hd.mp.look (HOk.out.inS f hfm) (getF_of HOk.out.so hfm)
      have hcf := hbr.2
      have q0 := hd.blk.cell 0
      simp [dkA] at q0
      obtain ⟨wp, hwp⟩ : ∃ wp, wp = wr.alloc (.cells #[.slice Af f.al.length cf, .int .i64 (f.kp : Int)] 149) := ⟨_, rfl⟩
      have hbp : Blk wp wr.heap.size 149 #[.slice Af f.al.length cf, .int .i64 (f.kp : Int)] := hwp ▸ Blk.new wr _ _
      obtain ⟨W, hW⟩ : ∃ W, W = wp.drew := ⟨_, rfl⟩
      have tpW : Touch (fun _ => False) wp W := hW ▸ (Touch.refl _ _).drew
      have tW : Touch (fun _ => False) wr W := (show Touch (fun _ => False) wr wp from hwp ▸ (Touch.refl (fun _ => False) wr).alloc _).trans tpW (fun _ _ e => e)
      have hsW : wr.heap.size < W.heap.size := by have := tpW.size; rw [hwp] at this; simp at this; omega
      have hpW := tpW.blk hbp (fun e => e)
      have x0 := hpW.cell 0
      have x1 := hpW.cell 1
      simp at x0 x1
      have hpl := hpW.lt
      have hol := ho.lt
      have hpr : ¬ r = some wr.heap.size := fun e => by have := hol _ e; omega
      have HWp := Lib.hid hwp
      have HTW := Lib.hid tW
      have HO := Lib.hid ho
      have HXf := Lib.hid hxf
      have HXr := Lib.hid hxr
      have HR := Lib.hid hr
      have HT := Lib.hid hT
      have HBr := Lib.hid (hbr.touch tW (fun _ _ e => e))
      have HD := Lib.hid hd
      have HF := Lib.hid hf
      have hsl := slice_h 88 Try.underlying88 size8 Af f.al.length cf f.kp (by omega)
      have hsm := slice_l 88 Try.underlying88 size8 Af f.al.length cf f.kp (by omega)
      obtain ⟨A0, c0, hv0, -⟩ := ho.form
      subst hv0
      have hFlr : ∀ q, F q → q < wr.heap.size := HD.out.fl
      unfold ctA at hlk
      clear ho hxf hxr hr hT hbr hd hf hfm hwp hbp tpW tW hpW
      go_wp2_with fail
      rw [← HWp.out]
      refine wp_region_plan [(0, 2), (0, 3), (0, 4), (0, 5), (0, 6), (1, 0), (1, 1), (1, 8), (1, 9), (1, 10), (1, 11), (1, 12), (2, 7), (2, 13), (0, 14), (2, 15), (2, 16), (0, 17)] (fun q => r = some q) (by kernel_rfl) (by kernel_rfl) (fun c a d v w h => by cases d <;> exact h) ?_
      rw [← hW]
      clear hW
      iterate 5
        refine plan_s1 rfl (by rfl) (fun Kc hKc => ?_)
        go_simp
        first
          | (refine hKc _ ?_)
        clear hKc Kc
      iterate 7
        apply plan_h
        · rfl
        · rfl
        · intro wh hT
          have hf0 := (hT.cell (p := ⟨wr.heap.size, 0, none⟩) hpl hpr).trans x0
          have hf1 := (hT.cell (p := ⟨wr.heap.size, 1, none⟩) hpl hpr).trans x1
          go_simp
          try rfl
        go_frame
      refine plan_a1 rfl (by rfl) (fun Kc hKc => ?_)
      go_simp
      have hl1 : (f.al.take f.kp).length = f.kp := by simp; omega
      have hl2 : (f.al.drop f.kp).length = f.al.length - f.kp := by simp
      refine (clone_any F (baseA Af 0 cf) f.kp cf (f.al.take f.kp) _ (by rw [List.map_take]; exact HBr.out.1.hm (by omega)) (by omega)).mono ?_
      rintro e u1 ⟨B1, d1, rfl, k1, k2, hr1, s1⟩
      rw [List.length_map, hl1] at k1 hr1 ⊢
      refine hKc _ _ ⟨s1.mono (fun _ _ e => e.elim), ?_⟩
      clear hKc Kc
      have HR1 := Lib.hid (And.intro k1 (And.intro k2 hr1))
      have HS1 := Lib.hid s1
      have hz1' := s1.size
      have HB1 := Lib.hid (HBr.out.touch s1 (fun _ _ e => e))
      clear k1 k2 hr1 s1 x0 x1
      refine plan_a1 rfl (by rfl) (fun Kc hKc => ?_)
      go_simp
      refine (clone_any F (baseA Af f.kp cf) (f.al.length - f.kp) (cf - f.kp) (f.al.drop f.kp) _ (by rw [List.map_drop]; exact HB1.out.1.lm (by omega) (by omega)) (by omega)).mono ?_
      rintro e u2 ⟨B2, d2, rfl, k1, k2, hr2, s2⟩
      rw [List.length_map, hl2] at k1 hr2 ⊢
      refine hKc _ _ ⟨s2.mono (fun _ _ e => e.elim), ?_⟩
      clear hKc Kc
      have HR2 := Lib.hid (And.intro k1 (And.intro k2 hr2))
      have HS2 := Lib.hid s2
      have hz2' := s2.size
      clear k1 k2 hr2 s2 hsl hsm
      iterate 1
        refine plan_s1 rfl (by rfl) (fun Kc hKc => ?_)
        go_simp
        first
          | (refine hKc _ ?_)
        clear hKc Kc
      refine plan_a1 rfl (by rfl) (fun Kc hKc => ?_)
      go_simp
      refine hKc _ _ ⟨(Touch.refl _ u2).alloc _, ?_⟩
      clear hKc Kc
      obtain ⟨x, hx⟩ : ∃ x : FlX, x = ⟨f, B1, d1, B2, d2⟩ := ⟨_, rfl⟩
      obtain ⟨u3, hu⟩ : ∃ u3, u3 = u2.alloc (.cells #[St f.nm, .slice B1 f.kp d1, .slice B2 (f.al.length - f.kp) d2] 90) := ⟨_, rfl⟩
      have ta : Touch (fun _ => False) u2 u3 := hu ▸ (Touch.refl (fun _ => False) u2).alloc _
      have hb3 : Blk u3 u2.heap.size 90 #[St f.nm, .slice B1 f.kp d1, .slice B2 (f.al.length - f.kp) d2] := hu ▸ Blk.new u2 _ _
      have hs3 : u3.heap.size = u2.heap.size + 1 := by rw [hu]; simp
      rw [← hu]
      have tw3 := ((HTW.out.trans HS1.out (fun _ _ e => e)).trans HS2.out (fun _ _ e => e)).trans ta (fun _ _ e => e)
      have HT3 := Lib.hid tw3
      have HO3 := Lib.hid (HO.out.touch tw3 (fun _ _ e => e))
      have HB3 := Lib.hid hb3
      have HTa := Lib.hid ta
      have HX := Lib.hid hx
      clear tw3 hb3 ta hu hx
      refine plan_a1 rfl (by rfl) (fun Kc hKc => ?_)
      refine wp_own_append _ _ 84 84 rfl 90 i0 _ 3 64 Try.underlying84 hi0 hz0 hz1 hz2 rfl _ r i (xs.flatMap FlX.cells) rfl (by exact HO3.out) (.slice (some ⟨u2.heap.size, 0, none⟩) 1 1) 1 x.cells rfl (by have := Src.lit (sz := 3) Try.underlying84 u2.heap.size 1 1 90 _ HB3.out rfl (by rw [show (#[St f.nm, .slice B1 f.kp d1, .slice B2 (f.al.length - f.kp) d2] : Array Value).toList = x.cells from by rw [HX.out]; rfl]; exact x.one); rwa [show (#[St f.nm, .slice B1 f.kp d1, .slice B2 (f.al.length - f.kp) d2] : Array Value).toList = x.cells from by rw [HX.out]; rfl] at this) (by simp only [maxLen]; omega) (by omega) ?_
      intro v9 r9 u4 ho9 t9 hr9
      refine hKc _ _ ⟨t9, ?_⟩
      clear hKc Kc
      obtain ⟨A9, c9, hv9, -⟩ := ho9.form
      subst hv9
      have HO9 := Lib.hid ho9
      have HT9 := Lib.hid t9
      have HR9 := Lib.hid hr9
      have hs9 := t9.size
      clear ho9 t9 hr9
      iterate 1
        refine plan_s1 rfl (by rfl) (fun Kc hKc => ?_)
        go_simp
        first
          | (refine hKc _ ?_)
        clear hKc Kc
      refine plan_done ?_
      go_wp2
      go_roundw
      case rel =>
        have hrr : ∀ q, q < u3.heap.size → r ≠ some q → r9 ≠ some q := fun q hq hne e => by
          rcases HR9.out with e' | ⟨k, e', hk⟩
          · exact hne (e' ▸ e)
          · rw [e] at e'; injection e' with e'; omega
        have hrl : ∀ q, W.heap.size ≤ q → r ≠ some q := fun q hq e => by have := hol q e; omega
        refine ⟨i + 1, xs ++ [x], r9, by omega, by simp, ?_, by simpa using HO9.out, fun y hy => ?_, fun q hq => ?_, (HT.out.trans HT3.out (fun _ _ e => e)).trans HT9.out (fun q hq e => by have := HR.out q e; omega)⟩
        · rw [List.map_append, HXf.out, List.take_add_one, HF.out, HX.out]; rfl
        · rcases List.mem_append.1 hy with h | h
          · exact (((HXr.out y h).touch HT3.out (fun _ _ e => e)).touch HT9.out (fun q hq e => hq.2.1 e)).mono (fun q hq => ⟨hq.1, hrr q (by have := HT3.out.size; omega) hq.2.1, by have := HT3.out.size; omega⟩)
          · obtain rfl : y = x := by simpa using h
            rw [HX.out]
            have hb1 : Rd u4 (fun q => W.heap.size ≤ q ∧ q < u1.heap.size) B1 f.kp ((f.al.take f.kp).map B8) := (HR1.out.2.2.bound.touch (HS2.out.trans HTa.out (fun _ _ e => e)) (fun _ _ e => e)).touch HT9.out (fun q hq e => hrl q hq.1 e)
            have hb2 : Rd u4 (fun q => u1.heap.size ≤ q ∧ q < u2.heap.size) B2 (f.al.length - f.kp) ((f.al.drop f.kp).map B8) := (HR2.out.2.2.bound.touch HTa.out (fun _ _ e => e)).touch HT9.out (fun q hq e => hrl q (by omega) e)
            refine ⟨⟨?_, by rw [hl1]; exact HR1.out.1, HR1.out.2.1⟩, ⟨?_, by rw [hl2]; exact HR2.out.1, HR2.out.2.1⟩⟩
            · rw [hl1]; exact hb1.mono (fun q hq => ⟨by omega, hrr q (by omega) (hrl q hq.1), by omega⟩)
            · rw [hl2]; exact hb2.mono (fun q hq => ⟨by omega, hrr q (by omega) (hrl q (by omega)), by omega⟩)
        · rcases HR9.out with e' | ⟨k, e', hk⟩
          · exact HR.out q (e' ▸ hq)
          · rw [hq] at e'; injection e' with e'; omega
      case measure => simp [intOf]; omega
    · obtain rfl : i = D.fs.length := by omega
      obtain ⟨A0, c0, hv0, hrd⟩ := ho.rdZ'
      subst hv0
      have hol := ho.lt
      have HRd := Lib.hid hrd
      have HXf := Lib.hid hxf
      have HXr := Lib.hid hxr
      have HR := Lib.hid hr
      have HT := Lib.hid hT
      clear ho hxf hxr hr hT hrd
      go_wp2
      go_ret
      have hxl : xs.length = D.fs.length := by have := congrArg List.length HXf.out; simpa using this
      refine ⟨xs, A0, c0, by rw [hxl]; rfl, by rw [HXf.out, List.take_length], ?_, fun x hx => (HXr.out x hx).mono (fun q hq => ⟨by omega, hq.2.2⟩), HT2.out.trans HT.out (fun _ _ e => e)⟩
      rw [hxl]
      obtain ⟨h1, h2⟩ := HRd.out
      refine ⟨h1, fun h0 => ?_⟩
      obtain ⟨gq, oq, e, hl, hF, hc⟩ := h2 h0
      exact ⟨gq, oq, e, hl, ⟨by have := HR.out gq hF; omega, hl⟩, hc⟩
end Go.Proofs.Ytpgakkpmpnebnaa
