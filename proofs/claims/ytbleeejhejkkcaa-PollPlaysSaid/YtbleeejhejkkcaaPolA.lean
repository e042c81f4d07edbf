/- A poll: its state, none, Note. -/
import Derived.Test.YtbleeejhejkkcaaMemA
import Derived.Test.YtbleeejhejkkcaaIMap
namespace Go.Proofs.Ytbleeejhejkkcaa
open Go.RowKit
set_option maxHeartbeats 4000000
set_option maxRecDepth 100000
set_option linter.unusedVariables false

structure PlAt (w : World) (g : Nat) (L : List Int) (b n : Nat) (f : Int → Option Int) (F : Nat → Prop) : Prop where
  blk : ∃ A c, Blk w g 46 #[.slice A L.length c, .map (some b)] ∧ Rd w F A L.length (L.map I64)
  map : MapI w b n f
  ne : b ≠ g
  nF : ¬ F g ∧ ¬ F b
theorem PlAt.touch {w w' : World} {g : Nat} {L : List Int} {b n : Nat} {f : Int → Option Int} {F S : Nat → Prop} (h : PlAt w g L b n f F) (t : Touch S w w') (h1 : ¬ S g) (h2 : ¬ S b) (h3 : ∀ k, F k → ¬ S k) : PlAt w' g L b n f F := by
  obtain ⟨⟨A, c, hb, hr⟩, hm, hn, hF⟩ := h
  exact ⟨⟨A, c, t.blk hb h1, hr.touch t h3⟩, hm.touch t h2, hn, hF⟩
theorem MapI.mono {w : World} {b n n' : Nat} {f : Int → Option Int} (h : MapI w b n f) (hn : n ≤ n') : MapI w b n' f := by
  obtain ⟨D, h, hs⟩ := h
  exact ⟨D, h.mono hn, hs⟩
theorem PlAt.mono {w : World} {g : Nat} {L : List Int} {b n n' : Nat} {f : Int → Option Int} {F : Nat → Prop} (h : PlAt w g L b n f F) (hn : n ≤ n') : PlAt w g L b n' f F := ⟨h.blk, h.map.mono hn, h.ne, h.nF⟩
/-- The map turns. -/
theorem PlAt.turn {w w' : World} {g : Nat} {L : List Int} {b n m : Nat} {f f' : Int → Option Int} {F : Nat → Prop} (h : PlAt w g L b n f F) (t : Touch (fun q => q = b) w w') (hm : MapI w' b m f') : PlAt w' g L b m f' F := by
  obtain ⟨⟨A, c, hb, hr⟩, _, hn, hF⟩ := h
  exact ⟨⟨A, c, t.blk hb (fun e => hn e.symm), hr.touch t (fun k hk e => hF.2 (e ▸ hk))⟩, hm, hn, hF⟩

theorem pnone_any (g : Nat) (L : List Int) (b n : Nat) (f : Int → Option Int) (F : Nat → Prop) (w : World) (h : PlAt w g L b n f F) :
    Calls Try.prog 43 #[.pointer (some ⟨g, 0, none⟩)] w fun e w' => e = .returned (.bool false) ∧ w = w' := by
  obtain ⟨⟨A, c, hb, hr⟩, _⟩ := h
  have q1 := hb.cell 1
  simp at q1
  clear hb hr
  have hbin : ∀ w, (binOp .eql 44 (.map (some b)) (.map none)).run Try.prog w = .ok (.bool false) w := fun w => by first | rfl | simp [go_sem]
  go_enter Try.func43, Try.ntmps43
  go_wp2
  go_ret
  exact ⟨rfl, rfl⟩

def noteB (L : List Int) (f : Int → Option Int) (k : Int) : Bool := L.contains k && (f k == none || f k == some 0)
def noteF (L : List Int) (f : Int → Option Int) (k : Int) (ok : Bool) : Int → Option Int := if noteB L f k = true then setI f k (if ok then 1 else 2) else f
def NotePost (g : Nat) (L : List Int) (b n : Nat) (f : Int → Option Int) (F : Nat → Prop) (k : Int) (ok : Bool) (w : World) (e : Ending) (w' : World) : Prop :=
  e = .returned (.bool (noteB L f k)) ∧ PlAt w' g L b (n + 2) (noteF L f k ok) F ∧ Touch (fun q => q = b) w w' ∧ (noteB L f k = false → w = w')
theorem setI_twice (f : Int → Option Int) (k u v : Int) : setI (setI f k u) k v = setI f k v := by
  funext i; simp only [setI]; split <;> rfl
theorem pnote_any (g : Nat) (L : List Int) (b n : Nat) (f : Int → Option Int) (F : Nat → Prop) (k : Int) (ok : Bool) (w : World) (h : PlAt w g L b n f F) (hk : inI k) (hn : n + 2 ≤ 100000) (hsm : L.length ≤ 1000) :
    Calls Try.prog 14 #[.pointer (some ⟨g, 0, none⟩), .int .i64 k, .bool ok] w (NotePost g L b n f F k ok w) := by
  have HN := Lib.hid (pnone_any g L b n f F w h)
  have H := Lib.hid h
  have HK := Lib.hid hk
  obtain ⟨⟨A, c, hb, hr⟩, hm, hne, hF⟩ := h
  have HM := Lib.hid hm
  have HH := Lib.hid (mhas_any F A c L k w hr (by omega))
  have q0 := hb.cell 0; have q1 := hb.cell 1
  simp at q0 q1
  clear hb hr hm hF hk
  cases hc : L.contains k
  · have HB := Lib.hid (show noteB L f k = false by rw [noteB, hc]; rfl)
    rw [hc] at HH
    clear hc
    go_enter Try.func14, Try.ntmps14
    go_wp2_with (first
      | (go_at_call 43; go_must (refine HN.out.mono ?_); rintro e w1 ⟨rfl, rfl⟩)
      | (go_at_call 44; go_must (refine HH.out.mono ?_); rintro e w1 ⟨rfl, rfl⟩))
    go_ret
    refine ⟨ret_bool HB.out.symm, ?_, Touch.refl _ _, fun _ => rfl⟩
    rw [noteF, HB.out]; exact H.out.mono (by omega)
  · rw [hc] at HH
    by_cases h0 : (f k).getD 0 = 0
    · have HB := Lib.hid (show noteB L f k = true by
        rw [noteB, hc, Bool.true_and]
        cases hf : f k with
        | none => rfl
        | some v => rw [hf] at h0; simp at h0; subst h0; rfl)
      have HV := Lib.hid h0
      clear hc h0
      have hlook := HM.out.look k HK.out
      rw [HV.out] at hlook
      cases ok
      · go_enter Try.func14, Try.ntmps14
        go_wp2_with (first
          | (go_at_call 43; go_must (refine HN.out.mono ?_); rintro e w1 ⟨rfl, rfl⟩)
          | (go_at_call 44; go_must (refine HH.out.mono ?_); rintro e w1 ⟨rfl, rfl⟩)
          | (at_mapUpdate; refine storeI _ rfl _ _ _ rfl b n f rfl HM.out (by omega) k 2 rfl rfl HK.out (by constructor <;> decide) ?_; intro w1 hm1 t1; have HM1 := Lib.hid hm1; have HT1 := Lib.hid t1; clear hm1 t1; go_frame))
        go_ret
        refine ⟨ret_bool HB.out.symm, ?_, HT1.out, fun h => by rw [HB.out] at h; cases h⟩
        rw [noteF, HB.out]; exact (H.out.turn HT1.out HM1.out).mono (by omega)
      · go_enter Try.func14, Try.ntmps14
        go_wp2_with (first
          | (go_at_call 43; go_must (refine HN.out.mono ?_); rintro e w1 ⟨rfl, rfl⟩)
          | (go_at_call 44; go_must (refine HH.out.mono ?_); rintro e w1 ⟨rfl, rfl⟩)
          | (at_mapUpdate; have M9 := HM1; refine storeI _ rfl _ _ _ rfl b (n + 1) (setI f k 2) rfl HM1.out (by omega) k 1 rfl rfl HK.out (by constructor <;> decide) ?_; intro w2 hm2 t2; have HM2 := Lib.hid hm2; have HT2 := Lib.hid (HT1.out.trans t2 (fun _ _ e => e)); clear hm2 t2; go_frame)
          | (at_mapUpdate; refine storeI _ rfl _ _ _ rfl b n f rfl HM.out (by omega) k 2 rfl rfl HK.out (by constructor <;> decide) ?_; intro w1 hm1 t1; have HM1 := Lib.hid hm1; have HT1 := Lib.hid t1
             have q1 := (H.out.turn t1 hm1).blk.choose_spec.choose_spec.1.cell 1
             simp at q1
             clear hm1 t1; go_frame))
        go_ret
        refine ⟨ret_bool HB.out.symm, ?_, HT2.out, fun h => by rw [HB.out] at h; cases h⟩
        rw [noteF, HB.out]
        have := H.out.turn HT2.out HM2.out
        rw [setI_twice] at this
        exact this
    · have HB := Lib.hid (show noteB L f k = false by
        rw [noteB, hc, Bool.true_and]
        cases hf : f k with
        | none => rw [hf] at h0; exact absurd rfl h0
        | some v => rw [hf] at h0; simp at h0 ⊢; exact h0)
      obtain ⟨v, hv⟩ : ∃ v, v = (f k).getD 0 := ⟨_, rfl⟩
      have HV := Lib.hid hv.symm
      rw [← hv] at h0
      have hlook := HM.out.look k HK.out
      rw [HV.out] at hlook
      clear hc hv
      go_enter Try.func14, Try.ntmps14
      go_wp2_with (first
        | (go_at_call 43; go_must (refine HN.out.mono ?_); rintro e w1 ⟨rfl, rfl⟩)
        | (go_at_call 44; go_must (refine HH.out.mono ?_); rintro e w1 ⟨rfl, rfl⟩))
      go_ret
      refine ⟨ret_bool HB.out.symm, ?_, Touch.refl _ _, fun _ => rfl⟩
      rw [noteF, HB.out]; exact H.out.mono (by omega)
end Go.Proofs.Ytbleeejhejkkcaa
