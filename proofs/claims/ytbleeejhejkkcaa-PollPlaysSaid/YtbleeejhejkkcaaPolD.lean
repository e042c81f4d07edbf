/- A poll: New; the nil poll and the zero one; law32.lives; the walk of PollNobody. -/
import Derived.Test.YtbleeejhejkkcaaPolC
import Derived.Carry
namespace Go.Proofs.Ytbleeejhejkkcaa
open Go.RowKit
set_option maxHeartbeats 4000000
set_option maxRecDepth 100000
set_option linter.unusedVariables false

theorem iclone_any (F : Nat → Prop) (A : Option Addr) (n c : Nat) (l : List Int) (w : World) (h : Rd w F A n (l.map I64)) (hn : n ≤ 1000000) :
    Calls Try.prog 39 #[.slice A n c] w (NewSl w (l.map I64)) := by
  have hl := h.1
  rcases A with _ | ad
  · have h0 : n = 0 := by
      rcases Nat.eq_zero_or_pos n with h0 | h0
      · exact h0
      · obtain ⟨_, _, e, _⟩ := h.2 h0; cases e
    subst h0
    have hx : l.map I64 = [] := List.eq_nil_of_length_eq_zero hl
    rw [hx]
    clear h hl hx
    have hbin : ∀ w, (binOp .eql 22 (.slice none 0 c) (.slice none 0 0)).run Try.prog w = .ok (.bool true) w := fun w => by first | rfl | simp [go_sem]
    go_enter Try.func39, Try.ntmps39
    go_wp2
    go_ret
    exact ⟨none, 0, rfl, Nat.le_refl _, by simp, Rd.nil _ _ _, Touch.refl _ _⟩
  · have hadd := Lib.hid h.add
    have Hn := Lib.hid (show ∀ j u, (l.map I64)[j]? = some u → (w.alloc (.cells #[] 3)).cell? (ad.add j) = some u from fun j u hj => (World.cell?_alloc_lt _ _ _ (World.block_lt_of_cell? w _ (h.add j u hj))).trans (h.add j u hj))
    have h1 := Lib.hid (I64_one l)
    obtain ⟨i0, hi, hz0, hz1, hz2⟩ := info_parts infoI
    have hown := World.ownsRow_lit w (base := w.heap.size) (e := 3) (size := 1) #[] 0 (Nat.le_refl _) (by simp) (by simp)
    subst hl
    clear h
    generalize l.map I64 = xs at *
    have hbin : ∀ w, (binOp .eql 22 (.slice (some ad) xs.length c) (.slice none 0 0)).run Try.prog w = .ok (.bool false) w := fun w => by first | rfl | simp [go_sem]
    go_enter Try.func39, Try.ntmps39
    go_wp2_with (at_builtin; go_must (refine wpList_append_own _ rfl _ _ 22 rfl w.heap.size 3 i0 (.int .i64 0) 1 8 Try.underlying22 hi hz0 hz1 hz2 rfl (by decide) _ _ _ rfl hown ad xs.length c xs rfl (by simp) Hn.out h1.out (by simp only [maxLen]; omega) (by omega) (by simp) ?_); intro v' w1 hown1 hg1 _)
    go_ret
    have hz : w1.ownsRow w.heap.size 3 1 v' xs.length xs := by simpa using hown1
    obtain ⟨A', c', hv, hn1, hc1, hr⟩ := Rd.of_own hz
    refine ⟨A', c', by rw [← hv]; rfl, hn1, hc1, hr.mono (fun k hk => (hz.lt k hk).1), ?_⟩
    refine ((Touch.refl _ w).alloc _).trans (Touch.of_grown hg1) (fun k hk e => ?_)
    injection e with e
    simp at e
    omega
theorem Rd.near {w : World} {F : Nat → Prop} {A : Option Addr} {n : Nat} {xs : List Value} (h : Rd w F A n xs) : Rd w (fun k => F k ∧ k < w.heap.size) A n xs :=
  ⟨h.1, fun hn => by obtain ⟨g, off, e, hl, hf, hc⟩ := h.2 hn; exact ⟨g, off, e, hl, ⟨hf, hl⟩, hc⟩⟩
def NewP (L : List Int) (w : World) (e : Ending) (w' : World) : Prop :=
  ∃ (g b : Nat) (F : Nat → Prop), e = .returned (.pointer (some ⟨g, 0, none⟩)) ∧ PlAt w' g L b 0 (fun _ => none) F ∧ w.heap.size ≤ g ∧ w.heap.size ≤ b ∧ (∀ k, F k → w.heap.size ≤ k) ∧ Touch (fun _ => False) w w'
theorem pnew_no (F : Nat → Prop) (A : Option Addr) (c : Nat) (L : List Int) (w : World) (hr : Rd w F A L.length (L.map I64)) (hsm : L.length ≤ 1000) (hs : Row.soundB L = false) :
    Calls Try.prog 11 #[.slice A L.length c] w fun e w' => e = .returned (.pointer none) ∧ Touch (fun _ => False) w w' := by
  have HS := Lib.hid (msound_any F A c L w hr (by omega))
  rw [hs] at HS
  clear hr hs
  go_enter Try.func11, Try.ntmps11
  go_wp2_with (go_at_call 38; go_must (refine HS.out.mono ?_); rintro e w1 ⟨rfl, t1⟩; have HT := Lib.hid t1; clear t1)
  go_ret
  exact ⟨rfl, HT.out⟩
theorem pnew_yes (F : Nat → Prop) (A : Option Addr) (c : Nat) (L : List Int) (w : World) (hr : Rd w F A L.length (L.map I64)) (hsm : L.length ≤ 1000) (hs : Row.soundB L = true) :
    Calls Try.prog 11 #[.slice A L.length c] w (NewP L w) := by
  have HS := Lib.hid (msound_any F A c L w hr (by omega))
  rw [hs] at HS
  have HR := Lib.hid hr
  have hmm := @run_makeMap Try.prog
  clear hr hs
  go_enter Try.func11, Try.ntmps11
  go_wp2_with (first
    | (go_at_call 38; go_must (refine HS.out.mono ?_); rintro e w1 ⟨rfl, t1⟩; have HT := Lib.hid t1; clear t1)
    | (go_at_call 39; go_must (refine (iclone_any F A L.length c L _ (by exact HR.out.touch HT.out (fun _ _ e => e)) (by omega)).mono ?_); rintro e w2 ⟨A2, c2, rfl, -, -, hr2, t2⟩; rw [List.length_map] at hr2 ⊢; have hz1 := HT.out.size; have HT := Lib.hid (HT.out.trans t2 (fun _ _ e => e)); have HR2 := Lib.hid hr2.near; clear hr2 t2))
  go_ret
  have hz2 := HT.out.size
  have ta : Touch (fun _ => False) w2 ((w2.alloc (.map #[] 0)).alloc (.cells #[.slice A2 L.length c2, .map (some w2.heap.size)] 46)) := ((Touch.refl _ w2).alloc _).alloc _
  refine ⟨w2.heap.size + 1, w2.heap.size, _, rfl, ⟨⟨A2, c2, by simpa using Blk.new (w2.alloc (.map #[] 0)) 46 #[.slice A2 L.length c2, .map (some w2.heap.size)], HR2.out.touch ta (fun _ _ e => e)⟩, (MapI.new w2).touch ((Touch.refl (fun _ => False) _).alloc _) (fun e => e), by omega, ⟨fun h => by have := h.2; omega, fun h => by have := h.2; omega⟩⟩, by omega, hz2, fun k hk => by have := hk.1; omega, HT.out.trans ta (fun _ _ e => e)⟩
/-- Nobody's poll: nil, or one that no call made. -/
def NobAt (w : World) (p : Value) : Prop := p = .pointer none ∨ ∃ g, p = .pointer (some ⟨g, 0, none⟩) ∧ Blk w g 46 #[.slice none 0 0, .map none]
theorem nob_none (w : World) (p : Value) (h : NobAt w p) : Calls Try.prog 43 #[p] w fun e w' => e = .returned (.bool true) ∧ w = w' := by
  rcases h with rfl | ⟨g, rfl, hb⟩
  · go_enter Try.func43, Try.ntmps43
    go_wp2
    go_ret
    exact ⟨rfl, rfl⟩
  · have q1 := hb.cell 1
    simp at q1
    clear hb
    have hbin : ∀ w, (binOp .eql 44 (.map none) (.map none)).run Try.prog w = .ok (.bool true) w := fun w => by first | rfl | simp [go_sem]
    go_enter Try.func43, Try.ntmps43
    go_wp2
    go_ret
    exact ⟨rfl, rfl⟩
theorem nob_note (w : World) (p : Value) (h : NobAt w p) (k : Int) (ok : Bool) : Calls Try.prog 14 #[p, .int .i64 k, .bool ok] w fun e w' => e = .returned (.bool false) ∧ w = w' := by
  have HN := Lib.hid (nob_none w p h)
  clear h
  go_enter Try.func14, Try.ntmps14
  go_wp2_with (go_at_call 43; go_must (refine HN.out.mono ?_); rintro e w1 ⟨rfl, rfl⟩)
  go_ret
  exact ⟨rfl, rfl⟩
theorem nob_state (w : World) (p : Value) (h : NobAt w p) : Calls Try.prog 15 #[p] w fun e w' => e = .returned (.int .i64 3) ∧ w = w' := by
  have HN := Lib.hid (nob_none w p h)
  clear h
  go_enter Try.func15, Try.ntmps15
  go_wp2_with (go_at_call 43; go_must (refine HN.out.mono ?_); rintro e w1 ⟨rfl, rfl⟩)
  go_ret
  exact ⟨rfl, rfl⟩
theorem nob_who (w : World) (p : Value) (h : NobAt w p) (what : Int) : Calls Try.prog 47 #[p, .int .i64 what] w fun e w' => e = .returned (.slice none 0 0) ∧ w = w' := by
  have HN := Lib.hid (nob_none w p h)
  clear h
  go_enter Try.func47, Try.ntmps47
  go_wp2_with (go_at_call 43; go_must (refine HN.out.mono ?_); rintro e w1 ⟨rfl, rfl⟩)
  go_ret
  exact ⟨rfl, rfl⟩
theorem nob_yes (w : World) (p : Value) (h : NobAt w p) : Calls Try.prog 18 #[p] w fun e w' => e = .returned (.slice none 0 0) ∧ w = w' := by
  have HN := Lib.hid (nob_who w p h 1)
  clear h
  go_enter Try.func18, Try.ntmps18
  go_wp2_with (go_at_call 47; go_must (refine HN.out.mono ?_); rintro e w1 ⟨rfl, rfl⟩)
  go_ret
  exact ⟨rfl, rfl⟩
theorem nob_no (w : World) (p : Value) (h : NobAt w p) : Calls Try.prog 19 #[p] w fun e w' => e = .returned (.slice none 0 0) ∧ w = w' := by
  have HN := Lib.hid (nob_who w p h 2)
  clear h
  go_enter Try.func19, Try.ntmps19
  go_wp2_with (go_at_call 47; go_must (refine HN.out.mono ?_); rintro e w1 ⟨rfl, rfl⟩)
  go_ret
  exact ⟨rfl, rfl⟩
end Go.Proofs.Ytbleeejhejkkcaa
