/- A poll: slices.Sort at a row of the call's own; who, Yes, No. -/
import Derived.Test.YtbleeejhejkkcaaPolA
import Derived.Test.YtbleeejhejkkcaaPolL
import Derived.Test.YtbleeejhejkkcaaShelf
import Derived.Sort.OwnSortedInts
namespace Go.Proofs.Ytbleeejhejkkcaa
open Go.RowKit
set_option maxHeartbeats 4000000
set_option maxRecDepth 100000
set_option linter.unusedVariables false

theorem sortI_any (v : Value) (r : Option Nat) (xs : List Int) (w : World) (ho : Own w 3 1 v r xs.length (xs.map I64)) (hl : xs.length ≤ 1000) :
    Calls Try.prog 72 #[v] w fun e w' => e = .returned (.tuple #[]) ∧ Own w' 3 1 v r xs.length ((xs.mergeSort fun x y => decide (x ≤ y)).map I64) ∧ Touch (fun k => r = some k) w w' := by
  have hlen : (xs.mergeSort fun x y => decide (x ≤ y)).length = xs.length := List.length_mergeSort xs
  rcases ho.2 with ⟨hv, hn, hr⟩ | ⟨g, cap, cur, hr, hv, hb, hn, hc, hs, ht⟩
  · have hx : xs = [] := List.eq_nil_of_length_eq_zero hn
    subst hx hv hr
    refine (Try.slices_Sort_int_none none 0 w).mono ?_
    rintro e w' ⟨rfl, rfl⟩
    exact ⟨rfl, by simpa using Own.nil _ _ _, Touch.refl _ _⟩
  · subst hr hv
    rw [Nat.mul_one] at ht
    refine (Try.slices_Sort_int g 0 cap xs w (holds_of_blockI hb ht) hb.lt (by omega)).mono ?_
    rintro e w' ⟨rfl, n, os, rfl⟩
    refine ⟨rfl, ⟨by simp, .inr ⟨g, cap, _, rfl, rfl, Go.heap_sortedI _ hb, hn, hc, by simp [Go.Sort.putCells, hs], ?_⟩⟩, Touch.of_grown (grownBy_sortedI _)⟩
    rw [Nat.mul_one, ← hlen]
    exact take_putCellsI cur _ (by omega)

/-- Who said so. -/
def whoV (f : Int → Option Int) (what : Int) : List Int := Row.rowOf fun i => f (i : Int) == some what
def FNode (f : Int → Option Int) : Prop := ∀ k v, f k = some v → 0 ≤ k ∧ k < 7
def WhoIn (w0 wr : World) (g : Nat) (L : List Int) (b r n : Nat) (f : Int → Option Int) (F : Nat → Prop) (what : Int) (v : Value) : Prop :=
  ∃ (left : Int → Bool) (xs : List Int) (q : Option Nat), RangeI wr b r n f left ∧ Own wr 3 1 v q xs.length (xs.map I64) ∧ (∀ j, q = some j → w0.heap.size ≤ j) ∧ q ≠ some r ∧ w0.heap.size ≤ r ∧ Touch (fun _ => False) w0 wr ∧ xs.Nodup ∧ ∀ k, k ∈ xs ↔ f k = some what ∧ left k = false
theorem who_len {f : Int → Option Int} {what : Int} {xs : List Int} {left : Int → Bool} (hf : FNode f) (hn : xs.Nodup) (h : ∀ k, k ∈ xs ↔ f k = some what ∧ left k = false) : xs.length ≤ 7 :=
  nodup_len xs hn fun k hk => hf k what ((h k).1 hk).1
theorem rangeLeft_touch {w w' : World} {S : Nat → Prop} {b r : Nat} (t : Touch S w w') (hb : ¬ S b) (hr : ¬ S r) (hbl : b < w.heap.size) (hrl : r < w.heap.size) : w'.rangeLeft b r = w.rangeLeft b r := by
  unfold World.rangeLeft
  rw [t.block b hbl hb, t.block r hrl hr]
theorem RangeI.lt {w : World} {b r n : Nat} {f : Int → Option Int} {left : Int → Bool} (h : RangeI w b r n f left) : r < w.heap.size := by
  obtain ⟨D, lf, cnt, h, _⟩ := h
  exact h.lt
theorem who_any (g : Nat) (L : List Int) (b n : Nat) (f : Int → Option Int) (F : Nat → Prop) (what : Int) (w : World) (h : PlAt w g L b n f F) (hf : FNode f) :
    Calls Try.prog 47 #[.pointer (some ⟨g, 0, none⟩), .int .i64 what] w (NewSl w ((whoV f what).map I64)) := by
  have HN := Lib.hid (pnone_any g L b n f F w h)
  have H := Lib.hid h
  have HFN := Lib.hid hf
  obtain ⟨⟨A, c, hb, hr⟩, hm, hne, hF⟩ := h
  have HM := Lib.hid hm
  have q1 := hb.cell 1
  simp at q1
  have hbl := hm.lt
  clear hb hr hm hF hf
  go_enter Try.func47, Try.ntmps47
  go_wp2_with (first
    | (go_at_call 43; go_must (refine HN.out.mono ?_); rintro e w1 ⟨rfl, rfl⟩)
    | (at_range; refine rangeI _ rfl _ rfl b n f rfl HM.out ?_; intro w2 hrg t2; have HRg := Lib.hid hrg; have HT2 := Lib.hid t2; clear hrg t2; go_frame))
  obtain ⟨i0, hi, hz0, hz1, hz2⟩ := info_parts infoI
  obtain ⟨r, hr⟩ : ∃ r, r = w.heap.size := ⟨_, rfl⟩
  rw [← hr] at HRg ⊢
  have hrw : w.heap.size ≤ r := by omega
  have hbr : b ≠ r := by omega
  have HR0 := Lib.hid hr
  clear hr q1
  go_loopw [4] (fun v wr => WhoIn w wr g L b r n f F what v) (fun _ wr => wr.rangeLeft b r)
  case atStart => exact ⟨_, [], none, HRg.out, Own.nil _ _ _, (fun j e => by cases e), (fun e => by cases e), hrw, HT2.out, List.nodup_nil, fun k => ⟨(fun h => by cases h), (fun ⟨h1, h2⟩ => by rw [h1] at h2; cases h2)⟩⟩
  case round =>
    obtain ⟨left, xs, q, hrg, ho, hq, hqr, _, hT, hnd, hmem⟩ := hrel
    have hlen := who_len HFN.out hnd hmem
    obtain ⟨A0, c0, rfl, -, -⟩ := ho.form
    have HO := Lib.hid ho
    have HQ := Lib.hid (And.intro hq hqr)
    have HRr := Lib.hid hrg
    have HT := Lib.hid hT
    have HD := Lib.hid (And.intro hnd hmem)
    clear ho hq hqr hT hnd hmem hrg
    go_wp2_with (at_next; refine nextI _ rfl _ rfl b r n f left rfl HRr.out ?_ ?_)
    · intro h0
      have H0 := Lib.hid h0
      clear h0
      go_wp2_with (go_at_call 72; go_must (refine (sortI_any _ q xs _ (by exact HO.out) (by omega)).mono ?_); rintro e w3 ⟨rfl, ho3, t3⟩; have HO3 := Lib.hid ho3; have HT3 := Lib.hid t3; clear ho3 t3)
      go_ret
      obtain ⟨A1, c1, hv, hc1, hc2, -, hr1⟩ := HO3.out.rd
      injection hv with hv1 hv2 hv3
      subst hv1 hv3
      have hs : (xs.mergeSort fun x y => decide (x ≤ y)) = whoV f what := by
        refine sort_rowOf xs HD.out.1 _ (fun k => ?_)
        rw [HD.out.2 k]
        constructor
        · rintro ⟨h1, h2⟩
          have h3 := HFN.out k what h1
          exact ⟨k.toNat, by omega, by rw [Int.toNat_of_nonneg h3.1, h1]; simp, by omega⟩
        · rintro ⟨i, h1, h2, rfl⟩
          exact ⟨by simpa using h2, H0.out _ (by constructor <;> omega)⟩
      have hsl : (whoV f what).length = xs.length := by rw [← hs, List.length_mergeSort]
      rw [hs] at hr1
      have e1 : ((whoV f what).map I64).length = xs.length := by rw [List.length_map, hsl]
      exact ⟨A0, c0, (show Ending.returned (.slice A0 xs.length c0) = .returned (.slice A0 _ c0) from by rw [e1]), by rw [e1]; exact hc1, hc2, by rw [e1]; exact hr1.mono (fun k hk => HQ.out.1 k hk), HT.out.trans HT3.out (fun k hk e => by have := HQ.out.1 k e; omega)⟩
    · intro x c w3 hx hlx hfx hrg3 hlt t3 hen
      have HF3 := Lib.hid hfx
      have HX := Lib.hid hlx
      have HRr3 := Lib.hid hrg3
      have HT3 := Lib.hid t3
      have HLt := Lib.hid hlt
      clear hlx hfx hrg3 t3 hlt hx
      by_cases hcw : c = what
      · subst hcw
        have hnx : x ∉ xs := fun h => by have := ((HD.out.2 x).1 h).2; rw [HX.out] at this; cases this
        have HNX := Lib.hid hnx
        clear hnx
        have HB := Lib.hid (Blk.new w3 3 #[.int .i64 x])
        have HAl := Lib.hid ((Touch.refl (fun _ => False) w3).alloc (.cells #[.int .i64 x] 3))
        go_wp2_with (
          at_builtin
          go_must (refine wpList_own_append rfl _ _ 22 22 rfl 3 i0 (.int .i64 0) 1 8 Try.underlying22 hi hz0 hz1 hz2 rfl _ q xs.length (xs.map I64) rfl (by exact (HO.out.touch HT3.out (fun k hk e => HQ.out.2 (by rw [hk, e]))).touch HAl.out (fun _ _ e => e)) _ 1 [.int .i64 x] rfl (by exact Src.lit Try.underlying22 w3.heap.size 1 1 3 #[.int .i64 x] HB.out rfl (fun u hu => by simp at hu; subst hu; rfl)) (by simp only [maxLen]; omega) (by omega) ?_)
          intro v1 r1 w4 ho4 ht4 hr4
          have HR4 := Lib.hid (And.intro ho4 (And.intro ht4 hr4))
          clear ho4 ht4 hr4
          go_frame)
        go_roundw
        case rel =>
          obtain ⟨ho4, ht4, hr4⟩ := HR4.out
          have hs0 := HT.out.size
          have hs3 := HT3.out.size
          have hqr : ¬ q = some r := HQ.out.2
          have hr3 := HRr3.out.lt
          refine ⟨_, xs ++ [x], r1, (HRr3.out.touch HAl.out (fun e => e) (fun e => e)).touch ht4 (fun e => ?_) hqr, by simpa [I64] using ho4, fun j e => ?_, fun e => ?_, hrw, ?_, ?_, fun k => ?_⟩
          · have := HQ.out.1 b e; omega
          · rcases hr4 with e' | ⟨z, e', hz⟩
            · exact HQ.out.1 j (e'.symm.trans e)
            · rw [e'] at e; injection e with e; simp at hz; omega
          · rcases hr4 with e' | ⟨z, e', hz⟩
            · exact hqr (e'.symm.trans e)
            · rw [e'] at e; injection e with e; simp at hz; omega
          · exact ((HT.out.trans HT3.out (fun k hk e => by omega)).trans HAl.out (fun _ _ e => e)).trans ht4 (fun k hk e => by have := HQ.out.1 k e; omega)
          · rw [List.nodup_append]
            refine ⟨HD.out.1, by simp, fun a ha b hb e => ?_⟩
            simp at hb; subst hb; subst e; exact HNX.out ha
          · simp only [List.mem_append, List.mem_singleton, HD.out.2 k, Bool.and_eq_false_iff, Bool.not_eq_false', decide_eq_true_eq]
            constructor
            · rintro (⟨h1, h2⟩ | rfl)
              · exact ⟨h1, .inl h2⟩
              · exact ⟨HF3.out, .inr rfl⟩
            · rintro ⟨h1, h2 | h2⟩
              · exact .inl ⟨h1, h2⟩
              · exact .inr h2
        case measure =>
          obtain ⟨ho4, ht4, hr4⟩ := HR4.out
          have hb3 := HRr3.out.map.lt
          have hr3 := HRr3.out.lt
          rw [rangeLeft_touch ((HAl.out.mono (S' := fun k => q = some k) (fun _ _ e => e.elim)).trans ht4 (fun _ _ e => e)) (fun e => by have := HQ.out.1 b e; omega) HQ.out.2 hb3 hr3]
          exact HLt.out
      · have hcw' : ¬ (c : Int) = what := hcw
        go_wp2_with fail
        go_roundw
        case rel =>
          refine ⟨_, xs, q, HRr3.out, HO.out.touch HT3.out (fun k hk e => HQ.out.2 (by rw [hk, e])), HQ.out.1, HQ.out.2, hrw, HT.out.trans HT3.out (fun k hk e => by omega), HD.out.1, fun k => ?_⟩
          rw [HD.out.2 k]
          simp only [Bool.and_eq_false_iff, Bool.not_eq_false', decide_eq_true_eq]
          constructor
          · rintro ⟨h1, h2⟩; exact ⟨h1, .inl h2⟩
          · rintro ⟨h1, h2 | rfl⟩
            · exact ⟨h1, h2⟩
            · rw [HF3.out] at h1; injection h1 with h1; exact absurd h1 hcw
        case measure => exact HLt.out
end Go.Proofs.Ytbleeejhejkkcaa
