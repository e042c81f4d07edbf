/- The references of chapter 7: part, Cut, Within, Len, Has, Same. -/
import Derived.Test.YtcblbjhhlnmkjaaCalA
namespace Go.Proofs.Ytcblbjhhlnmkjaa
open Go.RowKit Cal
set_option maxHeartbeats 4000000
set_option maxRecDepth 100000
set_option linter.unusedVariables false
attribute [local irreducible] wpPlan

theorem Touch.realloc (W : World) (o o' : Obj) (b : Nat) (hb : b = W.heap.size) : Touch (fun q => q = b) (W.alloc o) (W.alloc o') := by
  subst hb
  refine ⟨rfl, rfl, rfl, by simp, fun k hk hn => ?_⟩
  have hk' : k < W.heap.size := by simp at hk; omega
  rw [Below.heap_alloc _ _ _ hk', Below.heap_alloc _ _ _ hk']
theorem Touch.drew_ {S : Nat → Prop} {w w' : World} (h : Touch S w w') : Touch S w.drew w'.drew := ⟨h.os, h.tape, h.output, h.size, h.block⟩
theorem fpart_any (f t a b : Int) (w : World) : Calls Try.prog 149 #[.agg #[.int .i64 f, .int .i64 t], .int .i64 a, .int .i64 b] w fun e w' =>
    e = .returned (.tuple #[.agg #[.int .i64 (max f a), .int .i64 (min t b)], .bool (decide (max f a < min t b))]) ∧ Touch (fun _ => False) w w' := by
  obtain ⟨x, hx⟩ : ∃ x, x = max f a := ⟨_, rfl⟩
  obtain ⟨y, hy⟩ : ∃ y, y = min t b := ⟨_, rfl⟩
  have HT := Lib.hid (((Touch.refl (fun _ => False) w).alloc (.cells #[.int .i64 x, .int .i64 y] 165)).alloc (.cells #[.int .i64 x, .int .i64 y] 165))
  have HB := Lib.hid (show Blk ((w.alloc (.cells #[.int .i64 x, .int .i64 y] 165)).alloc (.cells #[.int .i64 0, .int .i64 0] 165)) w.heap.size 165 #[.int .i64 x, .int .i64 y] from (Blk.new _ _ _).alloc _)
  have hcase : (f < a ∧ x = a ∨ ¬ f < a ∧ x = f) ∧ (b < t ∧ y = b ∨ ¬ b < t ∧ y = t) := by omega
  have HX := Lib.hid hx
  have HY := Lib.hid hy
  clear hx hy
  rcases hcase with ⟨⟨h1, e1⟩ | ⟨h1, e1⟩, ⟨h2, e2⟩ | ⟨h2, e2⟩⟩
  all_goals
    subst e1 e2
    go_enter Try.func149, Try.ntmps149
    go_wp2
    refine wp_region_plan [(0, 0), (1, 1), (1, 2), (1, 3), (1, 4), (1, 5), (2, 6), (0, 7)] (fun q => q = w.heap.size + 1) (by kernel_rfl) (by kernel_rfl) (fun c a d v w h => by cases d <;> exact h) ?_
    iterate 1
      refine plan_s1 rfl (by rfl) (fun Kc hKc => ?_)
      go_simp
      first
        | (refine hKc _ ?_)
      clear hKc Kc
    iterate 5
      apply plan_h
      · rfl
      · rfl
      · intro wh hT
        have hb := hT.blk (show Blk (World.drew _) _ _ _ from HB.out) (by omega)
        have hf0 := hb.cell 0
        have hf1 := hb.cell 1
        simp at hf0 hf1
        go_simp
        try rfl
      go_frame
    refine plan_a1 rfl (by rfl) (fun Kc hKc => ?_)
    go_simp
    refine hKc _ _ ⟨(Touch.realloc (w.alloc (.cells #[.int .i64 x, .int .i64 y] 165)) _ _ _ (by simp)).drew_, ?_⟩
    clear hKc Kc
    iterate 1
      refine plan_s1 rfl (by rfl) (fun Kc hKc => ?_)
      go_simp
      first
        | (refine hKc _ ?_)
      clear hKc Kc
    refine plan_done ?_
    go_wp2
    refine bodyPost_ret (v := .tuple #[.agg #[.int .i64 x, .int .i64 y], .bool (decide (x < y))]) (by simp [results, Try.results149, go_sem]) rfl ?_
    exact ⟨by rw [← HX.out, ← HY.out], HT.out.drew⟩

theorem infoS : (Try.prog.info? 165).map (fun i => (i.zero, i.size, i.bytes)) = some (some (.agg #[.int .i64 0, .int .i64 0]), 2, 16) := by kernel_rfl
/-- A new slice that reads as these spans is handed back. -/
def NewSpan (w : World) (l : List Sp) (e : Ending) (w' : World) : Prop :=
  ∃ A c, e = .returned (.slice A l.length c) ∧ l.length ≤ c ∧ c ≤ maxLen ∧ (A = none → c = 0) ∧ SpR w' (fun k => w.heap.size ≤ k) A l.length l ∧ Touch (fun _ => False) w w'
theorem cutL_take (l : List Sp) (a b : Int) (j : Nat) (s : Sp) (hs : l[j]? = some s) : cutL (l.take (j + 1)) a b = cutL (l.take j) a b ++ (if max s.f a < min s.t b then [⟨max s.f a, min s.t b⟩] else []) := by
  obtain ⟨h1, h2⟩ := List.getElem?_eq_some_iff.1 hs
  rw [List.take_succ_eq_append_getElem h1, h2, cutL_append, cutL]
  by_cases h : max s.f a < min s.t b
  · rw [if_pos h, if_pos (show (piece s a b).f < (piece s a b).t from h)]; rfl
  · rw [if_neg h, if_neg (show ¬ (piece s a b).f < (piece s a b).t from h)]; rfl
theorem Own.spR {w : World} {T : TypeId} {v : Value} {r : Option Nat} {n : Nat} {l : List Sp} {xs : List Value} (h : Own w T 2 v r n xs) (hx : xs = l.flatMap spC) (hl : l.length = n) :
    ∃ A c, v = .slice A n c ∧ n ≤ c ∧ c ≤ maxLen ∧ (A = none → c = 0) ∧ SpR w (fun k => r = some k) A n l := by
  subst hx
  rcases h.2 with ⟨hv, hn, _⟩ | ⟨g, cap, cur, hr, hv, hb, hn, hc, hs, ht⟩
  · refine ⟨none, 0, by rw [hv, hn], by omega, by simp, fun _ => rfl, hl, ?_, fun h0 => by omega⟩
    exact h.1
  · refine ⟨_, cap, hv, hn, hc, (fun e => by cases e), hl, h.1, fun hpos => ⟨g, 0, rfl, hb.lt, hr, fun j u hj => ?_⟩⟩
    rw [Nat.zero_add, hb.cell]
    rw [← ht, List.getElem?_take] at hj
    split at hj
    · simpa using hj
    · cases hj
/-- What a loop that gathers spans has. -/
def Gath (w wr : World) (v : Value) (l : List Sp) : Prop := ∃ r, Own wr 165 2 v r l.length (l.flatMap spC) ∧ (∀ k, r = some k → w.heap.size ≤ k) ∧ Touch (fun _ => False) w wr
theorem Gath.new {w wr : World} {v : Value} {l : List Sp} (h : Gath w wr v l) : NewSpan w l (.returned v) wr := by
  obtain ⟨r, ho, hr, ht⟩ := h
  obtain ⟨A, c, rfl, h1, h2, h3, h4⟩ := ho.spR rfl rfl
  exact ⟨A, c, rfl, h1, h2, h3, h4.mono hr, ht⟩
theorem Gath.next {w w1 w2 : World} {v' : Value} {r r' : Option Nat} {l : List Sp} {s : Sp} (hk : ∀ k, r = some k → w.heap.size ≤ k) (ht : Touch (fun _ => False) w w1)
    (ho : Own w2 165 2 v' r' (l.length + 1) (l.flatMap spC ++ spC s)) (h2 : Touch (fun k => r = some k) w1 w2) (hr : r' = r ∨ ∃ k, r' = some k ∧ w1.heap.size ≤ k) : Gath w w2 v' (l ++ [s]) := by
  refine ⟨r', by simpa using ho, fun k e => ?_, ht.trans h2 (fun k hk' e => by have := hk k e; omega)⟩
  rcases hr with e' | ⟨q, e', hq⟩
  · exact hk k (e'.symm.trans e)
  · rw [e'] at e; injection e with e; have := ht.size; omega
theorem fcut_any (F : Nat → Prop) (A : Option Addr) (c : Nat) (l : List Sp) (a b : Int) (w : World) (hr : SpR w F A l.length l) (hrow : rowE l = 0) :
    Calls Try.prog 139 #[.slice A l.length c, .int .i64 a, .int .i64 b] w (NewSpan w (cutL l a b)) := by
  have hlen := (rowE_row hrow).2
  have HR := Lib.hid hr
  have HRow := Lib.hid hrow
  have HF := Lib.hid (frow_any F A c l w hr (by omega))
  rw [hrow] at HF
  clear hr hrow
  obtain ⟨i0, hi, hz0, hz1, hz2⟩ := info_parts infoS
  go_enter Try.func139, Try.ntmps139
  go_wp2_with (go_at_call 84; go_must (refine HF.out.mono ?_); rintro e w0 ⟨rfl, t0⟩; have HT0 := Lib.hid t0; clear t0)
  clear HF
  go_loopw [7, 8] (fun o i wr => ∃ j : Nat, j ≤ l.length ∧ i = .int .i64 j ∧ Gath w wr o (cutL (l.take j) a b)) (fun _ i _ => l.length - (intOf i).toNat)
  case atStart => exact ⟨0, by omega, rfl, none, Own.nil _ _ _, (fun k e => by cases e), HT0.out⟩
  case round =>
    clear HT0
    obtain ⟨j, hj, rfl, r, ho, hk, hT⟩ := hrel
    obtain ⟨A0, c0, rfl, -, -⟩ := ho.form
    have HO := Lib.hid ho
    have HK := Lib.hid hk
    have HT := Lib.hid hT
    clear ho hk hT
    by_cases hjk : j < l.length
    · have ha : l[j]? = some (l[j]'hjk) := List.getElem?_eq_getElem _
      obtain ⟨g, off, rfl, hg, -, hc0, hc1⟩ := (HR.out.touch HT.out (fun _ _ e => e)).at_ ha
      have HN := Lib.hid (cutL_take l a b j _ ha)
      have hLl : (cutL (l.take j) a b).length ≤ 32 := Nat.le_trans (cutL_len _ _ _) (by simp; omega)
      generalize cutL (l.take j) a b = L at *
      generalize l[j]'hjk = s at *
      obtain ⟨f, t⟩ := s
      simp only at hc0 hc1
      have HP := Lib.hid (fpart_any f t a b)
      clear ha
      by_cases hxy : max f a < min t b
      · rw [if_pos hxy] at HN
        generalize max f a = x at *
        generalize min t b = y at *
        go_wp2_with (first
          | (go_at_call 149
             go_must (refine (HP.out _).mono ?_)
             rintro e w1 ⟨rfl, t1⟩
             have HT1 := Lib.hid (((t1.alloc (.cells #[.int .i64 x, .int .i64 y] 165)).alloc (.cells #[.int .i64 x, .int .i64 y] 165)))
             have HB1 := Lib.hid (show Blk _ (w1.heap.size + 1) _ _ by simpa using Blk.new (w1.alloc (.cells #[.int .i64 x, .int .i64 y] 165)) 165 #[.int .i64 x, .int .i64 y])
             clear t1)
          | (at_builtin
             go_must (refine wpList_own_append rfl _ _ 23 23 rfl 165 i0 (.agg #[.int .i64 0, .int .i64 0]) 2 16 Try.underlying23 hi hz0 hz1 hz2 rfl _ r L.length (L.flatMap spC) rfl (by exact HO.out.touch HT1.out (fun _ _ e => e)) _ 1 [.int .i64 x, .int .i64 y] rfl (by exact Src.lit Try.underlying23 _ 1 1 165 #[.int .i64 x, .int .i64 y] HB1.out rfl (fun u hu => by simp at hu; rcases hu with rfl | rfl <;> rfl)) (by simp only [maxLen]; omega) (by omega) ?_)
             intro v1 r1 w2 ho1 ht1 hr1
             have HR1 := Lib.hid (And.intro ho1 (And.intro ht1 hr1))
             clear ho1 ht1 hr1))
        go_roundw
        case rel =>
          obtain ⟨ho1, ht1, hr1⟩ := HR1.out
          refine ⟨j + 1, by omega, by go_num, ?_⟩
          rw [HN.out]
          exact Gath.next HK.out (HT.out.trans HT1.out (fun _ _ e => e)) ho1 ht1 hr1
        case measure => simp [intOf]; omega
      · rw [if_neg hxy, List.append_nil] at HN
        generalize max f a = x at *
        generalize min t b = y at *
        go_wp2_with (go_at_call 149; go_must (refine (HP.out _).mono ?_); rintro e w1 ⟨rfl, t1⟩; have HT1 := Lib.hid (t1.alloc (.cells #[.int .i64 x, .int .i64 y] 165)); clear t1)
        go_roundw
        case rel => exact ⟨j + 1, by omega, by go_num, by rw [HN.out]; exact ⟨r, HO.out.touch HT1.out (fun _ _ e => e), HK.out, HT.out.trans HT1.out (fun _ _ e => e)⟩⟩
        case measure => simp [intOf]; omega
    · obtain rfl : j = l.length := by omega
      rw [List.take_length] at HO ⊢
      generalize cutL l a b = L at *
      go_wp2
      go_ret
      exact Gath.new ⟨r, HO.out, HK.out, HT.out⟩
end Go.Proofs.Ytcblbjhhlnmkjaa
