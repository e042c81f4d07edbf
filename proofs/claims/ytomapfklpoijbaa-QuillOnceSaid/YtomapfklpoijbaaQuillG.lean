/- The reference's Reader, on: Num, Int, Flag, Raw, Text, End: told by the same Lean functions as quill's. -/
import Derived.Test.YtomapfklpoijbaaQuillF
namespace Go.Proofs.Ytomapfklpoijbaa
open Go.RowKit
set_option maxHeartbeats 2000000
set_option maxRecDepth 100000

theorem rdNum_left_le (m : Nat) (mk b : Bool) (l : List UInt8) : (rdNum m mk b l).left.length ≤ l.length := by
  unfold rdNum
  split
  · simp [rdFail]
  · split
    · split
      · simp; omega
      · simp [rdFail]
    · simp [rdFail]

theorem rf_num (g : Nat) (F : Nat → Prop) (bad : Bool) (most : Nat) (l : List UInt8) (w : World) (h : RfAt w g F l bad) :
    Calls Try.prog 91 #[.pointer (some ⟨g, 0, none⟩), .int .u64 most] w
      (FPost (.int .u64 ((rdNum most false bad l).val : Int)) (rdNum most false bad l).left (rdNum most false bad l).bad w g F) := by
  rcases l with _ | ⟨c, t⟩
  · have HF := Lib.hid (rf_fail g F [] bad w h)
    have H1 := Lib.hid (rf_first_nil g F bad w h)
    clear h
    go_enter Try.func91, Try.ntmps91
    go_wp2_with (first
      | (go_at_call 98; refine H1.out.mono ?_; rintro e w' ⟨rfl, rfl⟩)
      | (go_at_call 90; refine HF.out.mono ?_; rintro e w' ⟨rfl, h1, h2⟩))
    go_ret
    exact ⟨rfl, h1, h2⟩
  have H1 := Lib.hid (rf_first_cons g F c t bad w h)
  have hcl := B8_lt c
  clear h
  by_cases hok : rfOk c.toNat t = true
  · by_cases hm : be (t.take c.toNat) ≤ most
    · have hX : rdNum most false bad (c :: t) = ⟨be (t.take c.toNat), false, t.drop c.toNat, bad⟩ := by
        have hk : rdOk false c t = true := hok
        simp [rdNum, hk, rdHead, rdMark, hm]
      rw [hX]
      clear hX
      go_enter Try.func91, Try.ntmps91
      go_wp2_with (first
        | (go_at_call 98; refine H1.out.mono ?_; rintro e w1 ⟨rfl, h1, h2⟩)
        | (go_at_call 99; go_must (refine (rf_number_yes g F c.toNat t bad _ h1 hok).mono ?_); rintro e w2 ⟨rfl, h3, h4⟩; generalize be (t.take c.toNat) = n at *))
      go_ret
      exact ⟨rfl, h3, h2.trans h4 (fun _ _ e => e)⟩
    · have hX : rdNum most false bad (c :: t) = rdFail := by
        simp [rdNum, rdHead, hm]
      rw [hX]
      clear hX
      go_enter Try.func91, Try.ntmps91
      go_wp2_with (first
        | (go_at_call 98; refine H1.out.mono ?_; rintro e w1 ⟨rfl, h1, h2⟩)
        | (go_at_call 99; go_must (refine (rf_number_yes g F c.toNat t bad _ h1 hok).mono ?_); rintro e w2 ⟨rfl, h3, h4⟩; generalize be (t.take c.toNat) = n at *)
        | (go_at_call 90; go_must (refine (rf_fail g F _ bad _ h3).mono ?_); rintro e w3 ⟨rfl, h5, h6⟩))
      go_ret
      exact ⟨rfl, h5, (h2.trans h4 (fun _ _ e => e)).trans h6 (fun _ _ e => e)⟩
  · have hok' : rfOk c.toNat t = false := by simpa using hok
    have hX : rdNum most false bad (c :: t) = rdFail := by
      have hk : rdOk false c t = false := hok'
      simp [rdNum, hk]
    rw [hX]
    clear hX hok
    go_enter Try.func91, Try.ntmps91
    go_wp2_with (first
      | (go_at_call 98; refine H1.out.mono ?_; rintro e w1 ⟨rfl, h1, h2⟩)
      | (go_at_call 99; go_must (refine (rf_number_no g F c.toNat t bad _ h1 hcl hok').mono ?_); rintro e w2 ⟨rfl, rfl⟩)
      | (go_at_call 90; go_must (refine (rf_fail g F _ bad _ h1).mono ?_); rintro e w3 ⟨rfl, h5, h6⟩))
    go_ret
    exact ⟨rfl, h5, h2.trans h6 (fun _ _ e => e)⟩

theorem rf_int (g : Nat) (F : Nat → Prop) (bad : Bool) (l : List UInt8) (w : World) (h : RfAt w g F l bad) :
    Calls Try.prog 85 #[.pointer (some ⟨g, 0, none⟩)] w
      (FPost (.int .i64 (rdInt bad l)) (rdNum 9223372036854775807 true bad l).left (rdNum 9223372036854775807 true bad l).bad w g F) := by
  rcases l with _ | ⟨c, t⟩
  · have HF := Lib.hid (rf_fail g F [] bad w h)
    have H1 := Lib.hid (rf_first_nil g F bad w h)
    clear h
    go_enter Try.func85, Try.ntmps85
    go_wp2_with (first
      | (go_at_call 98; refine H1.out.mono ?_; rintro e w' ⟨rfl, rfl⟩)
      | (go_at_call 90; refine HF.out.mono ?_; rintro e w' ⟨rfl, h1, h2⟩))
    go_ret
    exact ⟨rfl, h1, h2⟩
  have H1 := Lib.hid (rf_first_cons g F c t bad w h)
  have hcl := B8_lt c
  clear h
  by_cases hok : rfOk (c.toNat % 128) t = true
  · by_cases hm : be (t.take (c.toNat % 128)) ≤ 9223372036854775807
    · have hX : rdNum 9223372036854775807 true bad (c :: t) = ⟨be (t.take (c.toNat % 128)), decide (128 ≤ c.toNat), t.drop (c.toNat % 128), bad⟩ := by
        have hk : rdOk true c t = true := hok
        simp [rdNum, hk, rdHead, rdMark, hm]
      have hI : rdInt bad (c :: t) = if 128 ≤ c.toNat then -1 - (be (t.take (c.toNat % 128)) : Int) else (be (t.take (c.toNat % 128)) : Int) := by
        unfold rdInt; rw [hX]; simp
      rw [hX, hI]
      clear hX hI
      by_cases hc : 128 ≤ c.toNat
      · rw [if_pos hc]
        go_enter Try.func85, Try.ntmps85
        go_wp2_with (first
          | (go_at_call 98; refine H1.out.mono ?_; rintro e w1 ⟨rfl, h1, h2⟩)
          | (go_at_call 99; go_must (refine (rf_number_yes g F (c.toNat % 128) t bad _ h1 hok).mono ?_); rintro e w2 ⟨rfl, h3, h4⟩; generalize be (t.take (c.toNat % 128)) = n at *))
        go_ret
        exact ⟨rfl, h3, h2.trans h4 (fun _ _ e => e)⟩
      · rw [if_neg hc]
        go_enter Try.func85, Try.ntmps85
        go_wp2_with (first
          | (go_at_call 98; refine H1.out.mono ?_; rintro e w1 ⟨rfl, h1, h2⟩)
          | (go_at_call 99; go_must (refine (rf_number_yes g F (c.toNat % 128) t bad _ h1 hok).mono ?_); rintro e w2 ⟨rfl, h3, h4⟩; generalize be (t.take (c.toNat % 128)) = n at *))
        go_ret
        exact ⟨rfl, h3, h2.trans h4 (fun _ _ e => e)⟩
    · have hX : rdNum 9223372036854775807 true bad (c :: t) = rdFail := by
        simp [rdNum, rdHead, hm]
      have hI : rdInt bad (c :: t) = 0 := by
        unfold rdInt; rw [hX]; simp [rdFail]
      rw [hX, hI]
      clear hX hI
      go_enter Try.func85, Try.ntmps85
      go_wp2_with (first
        | (go_at_call 98; refine H1.out.mono ?_; rintro e w1 ⟨rfl, h1, h2⟩)
        | (go_at_call 99; go_must (refine (rf_number_yes g F (c.toNat % 128) t bad _ h1 hok).mono ?_); rintro e w2 ⟨rfl, h3, h4⟩; generalize be (t.take (c.toNat % 128)) = n at *)
        | (go_at_call 90; go_must (refine (rf_fail g F _ bad _ h3).mono ?_); rintro e w3 ⟨rfl, h5, h6⟩))
      go_ret
      exact ⟨rfl, h5, (h2.trans h4 (fun _ _ e => e)).trans h6 (fun _ _ e => e)⟩
  · have hok' : rfOk (c.toNat % 128) t = false := by simpa using hok
    have hX : rdNum 9223372036854775807 true bad (c :: t) = rdFail := by
      have hk : rdOk true c t = false := hok'
      simp [rdNum, hk]
    have hI : rdInt bad (c :: t) = 0 := by
      unfold rdInt; rw [hX]; simp [rdFail]
    rw [hX, hI]
    clear hX hok hI
    go_enter Try.func85, Try.ntmps85
    go_wp2_with (first
      | (go_at_call 98; refine H1.out.mono ?_; rintro e w1 ⟨rfl, h1, h2⟩)
      | (go_at_call 99; go_must (refine (rf_number_no g F (c.toNat % 128) t bad _ h1 (by omega) hok').mono ?_); rintro e w2 ⟨rfl, rfl⟩)
      | (go_at_call 90; go_must (refine (rf_fail g F _ bad _ h1).mono ?_); rintro e w3 ⟨rfl, h5, h6⟩))
    go_ret
    exact ⟨rfl, h5, h2.trans h6 (fun _ _ e => e)⟩

theorem rf_flag (g : Nat) (F : Nat → Prop) (bad : Bool) (l : List UInt8) (w : World) (h : RfAt w g F l bad) :
    Calls Try.prog 86 #[.pointer (some ⟨g, 0, none⟩)] w
      (FPost (.bool ((rdNum 1 false bad l).val == 1)) (rdNum 1 false bad l).left (rdNum 1 false bad l).bad w g F) := by
  have H := rf_num g F bad 1 l w h
  generalize rdNum 1 false bad l = R at *
  have HH := Lib.hid H
  clear h H
  go_enter Try.func86, Try.ntmps86
  go_wp2_with (go_at_call 91; refine HH.out.mono ?_; rintro e w' ⟨rfl, h1, h2⟩)
  go_ret
  exact ⟨ret_bool (by rw [Bool.eq_iff_iff]; simp; omega), h1, h2⟩

/-- What the reference's Raw hands back. -/
def FRaw (n : Nat) (xs l : List UInt8) (bad : Bool) (w : World) (g : Nat) (F : Nat → Prop) (e : Ending) (w' : World) : Prop :=
  ∃ A c, e = .returned (.slice A n c) ∧ n ≤ c ∧ c ≤ maxLen ∧ Rd w' (fun k => w.heap.size ≤ k) A n (xs.map B8) ∧ RfAt w' g F l bad ∧ Touch (fun k => k = g) w w'

theorem rf_raw_no (g : Nat) (F : Nat → Prop) (bad : Bool) (n : Int) (l : List UInt8) (w : World) (h : RfAt w g F l bad) (hn : n < 0 ∨ (l.length : Int) < n) :
    Calls Try.prog 88 #[.pointer (some ⟨g, 0, none⟩), .int .i64 n] w (FRaw 0 [] [] true w g F) := by
  have HF := Lib.hid (rf_fail g F l bad w h)
  obtain ⟨hg, A, cap, hl, hm, hb, hr⟩ := h
  have h0 := hb.cell 0
  simp at h0
  clear hr
  by_cases h1 : n < 0
  · clear hn
    go_enter Try.func88, Try.ntmps88
    go_wp2_with (first
      | (go_at_call 90; refine HF.out.mono ?_; rintro e w' ⟨rfl, hf1, hf2⟩))
    go_ret
    exact ⟨none, 0, rfl, Nat.le_refl _, by simp, Rd.nil _ _ _, hf1, hf2⟩
  · have h2 : (l.length : Int) < n := hn.resolve_left h1
    clear hn
    go_enter Try.func88, Try.ntmps88
    go_wp2_with (first
      | (go_at_call 90; refine HF.out.mono ?_; rintro e w' ⟨rfl, hf1, hf2⟩))
    go_ret
    exact ⟨none, 0, rfl, Nat.le_refl _, by simp, Rd.nil _ _ _, hf1, hf2⟩

theorem rf_raw_ok (g : Nat) (F : Nat → Prop) (bad : Bool) (n : Nat) (l : List UInt8) (w : World) (h : RfAt w g F l bad) (hn : n ≤ l.length) (hsm : l.length ≤ 140737488355328) :
    Calls Try.prog 88 #[.pointer (some ⟨g, 0, none⟩), .int .i64 n] w (FRaw n (l.take n) (l.drop n) bad w g F) := by
  obtain ⟨hg, A, cap, hl, hm, hb, hr⟩ := h
  have h0 := hb.cell 0
  have f0 := hb.frozen 0
  simp at h0
  have hcm : cap ≤ 9223372036854775807 := by unfold maxLen at hm; omega
  have hll : l.length ≤ 9223372036854775807 := by omega
  have Hr := Lib.hid hr
  have hT := hr.take hn
  rw [← List.map_take] at hT
  obtain ⟨i0, hi, hz0, hz1, hz2⟩ := info_parts info8
  have hown := World.ownsRow_lit w (base := w.heap.size) (e := 5) (size := 1) #[] 0 (Nat.le_refl _) (by simp) (by simp)
  have hgl := hb.lt
  have hlen : ((l.take n).map B8).length = n := by simp; omega
  rcases A with _ | ad
  · have hl0 : l = [] := by
      rcases l with _ | ⟨x, l⟩
      · rfl
      · obtain ⟨_, _, e, _⟩ := hr.2 (by simp); cases e
    subst hl0
    obtain rfl : n = 0 := by simpa using hn
    clear hr hT hlen
    go_enter Try.func88, Try.ntmps88
    go_wp2
    go_ret
    have hsk := rf_skip (l := []) (k := 0) hg hb (Rd.nil _ F none) hl hm (by omega) none (by simp) 0 (by simp) cap rfl
    exact ⟨some ⟨w.heap.size, 0, none⟩, 0, rfl, Nat.le_refl _, by simp, Rd.nil _ _ _, rfAt_touch hsk.1 ((Touch.refl (fun _ => False) _).alloc _) (fun e => e) (fun _ _ e => e), hsk.2.alloc _⟩
  · have Hn := Lib.hid (show ∀ j u, ((l.take n).map B8)[j]? = some u → (w.alloc (.cells #[] 5)).cell? (ad.add j) = some u from fun j u hj => (World.cell?_alloc_lt _ _ _ (World.block_lt_of_cell? w _ (hT.add j u hj))).trans (hT.add j u hj))
    have h1 := Lib.hid (B8_one (l.take n))
    clear hr
    have HT := Lib.hid hT
    clear hT
    generalize hxs : (l.take n).map B8 = xs at *
    have Hxs := Lib.hid hxs
    clear hxs
    go_enter Try.func88, Try.ntmps88
    go_wp2_with (
      at_builtin
      go_must (refine wpList_append_own _ rfl _ _ 43 rfl w.heap.size 5 i0 (.int .u8 0) 1 1 Try.underlying43 hi hz0 hz1 hz2 rfl (by decide) _ _ _ rfl hown ad n cap xs rfl (by omega) Hn.out h1.out (by simp only [maxLen]; omega) (by omega) (by simp) ?_)
      intro v' w1 hown1 hg1 _
      have hz : w1.ownsRow w.heap.size 5 1 v' n xs := by simpa using hown1
      have ht : Touch (fun _ => False) w w1 := ((Touch.refl _ w).alloc _).trans (Touch.of_grown hg1) (fun k hk e => by injection e with e; simp at e; omega)
      have hb1 := ht.blk hb (fun e => e)
      have h01 := hb1.cell 0
      have f01 := hb1.frozen 0
      simp at h01
      have HZ := Lib.hid hz
      clear hown1 hg1 hz)
    all_goals
      go_ret
      obtain ⟨A', c', hv, hn1, hc1, hr1⟩ := Rd.of_own HZ.out
      have hr2 := hr1.mono (F' := fun k => w.heap.size ≤ k) (fun k hk => (HZ.out.lt k hk).1)
      have hsk := rf_skip (l := l) (k := n) hg hb1 (Hr.out.touch ht (fun _ _ e => e)) hl hm hn (if cap = n then some ad else some (ad.add n)) (by split <;> rfl) (l.length - n) rfl (cap - n) rfl
      subst hv
      refine ⟨A', c', rfl, hn1, hc1, ?_, ?_, ?_⟩
      · rw [Hxs.out]
        have := Touch.set (Touch.refl (fun k => k = g) w1) (b := g) (o := 0) (fun _ => rfl)
        exact hr2.touch (this _) (fun k hk e => by subst e; omega)
      · simpa [*] using hsk.1
      · have := (ht.mono (S' := fun k => k = g) (fun _ _ e => e.elim)).trans hsk.2 (fun _ _ e => e)
        simpa [*] using this

theorem rf_text (g : Nat) (F : Nat → Prop) (bad : Bool) (most : Int) (l : List UInt8) (w : World) (h : RfAt w g F l bad) (hsm : l.length ≤ 140737488355328) (hmost : most ≤ 9223372036854775807) (hmost0 : -9223372036854775808 ≤ most) :
    Calls Try.prog 87 #[.pointer (some ⟨g, 0, none⟩), .int .i64 most] w
      (FPost (.string ⟨(rdText most bad l).txt.toArray⟩) (rdText most bad l).left (rdText most bad l).bad w g F) := by
  by_cases hneg : most < 0
  · have hR : rdText most bad l = ⟨[], [], true⟩ := by simp [rdText, hneg]
    rw [hR]
    have HF := Lib.hid (rf_fail g F l bad w h)
    clear h hR
    go_enter Try.func87, Try.ntmps87
    go_wp2_with (first
      | (go_at_call 90; refine HF.out.mono ?_; rintro e w' ⟨rfl, hf1, hf2⟩))
    go_ret
    exact ⟨rfl, hf1, hf2⟩
  obtain ⟨m, rfl⟩ := Int.eq_ofNat_of_zero_le (by omega : 0 ≤ most)
  have hN := rf_num g F bad m l w h
  have hle := rdNum_le m false bad l
  have hll := rdNum_left_le m false bad l
  have hR : rdText m bad l = if (rdNum m false bad l).left.length < (rdNum m false bad l).val then ⟨[], [], true⟩
      else ⟨(rdNum m false bad l).left.take (rdNum m false bad l).val, (rdNum m false bad l).left.drop (rdNum m false bad l).val, (rdNum m false bad l).bad⟩ := by
    simp [rdText, hneg]
  generalize rdText m bad l = T at *
  generalize rdNum m false bad l = R at *
  obtain ⟨n, mk, l1, b1⟩ := R
  simp only at hle hll hR hN
  have HN := Lib.hid hN
  clear hN h
  by_cases hlt : l1.length < n
  · rw [if_pos hlt] at hR
    subst hR
    go_enter Try.func87, Try.ntmps87
    go_wp2_with (first
      | (go_at_call 91; go_must (refine HN.out.mono ?_); rintro e w1 ⟨rfl, hr1, ht⟩
         have hr1' := hr1
         obtain ⟨hg, A, cap, hl, hm, hb, hr⟩ := hr1
         have h0 := hb.cell 0
         simp at h0
         clear hr)
      | (go_at_call 90; go_must (refine (rf_fail g F l1 b1 _ hr1').mono ?_); rintro e w' ⟨rfl, hf1, hf2⟩))
    go_ret
    exact ⟨rfl, hf1, ht.trans hf2 (fun _ _ e => e)⟩
  · rw [if_neg hlt] at hR
    subst hR
    go_enter Try.func87, Try.ntmps87
    go_wp2_with (first
      | (go_at_call 91; go_must (refine HN.out.mono ?_); rintro e w1 ⟨rfl, hr1, ht⟩
         have hr1' := hr1
         obtain ⟨hg, A, cap, hl, hm, hb, hr⟩ := hr1
         have h0 := hb.cell 0
         simp at h0
         clear hr)
      | (go_at_call 88; go_must (refine (rf_raw_ok g F b1 n l1 _ hr1' (by omega) (by omega)).mono ?_); rintro e w2 ⟨A2, c2, rfl, hn2, hc2, hr2, hr3, ht3⟩
         have hs := Rd.str hr2 c2))
    go_ret
    exact ⟨rfl, hr3, ht.trans ht3 (fun _ _ e => e)⟩

theorem rf_end (g : Nat) (F : Nat → Prop) (bad : Bool) (l : List UInt8) (w : World) (h : RfAt w g F l bad) :
    Calls Try.prog 51 #[.pointer (some ⟨g, 0, none⟩)] w fun e w' => e = .returned (.int .i64 (if bad || !l.isEmpty then 20 else 0)) ∧ w = w' := by
  obtain ⟨hg, A, cap, hl, hm, hb, hr⟩ := h
  have h0 := hb.cell 0
  have h1 := hb.cell 1
  simp at h0 h1
  clear hr
  cases bad
  · rcases l with _ | ⟨c, l⟩
    · simp only [List.length_nil] at h0
      go_enter Try.func51, Try.ntmps51
      go_wp2
      go_ret
      simp
    · simp only [List.length_cons] at h0
      go_enter Try.func51, Try.ntmps51
      go_wp2
      go_ret
      simp
  · go_enter Try.func51, Try.ntmps51
    go_wp2
    go_ret
    simp
end Go.Proofs.Ytomapfklpoijbaa
