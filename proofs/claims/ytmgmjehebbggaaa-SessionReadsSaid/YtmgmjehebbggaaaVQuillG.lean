/- What the calls of the reference's Reader do (chapter 1): they read just as quill's do. The reference's Reader, on: Num, Int, Flag, Raw, Text, End: told by the same Lean functions as quill's. -/
import Derived.Test.YtmgmjehebbggaaaVQuillX
section
namespace Go.Proofs.Ytmgmjehebbggaaa
open Go.RowKit
set_option maxHeartbeats 2000000
set_option maxRecDepth 100000

/-- The reference's reader at block g. -/
def RfAt (w : World) (g : Nat) (F : Nat → Prop) (l : List UInt8) (bad : Bool) : Prop :=
  ¬ F g ∧ ∃ A cap, l.length ≤ cap ∧ cap ≤ maxLen ∧ Blk w g 58 #[.slice A l.length cap, .bool bad] ∧ Rd w F A l.length (l.map B8)
def FPost (v : Value) (l : List UInt8) (bad : Bool) (w : World) (g : Nat) (F : Nat → Prop) (e : Ending) (w' : World) : Prop :=
  e = .returned v ∧ RfAt w' g F l bad ∧ Touch (fun k => k = g) w w'

theorem rfAt_touch {w w' : World} {g : Nat} {F S : Nat → Prop} {l : List UInt8} {bad : Bool} (h : RfAt w g F l bad) (ht : Touch S w w') (hg : ¬ S g) (hF : ∀ k, F k → ¬ S k) : RfAt w' g F l bad := by
  obtain ⟨hgF, A, cap, hl, hm, hb, hr⟩ := h
  exact ⟨hgF, A, cap, hl, hm, ht.blk hb hg, hr.touch ht hF⟩

theorem rf_fail (g : Nat) (F : Nat → Prop) (l : List UInt8) (bad : Bool) (w : World) (h : RfAt w g F l bad) :
    Calls Try.prog 42 #[.pointer (some ⟨g, 0, none⟩)] w (FPost (.tuple #[]) [] true w g F) := by
  obtain ⟨hg, A, cap, hl, hm, hb, hr⟩ := h
  have h0 := hb.cell 0
  have h1 := hb.cell 1
  have f0 := hb.frozen 0
  have f1 := hb.frozen 1
  simp at h0 h1
  clear hr
  go_enter Try.func42, Try.ntmps42
  go_wp2
  go_end0
  refine ⟨rfl, ⟨hg, none, 0, by simp, by simp, ?_, Rd.nil _ _ _⟩, ((Touch.refl (fun k => k = g) w).set (fun _ => rfl) _).set (fun _ => rfl) _⟩
  have := (hb.set_ 0 (.slice none 0 0)).set_ 1 (.bool true)
  simpa using this

/-- The reader goes on behind k bytes. -/
theorem rf_skip {w : World} {g : Nat} {F : Nat → Prop} {l : List UInt8} {bad : Bool} {A : Option Addr} {cap k : Nat} (hg : ¬ F g) (hb : Blk w g 58 #[.slice A l.length cap, .bool bad])
    (hr : Rd w F A l.length (l.map B8)) (hl : l.length ≤ cap) (hm : cap ≤ maxLen) (hk : k ≤ l.length) (A' : Option Addr) (hA : A' = if cap = k then A else A.map (·.add k)) (n' : Nat) (hn : n' = l.length - k) (c' : Nat) (hc : c' = cap - k) :
    RfAt (w.setCell ⟨g, 0, none⟩ (.slice A' n' c')) g F (l.drop k) bad ∧ Touch (fun k => k = g) w (w.setCell ⟨g, 0, none⟩ (.slice A' n' c')) := by
  subst hA hn hc
  have ht := (Touch.refl (fun k => k = g) w).set (b := g) (o := 0) (fun _ => rfl) (.slice (if cap = k then A else A.map (·.add k)) (l.length - k) (cap - k))
  refine ⟨⟨hg, (if cap = k then A else A.map (·.add k)), cap - k, by simp; omega, by omega, ?_, ?_⟩, ht⟩
  · have := hb.set_ 0 (.slice (if cap = k then A else A.map (·.add k)) (l.length - k) (cap - k))
    simpa using this
  · have h1 := (hr.touch ht (fun k hk e => hg (by subst e; exact hk))).cut hk hl
    rw [← List.map_drop] at h1
    simpa using h1

theorem rf_first_nil (g : Nat) (F : Nat → Prop) (bad : Bool) (w : World) (h : RfAt w g F [] bad) :
    Calls Try.prog 59 #[.pointer (some ⟨g, 0, none⟩)] w fun e w' => e = .returned (.tuple #[.int .u8 0, .bool false]) ∧ w = w' := by
  obtain ⟨hg, A, cap, hl, hm, hb, hr⟩ := h
  have h0 := hb.cell 0
  simp at h0
  clear hr
  go_enter Try.func59, Try.ntmps59
  go_wp2
  go_ret2
  exact ⟨rfl, rfl⟩

theorem rf_first_cons (g : Nat) (F : Nat → Prop) (c : UInt8) (l : List UInt8) (bad : Bool) (w : World) (h : RfAt w g F (c :: l) bad) :
    Calls Try.prog 59 #[.pointer (some ⟨g, 0, none⟩)] w (FPost (.tuple #[.int .u8 (c.toNat : Int), .bool true]) l bad w g F) := by
  obtain ⟨hg, A, cap, hl, hm, hb, hr⟩ := h
  have h0 := hb.cell 0
  have f0 := hb.frozen 0
  simp at h0
  obtain ⟨a, off, rfl, hlt, hF, hc⟩ := hr.2 (by simp)
  have hc0 := hc 0 (B8 c) (by simp)
  simp only [B8, Nat.add_zero] at hc0
  have Hr := Lib.hid hr
  have hcm : cap ≤ 9223372036854775807 := by unfold maxLen at hm; omega
  have hl' : l.length + 1 ≤ cap := by simpa using hl
  clear hr hc
  go_enter Try.func59, Try.ntmps59
  go_wp2
  all_goals
    go_ret2
    exact ⟨rfl, (rf_skip (l := c :: l) (k := 1) hg hb Hr.out hl hm (by simp) _ (by simp [*, addr_add]) _ (by simp) _ (by simp [*]))⟩

def rfOk (n : Nat) (l : List UInt8) : Bool := decide (n ≤ 8) && decide (n ≤ l.length) && !(decide (0 < n) && l.head? == some 0)

theorem rf_number_no (g : Nat) (F : Nat → Prop) (n : Nat) (l : List UInt8) (bad : Bool) (w : World) (h : RfAt w g F l bad) (hn : n < 256) (hno : rfOk n l = false) :
    Calls Try.prog 60 #[.pointer (some ⟨g, 0, none⟩), .int .i64 n] w fun e w' => e = .returned (.tuple #[.int .u64 0, .bool false]) ∧ w = w' := by
  obtain ⟨hg, A, cap, hl, hm, hb, hr⟩ := h
  have h0 := hb.cell 0
  simp at h0
  by_cases h1 : 8 < n
  · clear hr hno
    go_enter Try.func60, Try.ntmps60
    go_wp2
    go_ret2
    exact ⟨rfl, rfl⟩
  by_cases h2 : l.length < n
  · clear hr hno
    go_enter Try.func60, Try.ntmps60
    go_wp2
    go_ret2
    exact ⟨rfl, rfl⟩
  rcases l with _ | ⟨d, t⟩
  · simp [rfOk] at hno h2; omega
  obtain ⟨a, off, rfl, hlt, hF, hc⟩ := hr.2 (by simp)
  have hc0 := hc 0 (B8 d) (by simp)
  simp only [B8, Nat.add_zero] at hc0
  clear hr hc
  simp only [List.length_cons] at h2 h0
  have h34 : 0 < n ∧ d = 0 := by
    simp [rfOk] at hno
    refine ⟨(hno (by omega) (by omega)).1, (hno (by omega) (by omega)).2⟩
  obtain ⟨h3, h4⟩ := h34
  have hd0 : ((d.toNat : Int) == 0) = true := by rw [h4]; rfl
  clear hno h4
  go_enter Try.func60, Try.ntmps60
  go_wp2
  go_ret2
  exact ⟨rfl, rfl⟩

theorem rf_number_yes (g : Nat) (F : Nat → Prop) (n : Nat) (l : List UInt8) (bad : Bool) (w : World) (h : RfAt w g F l bad) (hno : rfOk n l = true) :
    Calls Try.prog 60 #[.pointer (some ⟨g, 0, none⟩), .int .i64 n] w (FPost (.tuple #[.int .u64 (be (l.take n) : Nat), .bool true]) (l.drop n) bad w g F) := by
  obtain ⟨hg, A, cap, hl, hm, hb, hr⟩ := h
  have h0 := hb.cell 0
  have f0 := hb.frozen 0
  simp at h0
  have hcm : cap ≤ 9223372036854775807 := by unfold maxLen at hm; omega
  have Hr := Lib.hid hr
  simp [rfOk] at hno
  obtain ⟨⟨h1, h2⟩, h3⟩ := hno
  rcases Nat.eq_zero_or_pos n with rfl | hpos
  · clear h3 hr
    go_enter Try.func60, Try.ntmps60
    go_wp2_with fail
    go_loop [6, 7] (fun x i => i = .int .i64 0 ∧ x = .int .u64 0) (fun _ _ => 0)
    case atStart => exact ⟨rfl, rfl⟩
    case round =>
      obtain ⟨rfl, rfl⟩ := hrel
      go_wp2
      all_goals
        go_ret2
        refine ⟨rfl, rf_skip (k := 0) hg hb Hr.out hl hm (by omega) _ ?_ _ ?_ _ ?_⟩
        · cases A <;> simp [*, Addr.add]
        · simp [*]
        · simp [*]
  · rcases l with _ | ⟨d, t⟩
    · simp at h2; omega
    obtain ⟨a, off, rfl, hlt, hF, hc⟩ := hr.2 (by simp)
    have hc0 := hc 0 (B8 d) (by simp)
    simp only [B8, Nat.add_zero] at hc0
    have hd0 : ((d.toNat : Int) == 0) = false := by
      have h4 := h3.resolve_left (by omega)
      simp at h4
      simp only [beq_eq_false_iff_ne, ne_eq]
      intro e
      exact h4 (UInt8.toNat_inj.1 (by simpa using e))
    have Hc := Lib.hid hc
    clear hc hr h3
    generalize hL : d :: t = l at *
    have hlp : 0 < l.length := by subst hL; simp
    clear hL
    go_enter Try.func60, Try.ntmps60
    go_wp2_with fail
    go_loop [6, 7] (fun x i => ∃ k : Nat, k ≤ n ∧ i = .int .i64 k ∧ x = .int .u64 (be (l.take k) : Nat)) (fun _ i => n - (intOf i).toNat)
    case atStart => exact ⟨0, by omega, rfl, rfl⟩
    case round =>
      obtain ⟨k, hk, rfl, rfl⟩ := hrel
      by_cases hks : k < n
      · have hck : w.cell? ⟨a, off + k, none⟩ = some (.int .u8 ((l.getD k 0).toNat : Int)) :=
          Hc.out k (B8 (l.getD k 0)) (by simp [List.getD, List.getElem?_eq_getElem (show k < l.length by omega)])
        have hbl : be (l.take k) * 256 < 18446744073709551616 := be_take_lt _ _ (by omega)
        have HS := Lib.hid (show be (l.take (k + 1)) = be (l.take k) * 256 + (l.getD k 0).toNat by rw [take_getD _ _ (by omega), be_snoc])
        have hxl := B8_lt (l.getD k 0)
        have hbl2 : be (l.take k) * 256 + (l.getD k 0).toNat < 18446744073709551616 := by
          have e1 := be_lt (l.take k)
          have e2 : 256 ^ (l.take k).length ≤ 256 ^ 7 := Nat.pow_le_pow_right (by omega) (by rw [List.length_take]; omega)
          have e3 : (256 : Nat) ^ 7 = 72057594037927936 := by decide
          omega
        generalize be (l.take k) = bk at *
        generalize l.getD k 0 = x at *
        go_wp2
        go_round
        case rel => exact ⟨k + 1, by omega, by go_num, by rw [HS.out]; go_num⟩
        case measure => simp [intOf]; omega
      · obtain rfl : k = n := by omega
        generalize be (l.take k) = x at *
        go_wp2
        all_goals
          go_ret2
          refine ⟨rfl, rf_skip (k := k) hg hb Hr.out hl hm (by omega) _ ?_ _ ?_ _ ?_⟩
          · simp [*, addr_add]
          · simp [*]
          · simp [*]
end Go.Proofs.Ytmgmjehebbggaaa
end

section
namespace Go.Proofs.Ytmgmjehebbggaaa
open Go.RowKit
set_option maxHeartbeats 2000000
set_option maxRecDepth 100000

theorem rdNum_left_le (m : Nat) (mk b : Bool) (l : List UInt8) : (rdNum m mk b l).left.length ≤ l.length := by
  unfold rdNum
  split
  · simp [rdFail]
  · split
    · split
      · simp; omega
      · simp [rdFail]
    · simp [rdFail]

theorem rf_num (g : Nat) (F : Nat → Prop) (bad : Bool) (most : Nat) (l : List UInt8) (w : World) (h : RfAt w g F l bad) :
    Calls Try.prog 40 #[.pointer (some ⟨g, 0, none⟩), .int .u64 most] w
      (FPost (.int .u64 ((rdNum most false bad l).val : Int)) (rdNum most false bad l).left (rdNum most false bad l).bad w g F) := by
  rcases l with _ | ⟨c, t⟩
  · have HF := Lib.hid (rf_fail g F [] bad w h)
    have H1 := Lib.hid (rf_first_nil g F bad w h)
    clear h
    go_enter Try.func40, Try.ntmps40
    go_wp2_with (first
      | (go_at_call 59; refine H1.out.mono ?_; rintro e w' ⟨rfl, rfl⟩)
      | (go_at_call 42; refine HF.out.mono ?_; rintro e w' ⟨rfl, h1, h2⟩))
    go_ret
    exact ⟨rfl, h1, h2⟩
  have H1 := Lib.hid (rf_first_cons g F c t bad w h)
  have hcl := B8_lt c
  clear h
  by_cases hok : rfOk c.toNat t = true
  · by_cases hm : be (t.take c.toNat) ≤ most
    · have hX : rdNum most false bad (c :: t) = ⟨be (t.take c.toNat), false, t.drop c.toNat, bad⟩ := by
        have hk : rdOk false c t = true := hok
        simp [rdNum, hk, rdHead, rdMark, hm]
      rw [hX]
      clear hX
      go_enter Try.func40, Try.ntmps40
      go_wp2_with (first
        | (go_at_call 59; refine H1.out.mono ?_; rintro e w1 ⟨rfl, h1, h2⟩)
        | (go_at_call 60; go_must (refine (rf_number_yes g F c.toNat t bad _ h1 hok).mono ?_); rintro e w2 ⟨rfl, h3, h4⟩; generalize be (t.take c.toNat) = n at *))
      go_ret
      exact ⟨rfl, h3, h2.trans h4 (fun _ _ e => e)⟩
    · have hX : rdNum most false bad (c :: t) = rdFail := by
        simp [rdNum, rdHead, hm]
      rw [hX]
      clear hX
      go_enter Try.func40, Try.ntmps40
      go_wp2_with (first
        | (go_at_call 59; refine H1.out.mono ?_; rintro e w1 ⟨rfl, h1, h2⟩)
        | (go_at_call 60; go_must (refine (rf_number_yes g F c.toNat t bad _ h1 hok).mono ?_); rintro e w2 ⟨rfl, h3, h4⟩; generalize be (t.take c.toNat) = n at *)
        | (go_at_call 42; go_must (refine (rf_fail g F _ bad _ h3).mono ?_); rintro e w3 ⟨rfl, h5, h6⟩))
      go_ret
      exact ⟨rfl, h5, (h2.trans h4 (fun _ _ e => e)).trans h6 (fun _ _ e => e)⟩
  · have hok' : rfOk c.toNat t = false := by simpa using hok
    have hX : rdNum most false bad (c :: t) = rdFail := by
      have hk : rdOk false c t = false := hok'
      simp [rdNum, hk]
    rw [hX]
    clear hX hok
    go_enter Try.func40, Try.ntmps40
    go_wp2_with (first
      | (go_at_call 59; refine H1.out.mono ?_; rintro e w1 ⟨rfl, h1, h2⟩)
      | (go_at_call 60; go_must (refine (rf_number_no g F c.toNat t bad _ h1 hcl hok').mono ?_); rintro e w2 ⟨rfl, rfl⟩)
      | (go_at_call 42; go_must (refine (rf_fail g F _ bad _ h1).mono ?_); rintro e w3 ⟨rfl, h5, h6⟩))
    go_ret
    exact ⟨rfl, h5, h2.trans h6 (fun _ _ e => e)⟩

theorem rf_int (g : Nat) (F : Nat → Prop) (bad : Bool) (l : List UInt8) (w : World) (h : RfAt w g F l bad) :
    Calls Try.prog 61 #[.pointer (some ⟨g, 0, none⟩)] w
      (FPost (.int .i64 (rdInt bad l)) (rdNum 9223372036854775807 true bad l).left (rdNum 9223372036854775807 true bad l).bad w g F) := by
  rcases l with _ | ⟨c, t⟩
  · have HF := Lib.hid (rf_fail g F [] bad w h)
    have H1 := Lib.hid (rf_first_nil g F bad w h)
    clear h
    go_enter Try.func61, Try.ntmps61
    go_wp2_with (first
      | (go_at_call 59; refine H1.out.mono ?_; rintro e w' ⟨rfl, rfl⟩)
      | (go_at_call 42; refine HF.out.mono ?_; rintro e w' ⟨rfl, h1, h2⟩))
    go_ret
    exact ⟨rfl, h1, h2⟩
  have H1 := Lib.hid (rf_first_cons g F c t bad w h)
  have hcl := B8_lt c
  clear h
  by_cases hok : rfOk (c.toNat % 128) t = true
  · by_cases hm : be (t.take (c.toNat % 128)) ≤ 9223372036854775807
    · have hX : rdNum 9223372036854775807 true bad (c :: t) = ⟨be (t.take (c.toNat % 128)), decide (128 ≤ c.toNat), t.drop (c.toNat % 128), bad⟩ := by
        have hk : rdOk true c t = true := hok
        simp [rdNum, hk, rdHead, rdMark, hm]
      have hI : rdInt bad (c :: t) = if 128 ≤ c.toNat then -1 - (be (t.take (c.toNat % 128)) : Int) else (be (t.take (c.toNat % 128)) : Int) := by
        unfold rdInt; rw [hX]; simp
      rw [hX, hI]
      clear hX hI
      by_cases hc : 128 ≤ c.toNat
      · rw [if_pos hc]
        go_enter Try.func61, Try.ntmps61
        go_wp2_with (first
          | (go_at_call 59; refine H1.out.mono ?_; rintro e w1 ⟨rfl, h1, h2⟩)
          | (go_at_call 60; go_must (refine (rf_number_yes g F (c.toNat % 128) t bad _ h1 hok).mono ?_); rintro e w2 ⟨rfl, h3, h4⟩; generalize be (t.take (c.toNat % 128)) = n at *))
        go_ret
        exact ⟨rfl, h3, h2.trans h4 (fun _ _ e => e)⟩
      · rw [if_neg hc]
        go_enter Try.func61, Try.ntmps61
        go_wp2_with (first
          | (go_at_call 59; refine H1.out.mono ?_; rintro e w1 ⟨rfl, h1, h2⟩)
          | (go_at_call 60; go_must (refine (rf_number_yes g F (c.toNat % 128) t bad _ h1 hok).mono ?_); rintro e w2 ⟨rfl, h3, h4⟩; generalize be (t.take (c.toNat % 128)) = n at *))
        go_ret
        exact ⟨rfl, h3, h2.trans h4 (fun _ _ e => e)⟩
    · have hX : rdNum 9223372036854775807 true bad (c :: t) = rdFail := by
        simp [rdNum, rdHead, hm]
      have hI : rdInt bad (c :: t) = 0 := by
        unfold rdInt; rw [hX]; simp [rdFail]
      rw [hX, hI]
      clear hX hI
      go_enter Try.func61, Try.ntmps61
      go_wp2_with (first
        | (go_at_call 59; refine H1.out.mono ?_; rintro e w1 ⟨rfl, h1, h2⟩)
        | (go_at_call 60; go_must (refine (rf_number_yes g F (c.toNat % 128) t bad _ h1 hok).mono ?_); rintro e w2 ⟨rfl, h3, h4⟩; generalize be (t.take (c.toNat % 128)) = n at *)
        | (go_at_call 42; go_must (refine (rf_fail g F _ bad _ h3).mono ?_); rintro e w3 ⟨rfl, h5, h6⟩))
      go_ret
      exact ⟨rfl, h5, (h2.trans h4 (fun _ _ e => e)).trans h6 (fun _ _ e => e)⟩
  · have hok' : rfOk (c.toNat % 128) t = false := by simpa using hok
    have hX : rdNum 9223372036854775807 true bad (c :: t) = rdFail := by
      have hk : rdOk true c t = false := hok'
      simp [rdNum, hk]
    have hI : rdInt bad (c :: t) = 0 := by
      unfold rdInt; rw [hX]; simp [rdFail]
    rw [hX, hI]
    clear hX hok hI
    go_enter Try.func61, Try.ntmps61
    go_wp2_with (first
      | (go_at_call 59; refine H1.out.mono ?_; rintro e w1 ⟨rfl, h1, h2⟩)
      | (go_at_call 60; go_must (refine (rf_number_no g F (c.toNat % 128) t bad _ h1 (by omega) hok').mono ?_); rintro e w2 ⟨rfl, rfl⟩)
      | (go_at_call 42; go_must (refine (rf_fail g F _ bad _ h1).mono ?_); rintro e w3 ⟨rfl, h5, h6⟩))
    go_ret
    exact ⟨rfl, h5, h2.trans h6 (fun _ _ e => e)⟩

theorem rf_flag (g : Nat) (F : Nat → Prop) (bad : Bool) (l : List UInt8) (w : World) (h : RfAt w g F l bad) :
    Calls Try.prog 62 #[.pointer (some ⟨g, 0, none⟩)] w
      (FPost (.bool ((rdNum 1 false bad l).val == 1)) (rdNum 1 false bad l).left (rdNum 1 false bad l).bad w g F) := by
  have H := rf_num g F bad 1 l w h
  generalize rdNum 1 false bad l = R at *
  have HH := Lib.hid H
  clear h H
  go_enter Try.func62, Try.ntmps62
  go_wp2_with (go_at_call 40; refine HH.out.mono ?_; rintro e w' ⟨rfl, h1, h2⟩)
  go_ret
  exact ⟨ret_bool (by rw [Bool.eq_iff_iff]; simp; omega), h1, h2⟩

/-- What the reference's Raw hands back. -/
def FRaw (n : Nat) (xs l : List UInt8) (bad : Bool) (w : World) (g : Nat) (F : Nat → Prop) (e : Ending) (w' : World) : Prop :=
  ∃ A c, e = .returned (.slice A n c) ∧ n ≤ c ∧ c ≤ maxLen ∧ Rd w' (fun k => w.heap.size ≤ k) A n (xs.map B8) ∧ RfAt w' g F l bad ∧ Touch (fun k => k = g) w w'

end Go.Proofs.Ytmgmjehebbggaaa
end
