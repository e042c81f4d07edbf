/- quill's Reader, on: Raw, Text, End. -/
import Derived.Test.YtomapfklpoijbaaQuillR2
import Derived.Laws.IdiomStrings
namespace Go.Proofs.Ytomapfklpoijbaa
open Go.RowKit
set_option maxHeartbeats 1000000
set_option maxRecDepth 100000

/-- What Raw hands back: a new slice of the bytes xs; the reader is left as (l, bad). -/
def RawPost (n : Nat) (xs l : List UInt8) (bad : Bool) (w : World) (g : Nat) (F : Nat → Prop) (e : Ending) (w' : World) : Prop :=
  ∃ A c, e = .returned (.slice A n c) ∧ n ≤ c ∧ c ≤ maxLen ∧ Rd w' (fun k => w.heap.size ≤ k) A n (xs.map B8) ∧ RdAt w' g F l bad ∧ Touch (fun k => k = g) w w'

theorem rdAt_touch {w w' : World} {g : Nat} {F S : Nat → Prop} {l : List UInt8} {bad : Bool} (h : RdAt w g F l bad) (ht : Touch S w w') (hg : ¬ S g) (hF : ∀ k, F k → ¬ S k) : RdAt w' g F l bad := by
  obtain ⟨hgF, A, cap, hl, hm, hb, hr⟩ := h
  exact ⟨hgF, A, cap, hl, hm, ht.blk hb hg, hr.touch ht hF⟩

theorem raw_neg (g : Nat) (F : Nat → Prop) (bad : Bool) (n : Int) (l : List UInt8) (w : World) (h : RdAt w g F l bad) (hn : n < 0) :
    Calls Try.prog 54 #[.pointer (some ⟨g, 0, none⟩), .int .i64 n] w (RawPost 0 [] [] true w g F) := by
  obtain ⟨hg, A, cap, hl, hm, hb, hr⟩ := h
  have Hr := Lib.hid hr
  clear hr
  go_enter Try.func54, Try.ntmps54
  go_wp2_with (first
    | (go_at_call 89; refine (fail_any _ _ _ _ _ _ hb).mono ?_; rintro e w' ⟨rfl, rfl⟩))
  go_ret
  exact ⟨none, 0, rfl, Nat.le_refl _, by simp, Rd.nil _ _ _, (failPost hg hb).1, (failPost hg hb).2⟩

theorem raw_more (g : Nat) (F : Nat → Prop) (bad : Bool) (n : Int) (l : List UInt8) (w : World) (h : RdAt w g F l bad) (h0 : 0 ≤ n) (hn : (l.length : Int) < n) :
    Calls Try.prog 54 #[.pointer (some ⟨g, 0, none⟩), .int .i64 n] w (RawPost 0 [] [] true w g F) := by
  obtain ⟨hg, A, cap, hl, hm, hb, hr⟩ := h
  have Hr := Lib.hid hr
  clear hr
  go_enter Try.func54, Try.ntmps54
  go_wp2_with (first
    | (go_at_call 43; refine (left_any _ _ _ _ _ _ hb).mono ?_; rintro e w' ⟨rfl, rfl⟩)
    | (go_at_call 89; refine (fail_any _ _ _ _ _ _ hb).mono ?_; rintro e w' ⟨rfl, rfl⟩))
  go_ret
  exact ⟨none, 0, rfl, Nat.le_refl _, by simp, Rd.nil _ _ _, (failPost hg hb).1, (failPost hg hb).2⟩

theorem raw_ok (g : Nat) (F : Nat → Prop) (bad : Bool) (n : Nat) (l : List UInt8) (w : World) (h : RdAt w g F l bad) (hn : n ≤ l.length) (hsm : l.length ≤ 140737488355328) :
    Calls Try.prog 54 #[.pointer (some ⟨g, 0, none⟩), .int .i64 n] w (RawPost n (l.take n) (l.drop n) bad w g F) := by
  obtain ⟨hg, A, cap, hl, hm, hb, hr⟩ := h
  have h0 := hb.cell 0
  have f0 := hb.frozen 0
  simp at h0
  have Hc := Lib.hid (hr.take hn)
  have Hd := Lib.hid (hr.cut hn hl)
  have hcm : cap ≤ 9223372036854775807 := by unfold maxLen at hm; omega
  have hll : l.length ≤ 9223372036854775807 := by omega
  clear hr
  go_enter Try.func54, Try.ntmps54
  go_wp2_with (first
    | (go_at_call 43; refine (left_any _ _ _ _ _ _ hb).mono ?_; rintro e w' ⟨rfl, rfl⟩)
    | (go_at_call 61; go_must (refine (clone_any F A n cap (l.take n) w (by rw [List.map_take]; exact Hc.out) (by omega)).mono ?_); rintro e w1 ⟨A', c', rfl, hn', hc', hr', ht⟩
       have hb1 := ht.blk hb (fun e => e)
       have h01 := hb1.cell 0
       have f01 := hb1.frozen 0
       simp at h01
       have HR' := Lib.hid hr'
       clear hr'))
  all_goals
    go_ret
    have ht1 : Touch (fun k => k = g) w w1 := ht.mono (fun _ _ e => e.elim)
    have hlen : (List.map B8 (List.take n l)).length = n := by simp; omega
    have hr1 := HR'.out
    rw [hlen] at hr1 hn'
    refine ⟨A', c', ret_val (by simp), hn', hc', ?_, ?_, ht1.set (fun _ => rfl) _⟩
    · have := (Touch.refl (fun k => k = g) w1).set (b := g) (o := 0) (fun _ => rfl)
      exact hr1.touch (this _) (fun k hk e => by have := hb.lt; subst e; omega)
    · refine ⟨hg, (if cap = n then A else A.map (·.add n)), cap - n, by simp; omega, by omega, ?_, ?_⟩
      · have := hb1.set_ 0 (.slice (if cap = n then A else A.map (·.add n)) (l.drop n).length (cap - n))
        simp only [List.length_drop] at this ⊢
        simpa [*] using this
      · have h1 := Hd.out.touch ht (fun _ _ e => e)
        have h2 := h1.touch ((Touch.refl (fun k => k = g) w1).set (b := g) (o := 0) (fun _ => rfl) (.slice (if cap = n then A else A.map (·.add n)) (l.drop n).length (cap - n))) (fun k hk e => hg (by subst e; exact hk))
        rw [← List.map_drop] at h2
        simpa [*] using h2

theorem Rd.str {w : World} {F : Nat → Prop} {A : Option Addr} {n : Nat} {l : List UInt8} (h : Rd w F A n (l.map B8)) (c : Nat) :
    (convert 43 9 (.slice A n c)).run Try.prog w = .ok (.string ⟨l.toArray⟩) w := by
  have hl := h.1
  rw [List.length_map] at hl
  subst hl
  rcases A with _ | ad
  · have : l = [] := by
      rcases l with _ | ⟨x, l⟩
      · rfl
      · obtain ⟨_, _, e, _⟩ := h.2 (by simp); cases e
    subst this
    exact run_convert_bytes_nil w 43 5 Try.underlying43 Try.underlying5 _ _ 9 Try.underlying9
  · refine run_convert_bytes_back w 43 9 5 ad c l Try.underlying43 Try.underlying5 Try.underlying9 (fun j hj => ?_)
    exact h.add j _ (by simp [B8, hj])

structure RTxt where
  txt : List UInt8
  left : List UInt8
  bad : Bool
def rdText (most : Int) (bad : Bool) (l : List UInt8) : RTxt :=
  if most < 0 then ⟨[], [], true⟩
  else if (rdNum most.toNat false bad l).left.length < (rdNum most.toNat false bad l).val then ⟨[], [], true⟩
  else ⟨(rdNum most.toNat false bad l).left.take (rdNum most.toNat false bad l).val, (rdNum most.toNat false bad l).left.drop (rdNum most.toNat false bad l).val, (rdNum most.toNat false bad l).bad⟩

theorem text_any (g : Nat) (F : Nat → Prop) (bad : Bool) (most : Int) (l : List UInt8) (w : World) (h : RdAt w g F l bad) (hsm : l.length ≤ 140737488355328) (hmost : most ≤ 9223372036854775807) (hmost0 : -9223372036854775808 ≤ most) :
    Calls Try.prog 53 #[.pointer (some ⟨g, 0, none⟩), .int .i64 most] w
      (RPost (.string ⟨(rdText most bad l).txt.toArray⟩) (rdText most bad l).left (rdText most bad l).bad w g F) := by
  by_cases hneg : most < 0
  · have hR : rdText most bad l = ⟨[], [], true⟩ := by simp [rdText, hneg]
    rw [hR]
    obtain ⟨hg, A, cap, hl, hm, hb, hr⟩ := h
    clear hr hR
    go_enter Try.func53, Try.ntmps53
    go_wp2_with (first
      | (go_at_call 89; refine (fail_any _ _ _ _ _ _ hb).mono ?_; rintro e w' ⟨rfl, rfl⟩))
    go_ret
    exact ⟨rfl, (failPost hg hb).1, (failPost hg hb).2⟩
  obtain ⟨m, rfl⟩ := Int.eq_ofNat_of_zero_le (by omega : 0 ≤ most)
  have hN := num_any g F bad m l w h
  have hle := rdNum_le m false bad l
  have hll : (rdNum m false bad l).left.length ≤ l.length := by
    unfold rdNum
    split
    · simp [rdFail]
    · split
      · split
        · simp; omega
        · simp [rdFail]
      · simp [rdFail]
  have hR : rdText m bad l = if (rdNum m false bad l).left.length < (rdNum m false bad l).val then ⟨[], [], true⟩
      else ⟨(rdNum m false bad l).left.take (rdNum m false bad l).val, (rdNum m false bad l).left.drop (rdNum m false bad l).val, (rdNum m false bad l).bad⟩ := by
    simp [rdText, hneg]
  generalize rdText m bad l = T at *
  generalize rdNum m false bad l = R at *
  obtain ⟨n, mk, l1, b1⟩ := R
  simp only at hle hll hR hN
  have HN := Lib.hid hN
  clear hN h
  by_cases hlt : l1.length < n
  · rw [if_pos hlt] at hR
    subst hR
    go_enter Try.func53, Try.ntmps53
    go_wp2_with (first
      | (go_at_call 37; go_must (refine HN.out.mono ?_); rintro e w1 ⟨rfl, hr1, ht⟩
         obtain ⟨hg, A, cap, hl, hm, hb, hr⟩ := hr1
         clear hr)
      | (go_at_call 43; refine (left_any _ _ _ _ _ _ hb).mono ?_; rintro e w' ⟨rfl, rfl⟩)
      | (go_at_call 89; refine (fail_any _ _ _ _ _ _ hb).mono ?_; rintro e w' ⟨rfl, rfl⟩))
    go_ret
    exact ⟨rfl, (failPost hg hb).1, ht.trans (failPost (F := F) hg hb).2 (fun _ _ e => e)⟩
  · rw [if_neg hlt] at hR
    subst hR
    go_enter Try.func53, Try.ntmps53
    go_wp2_with (first
      | (go_at_call 37; go_must (refine HN.out.mono ?_); rintro e w1 ⟨rfl, hr1, ht⟩
         have hr1' := hr1
         obtain ⟨hg, A, cap, hl, hm, hb, hr⟩ := hr1
         clear hr)
      | (go_at_call 43; refine (left_any _ _ _ _ _ _ hb).mono ?_; rintro e w' ⟨rfl, rfl⟩)
      | (go_at_call 54; go_must (refine (raw_ok g F b1 n l1 _ hr1' (by omega) (by omega)).mono ?_); rintro e w2 ⟨A2, c2, rfl, hn2, hc2, hr2, hr3, ht3⟩
         have hs := Rd.str hr2 c2))
    go_ret
    exact ⟨rfl, hr3, ht.trans ht3 (fun _ _ e => e)⟩

theorem end_any (g : Nat) (F : Nat → Prop) (bad : Bool) (l : List UInt8) (w : World) (h : RdAt w g F l bad) :
    Calls Try.prog 50 #[.pointer (some ⟨g, 0, none⟩)] w fun e w' => e = .returned (.int .i64 (if bad || !l.isEmpty then 20 else 0)) ∧ w = w' := by
  obtain ⟨hg, A, cap, hl, hm, hb, hr⟩ := h
  have h0 := hb.cell 0
  have h1 := hb.cell 1
  simp at h0 h1
  clear hr
  cases bad
  · rcases l with _ | ⟨c, l⟩
    · simp only [List.length_nil] at h0
      go_enter Try.func50, Try.ntmps50
      go_wp2
      go_ret
      simp
    · simp only [List.length_cons] at h0
      go_enter Try.func50, Try.ntmps50
      go_wp2
      go_ret
      simp
  · go_enter Try.func50, Try.ntmps50
    go_wp2
    go_ret
    simp
end Go.Proofs.Ytomapfklpoijbaa
