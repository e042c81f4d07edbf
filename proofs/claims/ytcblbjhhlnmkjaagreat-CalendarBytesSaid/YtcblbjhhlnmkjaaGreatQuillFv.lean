/- What the calls of the reference's Reader do (chapter 1): they read just as quill's do. -/
import Derived.Test.YtcblbjhhlnmkjaaGreatV16
namespace Go.Proofs.YtcblbjhhlnmkjaaGreat
open Go.RowKit
set_option maxHeartbeats 2000000
set_option maxRecDepth 100000

/-- The reference's reader at block g. -/
def RfAt (w : World) (g : Nat) (F : Nat → Prop) (l : List UInt8) (bad : Bool) : Prop :=
  ¬ F g ∧ ∃ A cap, l.length ≤ cap ∧ cap ≤ maxLen ∧ Blk w g 64 #[.slice A l.length cap, .bool bad] ∧ Rd w F A l.length (l.map B8)
def FPost (v : Value) (l : List UInt8) (bad : Bool) (w : World) (g : Nat) (F : Nat → Prop) (e : Ending) (w' : World) : Prop :=
  e = .returned v ∧ RfAt w' g F l bad ∧ Touch (fun k => k = g) w w'

theorem rfAt_touch {w w' : World} {g : Nat} {F S : Nat → Prop} {l : List UInt8} {bad : Bool} (h : RfAt w g F l bad) (ht : Touch S w w') (hg : ¬ S g) (hF : ∀ k, F k → ¬ S k) : RfAt w' g F l bad := by
  obtain ⟨hgF, A, cap, hl, hm, hb, hr⟩ := h
  exact ⟨hgF, A, cap, hl, hm, ht.blk hb hg, hr.touch ht hF⟩

theorem rf_fail (g : Nat) (F : Nat → Prop) (l : List UInt8) (bad : Bool) (w : World) (h : RfAt w g F l bad) :
    Calls Tryz.prog 65 #[.pointer (some ⟨g, 0, none⟩)] w (FPost (.tuple #[]) [] true w g F) := by
  obtain ⟨hg, A, cap, hl, hm, hb, hr⟩ := h
  have h0 := hb.cell 0
  have h1 := hb.cell 1
  have f0 := hb.frozen 0
  have f1 := hb.frozen 1
  simp at h0 h1
  clear hr
  go_enter Tryz.func65, Tryz.ntmps65
  go_wp2
  go_end0
  refine ⟨rfl, ⟨hg, none, 0, by simp, by simp, ?_, Rd.nil _ _ _⟩, ((Touch.refl (fun k => k = g) w).set (fun _ => rfl) _).set (fun _ => rfl) _⟩
  have := (hb.set_ 0 (.slice none 0 0)).set_ 1 (.bool true)
  simpa using this

/-- The reader goes on behind k bytes. -/
theorem rf_skip {w : World} {g : Nat} {F : Nat → Prop} {l : List UInt8} {bad : Bool} {A : Option Addr} {cap k : Nat} (hg : ¬ F g) (hb : Blk w g 64 #[.slice A l.length cap, .bool bad])
    (hr : Rd w F A l.length (l.map B8)) (hl : l.length ≤ cap) (hm : cap ≤ maxLen) (hk : k ≤ l.length) (A' : Option Addr) (hA : A' = if cap = k then A else A.map (·.add k)) (n' : Nat) (hn : n' = l.length - k) (c' : Nat) (hc : c' = cap - k) :
    RfAt (w.setCell ⟨g, 0, none⟩ (.slice A' n' c')) g F (l.drop k) bad ∧ Touch (fun k => k = g) w (w.setCell ⟨g, 0, none⟩ (.slice A' n' c')) := by
  subst hA hn hc
  have ht := (Touch.refl (fun k => k = g) w).set (b := g) (o := 0) (fun _ => rfl) (.slice (if cap = k then A else A.map (·.add k)) (l.length - k) (cap - k))
  refine ⟨⟨hg, (if cap = k then A else A.map (·.add k)), cap - k, by simp; omega, by omega, ?_, ?_⟩, ht⟩
  · have := hb.set_ 0 (.slice (if cap = k then A else A.map (·.add k)) (l.length - k) (cap - k))
    simpa using this
  · have h1 := (hr.touch ht (fun k hk e => hg (by subst e; exact hk))).cut hk hl
    rw [← List.map_drop] at h1
    simpa using h1

theorem rf_first_nil (g : Nat) (F : Nat → Prop) (bad : Bool) (w : World) (h : RfAt w g F [] bad) :
    Calls Tryz.prog 96 #[.pointer (some ⟨g, 0, none⟩)] w fun e w' => e = .returned (.tuple #[.int .u8 0, .bool false]) ∧ w = w' := by
  obtain ⟨hg, A, cap, hl, hm, hb, hr⟩ := h
  have h0 := hb.cell 0
  simp at h0
  clear hr
  go_enter Tryz.func96, Tryz.ntmps96
  go_wp2
  go_ret2
  exact ⟨rfl, rfl⟩

theorem rf_first_cons (g : Nat) (F : Nat → Prop) (c : UInt8) (l : List UInt8) (bad : Bool) (w : World) (h : RfAt w g F (c :: l) bad) :
    Calls Tryz.prog 96 #[.pointer (some ⟨g, 0, none⟩)] w (FPost (.tuple #[.int .u8 (c.toNat : Int), .bool true]) l bad w g F) := by
  obtain ⟨hg, A, cap, hl, hm, hb, hr⟩ := h
  have h0 := hb.cell 0
  have f0 := hb.frozen 0
  simp at h0
  obtain ⟨a, off, rfl, hlt, hF, hc⟩ := hr.2 (by simp)
  have hc0 := hc 0 (B8 c) (by simp)
  simp only [B8, Nat.add_zero] at hc0
  have Hr := Lib.hid hr
  have hcm : cap ≤ 9223372036854775807 := by unfold maxLen at hm; omega
  have hl' : l.length + 1 ≤ cap := by simpa using hl
  clear hr hc
  go_enter Tryz.func96, Tryz.ntmps96
  go_wp2
  all_goals
    go_ret2
    exact ⟨rfl, (rf_skip (l := c :: l) (k := 1) hg hb Hr.out hl hm (by simp) _ (by simp [*, addr_add]) _ (by simp) _ (by simp [*]))⟩

def rfOk (n : Nat) (l : List UInt8) : Bool := decide (n ≤ 8) && decide (n ≤ l.length) && !(decide (0 < n) && l.head? == some 0)

theorem rf_number_no (g : Nat) (F : Nat → Prop) (n : Nat) (l : List UInt8) (bad : Bool) (w : World) (h : RfAt w g F l bad) (hn : n < 256) (hno : rfOk n l = false) :
    Calls Tryz.prog 97 #[.pointer (some ⟨g, 0, none⟩), .int .i64 n] w fun e w' => e = .returned (.tuple #[.int .u64 0, .bool false]) ∧ w = w' := by
  obtain ⟨hg, A, cap, hl, hm, hb, hr⟩ := h
  have h0 := hb.cell 0
  simp at h0
  by_cases h1 : 8 < n
  · clear hr hno
    go_enter Tryz.func97, Tryz.ntmps97
    go_wp2
    go_ret2
    exact ⟨rfl, rfl⟩
  by_cases h2 : l.length < n
  · clear hr hno
    go_enter Tryz.func97, Tryz.ntmps97
    go_wp2
    go_ret2
    exact ⟨rfl, rfl⟩
  rcases l with _ | ⟨d, t⟩
  · simp [rfOk] at hno h2; omega
  obtain ⟨a, off, rfl, hlt, hF, hc⟩ := hr.2 (by simp)
  have hc0 := hc 0 (B8 d) (by simp)
  simp only [B8, Nat.add_zero] at hc0
  clear hr hc
  simp only [List.length_cons] at h2 h0
  have h34 : 0 < n ∧ d = 0 := by
    simp [rfOk] at hno
    refine ⟨(hno (by omega) (by omega)).1, (hno (by omega) (by omega)).2⟩
  obtain ⟨h3, h4⟩ := h34
  have hd0 : ((d.toNat : Int) == 0) = true := by rw [h4]; rfl
  clear hno h4
  go_enter Tryz.func97, Tryz.ntmps97
  go_wp2
  go_ret2
  exact ⟨rfl, rfl⟩

theorem rf_number_yes (g : Nat) (F : Nat → Prop) (n : Nat) (l : List UInt8) (bad : Bool) (w : World) (h : RfAt w g F l bad) (hno : rfOk n l = true) :
    Calls Tryz.prog 97 #[.pointer (some ⟨g, 0, none⟩), .int .i64 n] w (FPost (.tuple #[.int .u64 (be (l.take n) : Nat), .bool true]) (l.drop n) bad w g F) := by
  obtain ⟨hg, A, cap, hl, hm, hb, hr⟩ := h
  have h0 := hb.cell 0
  have f0 := hb.frozen 0
  simp at h0
  have hcm : cap ≤ 9223372036854775807 := by unfold maxLen at hm; omega
  have Hr := Lib.hid hr
  simp [rfOk] at hno
  obtain ⟨⟨h1, h2⟩, h3⟩ := hno
  rcases Nat.eq_zero_or_pos n with rfl | hpos
  · clear h3 hr
    go_enter Tryz.func97, Tryz.ntmps97
    go_wp2_with fail
    go_loop [6, 7] (fun x i => i = .int .i64 0 ∧ x = .int .u64 0) (fun _ _ => 0)
    case atStart => exact ⟨rfl, rfl⟩
    case round =>
      obtain ⟨rfl, rfl⟩ := hrel
      go_wp2
      all_goals
        go_ret2
        refine ⟨rfl, rf_skip (k := 0) hg hb Hr.out hl hm (by omega) _ ?_ _ ?_ _ ?_⟩
        · cases A <;> simp [*, Addr.add]
        · simp [*]
        · simp [*]
  · rcases l with _ | ⟨d, t⟩
    · simp at h2; omega
    obtain ⟨a, off, rfl, hlt, hF, hc⟩ := hr.2 (by simp)
    have hc0 := hc 0 (B8 d) (by simp)
    simp only [B8, Nat.add_zero] at hc0
    have hd0 : ((d.toNat : Int) == 0) = false := by
      have h4 := h3.resolve_left (by omega)
      simp at h4
      simp only [beq_eq_false_iff_ne, ne_eq]
      intro e
      exact h4 (UInt8.toNat_inj.1 (by simpa using e))
    have Hc := Lib.hid hc
    clear hc hr h3
    generalize hL : d :: t = l at *
    have hlp : 0 < l.length := by subst hL; simp
    clear hL
    go_enter Tryz.func97, Tryz.ntmps97
    go_wp2_with fail
    go_loop [6, 7] (fun x i => ∃ k : Nat, k ≤ n ∧ i = .int .i64 k ∧ x = .int .u64 (be (l.take k) : Nat)) (fun _ i => n - (intOf i).toNat)
    case atStart => exact ⟨0, by omega, rfl, rfl⟩
    case round =>
      obtain ⟨k, hk, rfl, rfl⟩ := hrel
      by_cases hks : k < n
      · have hck : w.cell? ⟨a, off + k, none⟩ = some (.int .u8 ((l.getD k 0).toNat : Int)) :=
          Hc.out k (B8 (l.getD k 0)) (by simp [List.getD, List.getElem?_eq_getElem (show k < l.length by omega)])
        have hbl : be (l.take k) * 256 < 18446744073709551616 := be_take_lt _ _ (by omega)
        have HS := Lib.hid (show be (l.take (k + 1)) = be (l.take k) * 256 + (l.getD k 0).toNat by rw [take_getD _ _ (by omega), be_snoc])
        have hxl := B8_lt (l.getD k 0)
        have hbl2 : be (l.take k) * 256 + (l.getD k 0).toNat < 18446744073709551616 := by
          have e1 := be_lt (l.take k)
          have e2 : 256 ^ (l.take k).length ≤ 256 ^ 7 := Nat.pow_le_pow_right (by omega) (by rw [List.length_take]; omega)
          have e3 : (256 : Nat) ^ 7 = 72057594037927936 := by decide
          omega
        generalize be (l.take k) = bk at *
        generalize l.getD k 0 = x at *
        go_wp2
        go_round
        case rel => exact ⟨k + 1, by omega, by go_num, by rw [HS.out]; go_num⟩
        case measure => simp [intOf]; omega
      · obtain rfl : k = n := by omega
        generalize be (l.take k) = x at *
        go_wp2
        all_goals
          go_ret2
          refine ⟨rfl, rf_skip (k := k) hg hb Hr.out hl hm (by omega) _ ?_ _ ?_ _ ?_⟩
          · simp [*, addr_add]
          · simp [*]
          · simp [*]
end Go.Proofs.YtcblbjhhlnmkjaaGreat
