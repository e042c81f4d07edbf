/- ref10.row, ref10.Put: the same bytes. (written by gencd.py) What the calls of the reference's Reader do (chapter 1): they read just as quill's do. -/
import Derived.Test.YtlcefchbfjfifaaGreatVCcB
import Derived.Test.YtlcefchbfjfifaaGreatVPlan
import Derived.Test.YtlcefchbfjfifaaGreatVWrA
import Derived.Test.YtlcefchbfjfifaaGreatVQuillY
section
namespace Go.Proofs.YtlcefchbfjfifaaGreat
open Go.RowKit Cal
set_option maxHeartbeats 4000000
set_option maxRecDepth 100000
set_option linter.unusedVariables false
attribute [local irreducible] wpPlan

theorem fbrow_any (F : Nat → Prop) (A : Option Addr) (k : Nat) (L : List Sp) (w : World) (hr : SpR w F A L.length L) (hbd : ∀ s ∈ L, 0 ≤ s.f ∧ s.f < 9223372036854775808 ∧ 0 ≤ s.t ∧ s.t < 9223372036854775808) (h1 : L.length ≤ 1000) :
    Calls Tryz.prog 92 #[.slice A L.length k] w (NewOwn w (encRow L)) := by
  have HR := Lib.hid hr
  have HB := Lib.hid hbd
  have hcv : IntKind.u64.wrap ((L.length : Nat) : Int) = ((L.length : Nat) : Int) := IntWalk.u64_in _ (by omega)
  have hl0 := encN_len 0 L.length
  clear hr hbd
  go_enter Tryz.func92, Tryz.ntmps92
  go_wp2_with (
    go_at_call 46
    go_must (refine (fnum_any L.length _ (by omega)).mono ?_)
    rintro e w1 h2
    obtain ⟨x, rfl, hx2⟩ := OwnX.of (Touch.refl _ _) h2
    have HX := Lib.hid hx2
    clear h2 hx2)
  clear hcv
  go_loopw [3, 4] (fun b i wr => ∃ j : Nat, j ≤ L.length ∧ i = .int .i64 j ∧ OwnX w wr (encN 0 L.length ++ encSps (L.take j)) b) (fun _ i _ => L.length - (intOf i).toNat)
  case atStart => exact ⟨0, by omega, rfl, by simpa [encSps] using HX.out⟩
  case round =>
    obtain ⟨j, hj, rfl, hM⟩ := hrel
    have HM := Lib.hid hM
    clear hM HX
    by_cases hjk : j < L.length
    · have ha : L[j]? = some (L[j]'hjk) := List.getElem?_eq_getElem _
      obtain ⟨gb, off, rfl, hgb, -, hc0, hc1⟩ := HR.out.at_ ha
      have hbs := HB.out _ (List.getElem_mem hjk)
      have HTk := Lib.hid (encSps_take L j _ ha)
      have hl2 := encSps_len (L.take j)
      have hl3 : (L.take j).length ≤ 1000 := by simp; omega
      generalize L[j]'hjk = s at *
      obtain ⟨f, t⟩ := s
      simp only at hc0 hc1 hbs HTk
      obtain ⟨b1, b2, b3, b4⟩ := hbs
      obtain ⟨f, rfl⟩ : ∃ f' : Nat, f = (f' : Int) := ⟨f.toNat, by omega⟩
      obtain ⟨t, rfl⟩ : ∃ t' : Nat, t = (t' : Int) := ⟨t.toNat, by omega⟩
      have hcf : IntKind.u64.wrap ((f : Nat) : Int) = (f : Int) := IntWalk.u64_in _ (by omega)
      have hct : IntKind.u64.wrap ((t : Nat) : Int) = (t : Int) := IntWalk.u64_in _ (by omega)
      have hl4 := encN_len 0 f
      have hl5 := encN_len 0 t
      clear ha
      have q0 := (HM.out.touch.cell (p := ⟨gb, off + j * 2, none⟩) hgb (fun e => e)).trans hc0
      go_wp2_with (first
          | (at_builtin
             have HM9 := HX6
             go_must (refine own_append_list rfl _ _ rfl _ _ _ _ rfl rfl HM6.out HX6.out (by simp; omega) ?_)
             intro v7 w7 h3 t3
             have HM7 := Lib.hid h3
             clear h3 t3)
          | (go_at_call 46
             have HM9 := HM5
             go_must (refine (fnum_any t _ (by omega)).mono ?_)
             rintro e w6 h2
             have hm2 := HM5.out.far h2.touch
             obtain ⟨x6, rfl, hx2⟩ := OwnX.of (Touch.refl _ _) h2
             have HM6 := Lib.hid hm2
             have HX6 := Lib.hid hx2
             clear h2 hm2 hx2)
          | (at_builtin
             have HM9 := HX4
             go_must (refine own_append_list rfl _ _ rfl _ _ _ _ rfl rfl HM4.out HX4.out (by simp; omega) ?_)
             intro v5 w5 h3 t3
             have HM5 := Lib.hid h3
             clear h3 t3; have q1 := (HM5.out.touch.cell (p := ⟨gb, off + j * 2 + 1, none⟩) hgb (fun e => e)).trans hc1)
          | (go_at_call 46
             have HM9 := HM
             go_must (refine (fnum_any f _ (by omega)).mono ?_)
             rintro e w4 h2
             have hm2 := HM.out.far h2.touch
             obtain ⟨x4, rfl, hx2⟩ := OwnX.of (Touch.refl _ _) h2
             have HM4 := Lib.hid hm2
             have HX4 := Lib.hid hx2
             clear h2 hm2 hx2))
      go_roundw
      case rel => exact ⟨j + 1, by omega, by go_num, by rw [HTk.out]; have := HM7.out; simpa [encS2, encs] using this⟩
      case measure => simp [intOf]; omega
    · obtain rfl : j = L.length := by omega
      have hm0 := HM.out
      rw [List.take_length] at hm0
      have HM := Lib.hid hm0
      clear hm0
      go_wp2
      go_ret
      have := OwnX.new HM.out (by simp [encN])
      simpa [encRow, encs] using this
theorem fput10_any (F : Nat → Prop) (A B : Option Addr) (k m : Nat) (c : Ca) (w : World) (hr : CaR w F c A B) (hbd : ∀ s ∈ c.wk ++ c.cl, 0 ≤ s.f ∧ s.f < 9223372036854775808 ∧ 0 ≤ s.t ∧ s.t < 9223372036854775808) (ho : -9223372036854775808 ≤ c.off ∧ c.off ≤ 9223372036854775807) (h1 : c.wk.length ≤ 1000) (h2 : c.cl.length ≤ 1000) :
    Calls Tryz.prog 62 #[.agg #[.int .i64 c.off, .slice A c.wk.length k, .slice B c.cl.length m]] w (NewOwn w (encCa c)) := by
  have HR := Lib.hid (hr.touch ((Touch.refl (fun _ => False) w).alloc (.cells #[.int .i64 c.off, .slice A c.wk.length k, .slice B c.cl.length m] 51)) (fun _ _ e => e))
  have HW := Lib.hid (fun w1 hr => fbrow_any F A k c.wk w1 hr (fun s hs => hbd s (by simp [hs])) h1)
  have HC := Lib.hid (fun w1 hr => fbrow_any F B m c.cl w1 hr (fun s hs => hbd s (by simp [hs])) h2)
  have hl1 := encI_len c.off
  have hl2 := encRow_len c.wk
  have hl3 := encRow_len c.cl
  have hpos : 0 < (encCa c).length := by simp [encCa, encRow, encs, encN]; omega
  have HQ := Lib.hid (show encCa c = encI c.off ++ encRow c.wk ++ encRow c.cl by simp [encCa, encIs])
  generalize encCa c = Q at *
  generalize encRow c.wk = R1 at *
  generalize encRow c.cl = R2 at *
  have hs : (w.alloc (.cells #[.int .i64 c.off, .slice A c.wk.length k, .slice B c.cl.length m] 51)).heap.size = w.heap.size + 1 := by simp
  obtain ⟨W1, hW1⟩ : ∃ W1, W1 = w.alloc (.cells #[.int .i64 c.off, .slice A c.wk.length k, .slice B c.cl.length m] 51) := ⟨_, rfl⟩
  have HT0 := Lib.hid (show Touch (fun _ => False) w W1 from hW1 ▸ (Touch.refl (fun _ => False) w).alloc _)
  have hbk : Blk W1 w.heap.size 51 #[.int .i64 c.off, .slice A c.wk.length k, .slice B c.cl.length m] := hW1 ▸ Blk.new w _ _
  rw [← hW1] at HR hs
  have hbd1 := ((Touch.refl (fun _ => False) W1).drew).blk hbk (fun e => e)
  have q0 := hbd1.cell 0; have q1 := hbd1.cell 1; have q2 := hbd1.cell 2
  simp at q0 q1 q2
  have hlt := hbd1.lt
  have hns : ¬ w.heap.size < w.heap.size := by omega
  have HWW := Lib.hid hW1
  clear hr hbd hbk hbd1 hW1
  go_enter Tryz.func62, Tryz.ntmps62
  go_wp2_with fail
  rw [← HWW.out]
  refine wp_region_plan [(0, 0), (0, 1), (1, 3), (1, 4), (1, 7), (1, 8), (2, 2), (2, 5), (2, 6), (2, 9), (2, 10), (0, 11)] (fun q => w.heap.size < q) (by kernel_rfl) (by kernel_rfl) (fun c a d v w h => by cases d <;> exact h) ?_
  iterate 2
    refine plan_s1 rfl (by rfl) (fun Kc hKc => ?_)
    go_simp
    first
      | (refine hKc _ ?_)
    clear hKc Kc
  iterate 4
    apply plan_h
    · rfl
    · rfl
    · intro wh hT
      have hf0 := (hT.cell (p := ⟨w.heap.size, 1, none⟩) hlt hns).trans q1
      have hf1 := (hT.cell (p := ⟨w.heap.size, 2, none⟩) hlt hns).trans q2
      go_simp
      try rfl
    go_frame
  refine plan_a1 rfl (by rfl) (fun Kc hKc => ?_)
  go_simp
  refine (fint_any _ _ (by omega) (by omega)).mono ?_
  rintro e w2 h2
  obtain ⟨x, rfl, hx2⟩ := OwnX.of (Touch.refl _ _).drew h2
  have HM := Lib.hid hx2
  have t2 : Touch (fun _ => False) W1.drew w2 := by obtain ⟨_, _, _, t⟩ := hx2; exact ⟨t.os, t.tape, t.output, t.size, t.block⟩
  clear h2 hx2
  refine hKc _ _ ⟨t2.mono (fun _ _ e => e.elim), ?_⟩
  clear hKc Kc
  clear t2
  refine plan_a1 rfl (by rfl) (fun Kc hKc => ?_)
  go_simp
  refine (HW.out _ (by exact HR.out.wk.touch HM.out.touch (fun _ _ e => e))).mono ?_
  rintro e w3 h3
  have t3 : Touch (fun _ => False) w2 w3 := h3.touch
  have HM := Lib.hid (HM.out.far t3)
  obtain ⟨x3, rfl, hx3⟩ := OwnX.of (Touch.refl _ _) h3
  have HX := Lib.hid hx3
  clear h3 hx3
  refine hKc _ _ ⟨t3.mono (fun _ _ e => e.elim), ?_⟩
  clear hKc Kc
  clear t3
  refine plan_a1 rfl (by rfl) (fun Kc hKc => ?_)
  refine own_append_op _ _ rfl _ _ _ _ rfl rfl HM.out HX.out (by omega) ?_
  intro v4 w4 h4 t4
  have HM := Lib.hid h4
  refine hKc _ _ ⟨t4.mono (fun q _ e => by omega), ?_⟩
  clear hKc Kc h4 t4
  refine plan_a1 rfl (by rfl) (fun Kc hKc => ?_)
  go_simp
  refine (HC.out _ (by exact HR.out.cl.touch HM.out.touch (fun _ _ e => e))).mono ?_
  rintro e w5 h5
  have t5 : Touch (fun _ => False) w4 w5 := h5.touch
  have HM := Lib.hid (HM.out.far t5)
  obtain ⟨x5, rfl, hx5⟩ := OwnX.of (Touch.refl _ _) h5
  have HX := Lib.hid hx5
  clear h5 hx5
  refine hKc _ _ ⟨t5.mono (fun _ _ e => e.elim), ?_⟩
  clear hKc Kc
  clear t5
  refine plan_a1 rfl (by rfl) (fun Kc hKc => ?_)
  refine own_append_op _ _ rfl _ _ _ _ rfl rfl HM.out HX.out (by simp; omega) ?_
  intro v6 w6 h6 t6
  have HM := Lib.hid h6
  refine hKc _ _ ⟨t6.mono (fun q _ e => by omega), ?_⟩
  clear hKc Kc h6 t6
  iterate 1
    refine plan_s1 rfl (by rfl) (fun Kc hKc => ?_)
    go_simp
    first
      | (refine hKc _ ?_)
    clear hKc Kc
  refine plan_done ?_
  go_wp2
  go_ret
  exact NewOwn.before HT0.out (OwnX.new (by rw [HQ.out]; exact HM.out) hpos)
end Go.Proofs.YtlcefchbfjfifaaGreat
end

section
namespace Go.Proofs.YtlcefchbfjfifaaGreat
open Go.RowKit
set_option maxHeartbeats 2000000
set_option maxRecDepth 100000

/-- The reference's reader at block g. -/
def RfAt (w : World) (g : Nat) (F : Nat → Prop) (l : List UInt8) (bad : Bool) : Prop :=
  ¬ F g ∧ ∃ A cap, l.length ≤ cap ∧ cap ≤ maxLen ∧ Blk w g 44 #[.slice A l.length cap, .bool bad] ∧ Rd w F A l.length (l.map B8)
def FPost (v : Value) (l : List UInt8) (bad : Bool) (w : World) (g : Nat) (F : Nat → Prop) (e : Ending) (w' : World) : Prop :=
  e = .returned v ∧ RfAt w' g F l bad ∧ Touch (fun k => k = g) w w'

theorem rfAt_touch {w w' : World} {g : Nat} {F S : Nat → Prop} {l : List UInt8} {bad : Bool} (h : RfAt w g F l bad) (ht : Touch S w w') (hg : ¬ S g) (hF : ∀ k, F k → ¬ S k) : RfAt w' g F l bad := by
  obtain ⟨hgF, A, cap, hl, hm, hb, hr⟩ := h
  exact ⟨hgF, A, cap, hl, hm, ht.blk hb hg, hr.touch ht hF⟩

theorem rf_fail (g : Nat) (F : Nat → Prop) (l : List UInt8) (bad : Bool) (w : World) (h : RfAt w g F l bad) :
    Calls Tryz.prog 48 #[.pointer (some ⟨g, 0, none⟩)] w (FPost (.tuple #[]) [] true w g F) := by
  obtain ⟨hg, A, cap, hl, hm, hb, hr⟩ := h
  have h0 := hb.cell 0
  have h1 := hb.cell 1
  have f0 := hb.frozen 0
  have f1 := hb.frozen 1
  simp at h0 h1
  clear hr
  go_enter Tryz.func48, Tryz.ntmps48
  go_wp2
  go_end0
  refine ⟨rfl, ⟨hg, none, 0, by simp, by simp, ?_, Rd.nil _ _ _⟩, ((Touch.refl (fun k => k = g) w).set (fun _ => rfl) _).set (fun _ => rfl) _⟩
  have := (hb.set_ 0 (.slice none 0 0)).set_ 1 (.bool true)
  simpa using this

/-- The reader goes on behind k bytes. -/
theorem rf_skip {w : World} {g : Nat} {F : Nat → Prop} {l : List UInt8} {bad : Bool} {A : Option Addr} {cap k : Nat} (hg : ¬ F g) (hb : Blk w g 44 #[.slice A l.length cap, .bool bad])
    (hr : Rd w F A l.length (l.map B8)) (hl : l.length ≤ cap) (hm : cap ≤ maxLen) (hk : k ≤ l.length) (A' : Option Addr) (hA : A' = if cap = k then A else A.map (·.add k)) (n' : Nat) (hn : n' = l.length - k) (c' : Nat) (hc : c' = cap - k) :
    RfAt (w.setCell ⟨g, 0, none⟩ (.slice A' n' c')) g F (l.drop k) bad ∧ Touch (fun k => k = g) w (w.setCell ⟨g, 0, none⟩ (.slice A' n' c')) := by
  subst hA hn hc
  have ht := (Touch.refl (fun k => k = g) w).set (b := g) (o := 0) (fun _ => rfl) (.slice (if cap = k then A else A.map (·.add k)) (l.length - k) (cap - k))
  refine ⟨⟨hg, (if cap = k then A else A.map (·.add k)), cap - k, by simp; omega, by omega, ?_, ?_⟩, ht⟩
  · have := hb.set_ 0 (.slice (if cap = k then A else A.map (·.add k)) (l.length - k) (cap - k))
    simpa using this
  · have h1 := (hr.touch ht (fun k hk e => hg (by subst e; exact hk))).cut hk hl
    rw [← List.map_drop] at h1
    simpa using h1

theorem rf_first_nil (g : Nat) (F : Nat → Prop) (bad : Bool) (w : World) (h : RfAt w g F [] bad) :
    Calls Tryz.prog 80 #[.pointer (some ⟨g, 0, none⟩)] w fun e w' => e = .returned (.tuple #[.int .u8 0, .bool false]) ∧ w = w' := by
  obtain ⟨hg, A, cap, hl, hm, hb, hr⟩ := h
  have h0 := hb.cell 0
  simp at h0
  clear hr
  go_enter Tryz.func80, Tryz.ntmps80
  go_wp2
  go_ret2
  exact ⟨rfl, rfl⟩

theorem rf_first_cons (g : Nat) (F : Nat → Prop) (c : UInt8) (l : List UInt8) (bad : Bool) (w : World) (h : RfAt w g F (c :: l) bad) :
    Calls Tryz.prog 80 #[.pointer (some ⟨g, 0, none⟩)] w (FPost (.tuple #[.int .u8 (c.toNat : Int), .bool true]) l bad w g F) := by
  obtain ⟨hg, A, cap, hl, hm, hb, hr⟩ := h
  have h0 := hb.cell 0
  have f0 := hb.frozen 0
  simp at h0
  obtain ⟨a, off, rfl, hlt, hF, hc⟩ := hr.2 (by simp)
  have hc0 := hc 0 (B8 c) (by simp)
  simp only [B8, Nat.add_zero] at hc0
  have Hr := Lib.hid hr
  have hcm : cap ≤ 9223372036854775807 := by unfold maxLen at hm; omega
  have hl' : l.length + 1 ≤ cap := by simpa using hl
  clear hr hc
  go_enter Tryz.func80, Tryz.ntmps80
  go_wp2
  all_goals
    go_ret2
    exact ⟨rfl, (rf_skip (l := c :: l) (k := 1) hg hb Hr.out hl hm (by simp) _ (by simp [*, addr_add]) _ (by simp) _ (by simp [*]))⟩

def rfOk (n : Nat) (l : List UInt8) : Bool := decide (n ≤ 8) && decide (n ≤ l.length) && !(decide (0 < n) && l.head? == some 0)

theorem rf_number_no (g : Nat) (F : Nat → Prop) (n : Nat) (l : List UInt8) (bad : Bool) (w : World) (h : RfAt w g F l bad) (hn : n < 256) (hno : rfOk n l = false) :
    Calls Tryz.prog 81 #[.pointer (some ⟨g, 0, none⟩), .int .i64 n] w fun e w' => e = .returned (.tuple #[.int .u64 0, .bool false]) ∧ w = w' := by
  obtain ⟨hg, A, cap, hl, hm, hb, hr⟩ := h
  have h0 := hb.cell 0
  simp at h0
  by_cases h1 : 8 < n
  · clear hr hno
    go_enter Tryz.func81, Tryz.ntmps81
    go_wp2
    go_ret2
    exact ⟨rfl, rfl⟩
  by_cases h2 : l.length < n
  · clear hr hno
    go_enter Tryz.func81, Tryz.ntmps81
    go_wp2
    go_ret2
    exact ⟨rfl, rfl⟩
  rcases l with _ | ⟨d, t⟩
  · simp [rfOk] at hno h2; omega
  obtain ⟨a, off, rfl, hlt, hF, hc⟩ := hr.2 (by simp)
  have hc0 := hc 0 (B8 d) (by simp)
  simp only [B8, Nat.add_zero] at hc0
  clear hr hc
  simp only [List.length_cons] at h2 h0
  have h34 : 0 < n ∧ d = 0 := by
    simp [rfOk] at hno
    refine ⟨(hno (by omega) (by omega)).1, (hno (by omega) (by omega)).2⟩
  obtain ⟨h3, h4⟩ := h34
  have hd0 : ((d.toNat : Int) == 0) = true := by rw [h4]; rfl
  clear hno h4
  go_enter Tryz.func81, Tryz.ntmps81
  go_wp2
  go_ret2
  exact ⟨rfl, rfl⟩

theorem rf_number_yes (g : Nat) (F : Nat → Prop) (n : Nat) (l : List UInt8) (bad : Bool) (w : World) (h : RfAt w g F l bad) (hno : rfOk n l = true) :
    Calls Tryz.prog 81 #[.pointer (some ⟨g, 0, none⟩), .int .i64 n] w (FPost (.tuple #[.int .u64 (be (l.take n) : Nat), .bool true]) (l.drop n) bad w g F) := by
  obtain ⟨hg, A, cap, hl, hm, hb, hr⟩ := h
  have h0 := hb.cell 0
  have f0 := hb.frozen 0
  simp at h0
  have hcm : cap ≤ 9223372036854775807 := by unfold maxLen at hm; omega
  have Hr := Lib.hid hr
  simp [rfOk] at hno
  obtain ⟨⟨h1, h2⟩, h3⟩ := hno
  rcases Nat.eq_zero_or_pos n with rfl | hpos
  · clear h3 hr
    go_enter Tryz.func81, Tryz.ntmps81
    go_wp2_with fail
    go_loop [6, 7] (fun x i => i = .int .i64 0 ∧ x = .int .u64 0) (fun _ _ => 0)
    case atStart => exact ⟨rfl, rfl⟩
    case round =>
      obtain ⟨rfl, rfl⟩ := hrel
      go_wp2
      all_goals
        go_ret2
        refine ⟨rfl, rf_skip (k := 0) hg hb Hr.out hl hm (by omega) _ ?_ _ ?_ _ ?_⟩
        · cases A <;> simp [*, Addr.add]
        · simp [*]
        · simp [*]
  · rcases l with _ | ⟨d, t⟩
    · simp at h2; omega
    obtain ⟨a, off, rfl, hlt, hF, hc⟩ := hr.2 (by simp)
    have hc0 := hc 0 (B8 d) (by simp)
    simp only [B8, Nat.add_zero] at hc0
    have hd0 : ((d.toNat : Int) == 0) = false := by
      have h4 := h3.resolve_left (by omega)
      simp at h4
      simp only [beq_eq_false_iff_ne, ne_eq]
      intro e
      exact h4 (UInt8.toNat_inj.1 (by simpa using e))
    have Hc := Lib.hid hc
    clear hc hr h3
    generalize hL : d :: t = l at *
    have hlp : 0 < l.length := by subst hL; simp
    clear hL
    go_enter Tryz.func81, Tryz.ntmps81
    go_wp2_with fail
    go_loop [6, 7] (fun x i => ∃ k : Nat, k ≤ n ∧ i = .int .i64 k ∧ x = .int .u64 (be (l.take k) : Nat)) (fun _ i => n - (intOf i).toNat)
    case atStart => exact ⟨0, by omega, rfl, rfl⟩
    case round =>
      obtain ⟨k, hk, rfl, rfl⟩ := hrel
      by_cases hks : k < n
      · have hck : w.cell? ⟨a, off + k, none⟩ = some (.int .u8 ((l.getD k 0).toNat : Int)) :=
          Hc.out k (B8 (l.getD k 0)) (by simp [List.getD, List.getElem?_eq_getElem (show k < l.length by omega)])
        have hbl : be (l.take k) * 256 < 18446744073709551616 := be_take_lt _ _ (by omega)
        have HS := Lib.hid (show be (l.take (k + 1)) = be (l.take k) * 256 + (l.getD k 0).toNat by rw [take_getD _ _ (by omega), be_snoc])
        have hxl := B8_lt (l.getD k 0)
        have hbl2 : be (l.take k) * 256 + (l.getD k 0).toNat < 18446744073709551616 := by
          have e1 := be_lt (l.take k)
          have e2 : 256 ^ (l.take k).length ≤ 256 ^ 7 := Nat.pow_le_pow_right (by omega) (by rw [List.length_take]; omega)
          have e3 : (256 : Nat) ^ 7 = 72057594037927936 := by decide
          omega
        generalize be (l.take k) = bk at *
        generalize l.getD k 0 = x at *
        go_wp2
        go_round
        case rel => exact ⟨k + 1, by omega, by go_num, by rw [HS.out]; go_num⟩
        case measure => simp [intOf]; omega
      · obtain rfl : k = n := by omega
        generalize be (l.take k) = x at *
        go_wp2
        all_goals
          go_ret2
          refine ⟨rfl, rf_skip (k := k) hg hb Hr.out hl hm (by omega) _ ?_ _ ?_ _ ?_⟩
          · simp [*, addr_add]
          · simp [*]
          · simp [*]
end Go.Proofs.YtlcefchbfjfifaaGreat
end
