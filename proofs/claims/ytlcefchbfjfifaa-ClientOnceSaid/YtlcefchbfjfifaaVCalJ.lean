/- slices.Clone at spans; package almanac: New, all, Row, Next, Closed. Package week: none, at, Open, Row. Package week: Open, Row, Total. Package week: Until, Between. lazy.New; week.New. Package almanac: Next, Closed. -/
import Derived.Test.YtlcefchbfjfifaaVCalH
import Derived.Carry
import Derived.Lib.Walk
import Derived.Test.YtlcefchbfjfifaaVCalG
section
namespace Go.Proofs.Ytlcefchbfjfifaa
open Go.RowKit Cal
set_option maxHeartbeats 4000000
set_option maxRecDepth 100000
set_option linter.unusedVariables false
attribute [local irreducible] wpPlan

theorem spC_one (l : List Sp) : ∀ u ∈ l.flatMap spC, u.oneCell' = true := by
  intro u hu
  obtain ⟨s, -, hs⟩ := List.mem_flatMap.1 hu
  simp [spC] at hs
  rcases hs with rfl | rfl <;> rfl
theorem SpR.near {w : World} {F : Nat → Prop} {A : Option Addr} {n : Nat} {l : List Sp} (h : SpR w F A n l) : SpR w (fun k => F k ∧ k < w.heap.size) A n l :=
  ⟨h.1, h.2.1, fun hn => by obtain ⟨g, off, e, hl, hf, hc⟩ := h.2.2 hn; exact ⟨g, off, e, hl, ⟨hf, hl⟩, hc⟩⟩
theorem SpR.isN {w : World} {F : Nat → Prop} {n : Nat} {l : List Sp} (h : SpR w F none n l) : n = 0 ∧ l = [] := by
  have h0 : n = 0 := by
    rcases Nat.eq_zero_or_pos n with h0 | h0
    · exact h0
    · obtain ⟨_, _, e, _⟩ := h.2.2 h0; cases e
  exact ⟨h0, List.eq_nil_of_length_eq_zero (by rw [h.1, h0])⟩
theorem SpR.isS {w : World} {F : Nat → Prop} {ad : Addr} {n : Nat} {l : List Sp} (h : SpR w F (some ad) n l) : ∀ j u, (l.flatMap spC)[j]? = some u → w.cell? (ad.add j) = some u := by
  intro j u hj
  have hjl := (List.getElem?_eq_some_iff.1 hj).1
  have hlen : (l.flatMap spC).length = n * 2 := h.2.1
  obtain ⟨g, off, e, _, _, hc⟩ := h.2.2 (by omega)
  injection e with e
  subst e
  rw [addr_add]
  exact hc j u hj
theorem sclone_any (F : Nat → Prop) (A : Option Addr) (c : Nat) (l : List Sp) (w : World) (h : SpR w F A l.length l) (hn : l.length ≤ 1000000) :
    Calls Try.prog 96 #[.slice A l.length c] w (NewSpan w l) := by
  rcases A with _ | ad
  · obtain ⟨h0, rfl⟩ := h.isN
    clear h hn h0
    have hbin : ∀ w, (binOp .eql 28 (.slice none 0 c) (.slice none 0 0)).run Try.prog w = .ok (.bool true) w := fun w => by first | rfl | simp [go_sem]
    simp only [List.length_nil]
    go_enter Try.func96, Try.ntmps96
    go_wp2
    go_ret
    exact ⟨none, 0, rfl, Nat.le_refl _, by simp, fun _ => rfl, SpR.nil _ _ _, Touch.refl _ _⟩
  · have Hn := Lib.hid (show ∀ j u, (l.flatMap spC)[j]? = some u → (w.alloc (.cells #[] 140)).cell? (ad.add j) = some u from fun j u hj => (World.cell?_alloc_lt _ _ _ (World.block_lt_of_cell? w _ (h.isS j u hj))).trans (h.isS j u hj))
    have h1 := Lib.hid (spC_one l)
    have hfl := Lib.hid (show (l.flatMap spC).length = l.length * 2 from h.2.1)
    obtain ⟨i0, hi, hz0, hz1, hz2⟩ := info_parts infoS
    have HO := Lib.hid (show Own (w.alloc (.cells #[] 140)) 140 2 (.slice (some ⟨w.heap.size, 0, none⟩) 0 0) (some w.heap.size) 0 [] from by simpa using Own.lit w 140 2 #[] 0 (by simp) (by simp))
    clear h
    generalize hm : l.length = m at *
    have hbin : ∀ w, (binOp .eql 28 (.slice (some ad) m c) (.slice none 0 0)).run Try.prog w = .ok (.bool false) w := fun w => by first | rfl | simp [go_sem]
    have HM := Lib.hid hm
    clear hm
    go_enter Try.func96, Try.ntmps96
    go_wp2_with (at_builtin; go_must (refine wpList_own_append rfl _ _ 28 28 rfl 140 i0 (.agg #[.int .i64 0, .int .i64 0]) 2 16 Try.underlying28 hi hz0 hz1 hz2 rfl _ (some w.heap.size) 0 [] rfl (by exact HO.out) _ m (l.flatMap spC) rfl (by exact Src.ofSlice _ Try.underlying28 ad m c _ hfl.out Hn.out h1.out) (by simp only [maxLen]; omega) (by omega) ?_); intro v1 r1 w1 ho1 ht1 hr1; have HR1 := Lib.hid (And.intro ho1 (And.intro ht1 hr1)); clear ho1 ht1 hr1)
    go_ret
    obtain ⟨ho1, ht1, hr1⟩ := HR1.out
    obtain ⟨A', c', hv, k1, k2, k3, k4⟩ := ho1.spR (l := l) (by simp) (by simp [HM.out])
    rw [Nat.zero_add, ← HM.out] at k4 hv k1
    refine ⟨A', c', by rw [← hv]; rfl, k1, k2, k3, k4.mono (fun q hq => ?_), ((Touch.refl _ w).alloc _).trans ht1 (fun q hq e => ?_)⟩
    · rcases hr1 with e | ⟨q', e, hq'⟩
      · rw [e] at hq; injection hq with hq; omega
      · rw [e] at hq; injection hq with hq; simp at hq'; omega
    · injection e with e; omega
/-- An almanac. -/
structure AlAt (w : World) (g : Nat) (cl : List Sp) (B : Option Addr) (m : Nat) (F : Nat → Prop) : Prop where
  blk : Blk w g 183 #[.slice B cl.length m]
  row : SpR w F B cl.length cl
theorem AlAt.touch {w w' : World} {g : Nat} {cl : List Sp} {B : Option Addr} {m : Nat} {F S : Nat → Prop} (h : AlAt w g cl B m F) (ht : Touch S w w') (hg : ¬ S g) (hd : ∀ k, F k → ¬ S k) : AlAt w' g cl B m F := ⟨ht.blk h.blk hg, h.row.touch ht hd⟩
def NewAl (w : World) (l : List Sp) (e : Ending) (w' : World) : Prop :=
  ∃ g B m, e = .returned (.tuple #[.pointer (some ⟨g, 0, none⟩), .int .i64 0]) ∧ AlAt w' g l B m (fun k => w.heap.size ≤ k ∧ k ≠ g) ∧ w.heap.size ≤ g ∧ Touch (fun _ => False) w w'
theorem alnew_yes (F : Nat → Prop) (A : Option Addr) (c : Nat) (l : List Sp) (w : World) (h : SpR w F A l.length l) (hr : rowE l = 0) :
    Calls Try.prog 91 #[.slice A l.length c] w (NewAl w l) := by
  have hlen := (rowE_row hr).2
  have HF := Lib.hid (row_any F A c l w h (by omega))
  rw [hr] at HF
  have HC := Lib.hid (fun w1 h => sclone_any F A c l w1 h (by omega))
  have HR := Lib.hid h
  clear h hr
  go_enter Try.func91, Try.ntmps91
  go_wp2_with (first
    | (go_at_call 95; go_must (refine HF.out.mono ?_); rintro e w0 ⟨rfl, t0⟩; have HT0 := Lib.hid t0; clear t0)
    | (go_at_call 96; go_must (refine (HC.out _ (by exact HR.out.touch HT0.out (fun _ _ e => e))).mono ?_); rintro e w1 ⟨A1, c1, rfl, -, -, -, h4, h5⟩; have HQ := Lib.hid (And.intro h4 h5); clear h4 h5))
  go_ret2
  obtain ⟨h4, h5⟩ := HQ.out
  have s0 := HT0.out.size
  have s1 := h5.size
  have hal := (Touch.refl (fun _ => False) w1).alloc (.cells #[.slice A1 l.length c1] 183)
  exact ⟨w1.heap.size, A1, c1, rfl, ⟨Blk.new _ _ _, (h4.near.touch hal (fun _ _ e => e)).mono (fun k hk => ⟨by have := hk.1; omega, by have := hk.2; omega⟩)⟩, by omega, (HT0.out.trans h5 (fun _ _ e => e)).trans hal (fun _ _ e => e)⟩
theorem alnew_no (F : Nat → Prop) (A : Option Addr) (c : Nat) (l : List Sp) (w : World) (h : SpR w F A l.length l) (hr : rowE l ≠ 0) (hn : l.length ≤ 1000000) :
    Calls Try.prog 91 #[.slice A l.length c] w fun e w' => e = .returned (.tuple #[.pointer none, .int .i64 (rowE l)]) ∧ Touch (fun _ => False) w w' := by
  have HF := Lib.hid (row_any F A c l w h hn)
  have hb : (rowE l != 0) = true := by simpa using hr
  generalize rowE l = v at *
  clear h hr
  go_enter Try.func91, Try.ntmps91
  go_wp2_with (go_at_call 95; go_must (refine HF.out.mono ?_); rintro e w0 ⟨rfl, t0⟩; have HT0 := Lib.hid t0; clear t0)
  go_ret2
  exact ⟨rfl, HT0.out⟩
end Go.Proofs.Ytlcefchbfjfifaa
end

section
namespace Go.Proofs.Ytlcefchbfjfifaa
open Go.RowKit Cal
set_option maxHeartbeats 4000000
set_option maxRecDepth 100000
set_option linter.unusedVariables false
attribute [local irreducible] wpPlan

def sgn (b : Bool) : Int := if b then -1 else 1
def BsP (l : List Sp) (x : Int) (w : World) (e : Ending) (w' : World) : Prop := ∃ i : Nat, AtP l x i ∧ e = .returned (.tuple #[.int .i64 i, .bool false]) ∧ Touch (fun _ => False) w w'
end Go.Proofs.Ytlcefchbfjfifaa
end

section
namespace Go.Proofs.Ytlcefchbfjfifaa
open Go.RowKit Cal
set_option maxHeartbeats 4000000
set_option maxRecDepth 100000
set_option linter.unusedVariables false
attribute [local irreducible] wpPlan

theorem SpR.at_or {w : World} {F : Nat → Prop} {A : Option Addr} {n : Nat} {l : List Sp} (h : SpR w F A n l) (i : Nat) :
    (∃ g off f t, A = some ⟨g, off, none⟩ ∧ l[i]? = some ⟨f, t⟩ ∧ i < n ∧ w.cell? ⟨g, off + i * 2, none⟩ = some (.int .i64 f) ∧ w.cell? ⟨g, off + i * 2 + 1, none⟩ = some (.int .i64 t)) ∨ (¬ i < n ∧ l[i]? = none) := by
  by_cases hl : i < l.length
  · obtain ⟨g, off, e, -, -, h0, h1⟩ := h.at_ (List.getElem?_eq_getElem hl)
    exact .inl ⟨g, off, l[i].f, l[i].t, e, List.getElem?_eq_getElem hl, by rw [← h.1]; exact hl, h0, h1⟩
  · exact .inr ⟨by rw [← h.1]; exact hl, List.getElem?_eq_none (by omega)⟩
theorem Rd.sum {w : World} {F : Nat → Prop} {A : Option Addr} {n : Nat} {wk : List Sp} (h : Rd w F A n ((sumsN wk wk.length).map V64)) {i : Nat} (hi : i ≤ wk.length) :
    ∃ g off, A = some ⟨g, off, none⟩ ∧ g < w.heap.size ∧ w.cell? ⟨g, off + i, none⟩ = some (.int .i64 (longS (wk.take i))) := by
  have hn : n = wk.length + 1 := by have := h.1; rw [List.length_map, sumsN_len] at this; omega
  obtain ⟨g, off, e, hg, -, hc⟩ := h.2 (by omega)
  refine ⟨g, off, e, hg, hc i _ ?_⟩
  rw [List.getElem?_map, sumsN_get wk wk.length i hi]; rfl
/-- What a call that may fill the lazy cell leaves. -/
def PnInt (g : Nat) (wk : List Sp) (b : Nat) (G : Nat → Prop) (v : Int) (w : World) (e : Ending) (w' : World) : Prop :=
  e = .returned (.int .i64 v) ∧ PnAt w' g wk b (More G w w') ∧ Touch (fun q => q = b) w w'
end Go.Proofs.Ytlcefchbfjfifaa
end

section
namespace Go.Proofs.Ytlcefchbfjfifaa
open Go.RowKit Cal
set_option maxHeartbeats 4000000
set_option maxRecDepth 100000
set_option linter.unusedVariables false
attribute [local irreducible] wpPlan

theorem PnAt.drew {w : World} {g : Nat} {wk : List Sp} {b : Nat} {G : Nat → Prop} (h : PnAt w g wk b G) : PnAt w.drew g wk b G := h.touch ((Touch.refl (fun _ => False) w).drew) (fun e => e) (fun _ _ e => e)
theorem PnAt.more2 {w w1 w2 : World} {g : Nat} {wk : List Sp} {b : Nat} {G : Nat → Prop} (h : PnAt w2 g wk b (More (More G w w1) w1 w2)) (h1 : w.heap.size ≤ w1.heap.size) (h2 : w1.heap.size ≤ w2.heap.size) (hb : ¬ G b) (hbl : b < w.heap.size) : PnAt w2 g wk b (More G w w2) :=
  h.grow (more_trans h1 h2) (fun e => by rcases e with e | e; exact hb e; omega)
end Go.Proofs.Ytlcefchbfjfifaa
end

section
namespace Go.Proofs.Ytlcefchbfjfifaa
open Go.RowKit Cal
set_option maxHeartbeats 4000000
set_option maxRecDepth 100000
set_option linter.unusedVariables false
attribute [local irreducible] wpPlan

theorem lnew_any (g : Nat) (w : World) :
    Calls Try.prog 97 #[.func (.func 98) #[.pointer (some ⟨g, 0, none⟩)] #[]] w fun e w' => e = .returned (.pointer (some ⟨w.heap.size, 0, none⟩)) ∧ w' = w.alloc (.cells #[.int .u32 0, .int .i32 0, .int .u32 0, .int .u32 0, .int .i64 0, .func (.func 98) #[.pointer (some ⟨g, 0, none⟩)] #[], .slice none 0 0] 200) := by
  go_enter Try.func97, Try.ntmps97
  go_wp2
  go_ret
  exact ⟨rfl, rfl⟩
theorem over_last {l : List Sp} {e : Int} (h : Row e l) {s : Sp} (hs : l[l.length - 1]? = some s) : overB l = decide (604800 < s.t) := by
  have key : ∀ (l : List Sp), overB l = true ↔ ∃ x ∈ l, 604800 < x.t := by
    intro l
    induction l with
    | nil => simp [overB]
    | cons x l ih => simp [overB, ih]
  rw [Bool.eq_iff_iff, key, decide_eq_true_iff]
  constructor
  · rintro ⟨x, hx, hxt⟩
    obtain ⟨i, hi⟩ := List.mem_iff_getElem?.1 hx
    have hil := (List.getElem?_eq_some_iff.1 hi).1
    rcases Nat.lt_or_ge i (l.length - 1) with hlt | hge
    · have := Row.sorted h hi hs hlt
      have := Row.getE h hs
      omega
    · have : i = l.length - 1 := by omega
      subst this
      rw [hi] at hs; injection hs with hs; subst hs; exact hxt
  · intro hst
    exact ⟨s, List.mem_of_getElem? hs, hst⟩
def NewPn (w : World) (wk : List Sp) (e : Ending) (w' : World) : Prop :=
  ∃ g b, e = .returned (.tuple #[.pointer (some ⟨g, 0, none⟩), .int .i64 0]) ∧ PnAt w' g wk b (fun k => w.heap.size ≤ k ∧ k < w'.heap.size ∧ k ≠ b) ∧ w.heap.size ≤ b ∧ b < w'.heap.size ∧ w.heap.size ≤ g ∧ Touch (fun _ => False) w w'
theorem wnew_bad (F : Nat → Prop) (A : Option Addr) (c : Nat) (l : List Sp) (w : World) (h : SpR w F A l.length l) (hn : l.length ≤ 1000000) (hr : weekE l ≠ 0) :
    Calls Try.prog 90 #[.slice A l.length c] w fun e w' => e = .returned (.tuple #[.pointer none, .int .i64 (weekE l)]) ∧ Touch (fun _ => False) w w' := by
  have HF := Lib.hid (row_any F A c l w h hn)
  have HR := Lib.hid h
  by_cases h1 : rowE l = 0
  · rw [h1] at HF
    have ho : overB l = true := by
      unfold weekE at hr
      rw [if_neg (by simp [h1])] at hr
      cases hh : overB l
      · rw [hh] at hr; simp at hr
      · rfl
    have HV := Lib.hid (show weekE l = 2 by unfold weekE; rw [if_neg (by simp [h1]), ho]; rfl)
    have hne : l.length ≠ 0 := by
      intro e
      rw [List.eq_nil_of_length_eq_zero e] at ho
      simp [overB] at ho
    have ha : l[l.length - 1]? = some (l[l.length - 1]'(by omega)) := List.getElem?_eq_getElem _
    have hlast := over_last (rowE_row h1).1 ha
    rw [ho] at hlast
    have ht := of_decide_eq_true hlast.symm
    have HA := Lib.hid ha
    generalize l[l.length - 1]'(by omega) = s at *
    obtain ⟨f, t⟩ := s
    simp only at ht
    have hpos : 0 < l.length := by omega
    have hpos' : (0 : Int) < (l.length : Int) := by omega
    have hjl : l.length - 1 < l.length := by omega
    have hwj : ((l.length : Int) - 1).toNat = l.length - 1 := by omega
    clear h h1 ho ha hlast hr hne
    go_enter Try.func90, Try.ntmps90
    go_wp2_with (go_at_call 95; go_must (refine HF.out.mono ?_); rintro e w0 ⟨rfl, t0⟩; have HT0 := Lib.hid t0; obtain ⟨g, off, rfl, hg, -, hc0, hc1⟩ := (HR.out.touch t0 (fun _ _ e => e)).at_ HA.out; simp only at hc0 hc1; clear t0)
    go_ret2
    exact ⟨by rw [HV.out]; rfl, HT0.out⟩
  · have HV := Lib.hid (show weekE l = rowE l by unfold weekE; rw [if_pos h1])
    have hb : (rowE l != 0) = true := by simpa using h1
    generalize rowE l = v at *
    clear h h1
    go_enter Try.func90, Try.ntmps90
    go_wp2_with (go_at_call 95; go_must (refine HF.out.mono ?_); rintro e w0 ⟨rfl, t0⟩; have HT0 := Lib.hid t0; clear t0)
    go_ret2
    exact ⟨by rw [HV.out]; rfl, HT0.out⟩
theorem wnew_yes (F : Nat → Prop) (A : Option Addr) (c : Nat) (l : List Sp) (w : World) (h : SpR w F A l.length l) (hr : weekE l = 0) :
    Calls Try.prog 90 #[.slice A l.length c] w (NewPn w l) := by
  obtain ⟨hw, hrow⟩ := weekE_week hr
  have hlen := hw.2.1
  have HF := Lib.hid (row_any F A c l w h (by omega))
  rw [hrow] at HF
  have HC := Lib.hid (fun w1 h => sclone_any F A c l w1 h (by omega))
  have HR := Lib.hid h
  have HW := Lib.hid hw
  have hmf : ∀ (fn : Fn) (first cap : Array Value) (w : World), (Instr.makeFunc fn first cap).run Try.prog w = .ok (.func fn first cap) w := fun _ _ _ _ => rfl
  have HX := Lib.hid (show ∀ s, l[l.length - 1]? = some s → s.t ≤ 604800 from fun s hs => hw.2.2 s (List.mem_of_getElem? hs))
  have fin : ∀ {w0 w1 : World} {A1 : Option Addr} {c1 : Nat}, Touch (fun _ => False) w w0 → SpR w1 (fun k => w0.heap.size ≤ k) A1 l.length l → Touch (fun _ => False) w0 w1 →
      NewPn w l (.returned (.tuple #[.pointer (some ⟨w1.heap.size, 0, none⟩), .int .i64 0])) (((w1.alloc (.cells #[.slice A1 l.length c1, .pointer (some ⟨w1.heap.size + 1, 0, none⟩)] 179)).alloc (.cells #[.int .u32 0, .int .i32 0, .int .u32 0, .int .u32 0, .int .i64 0, .func (.func 98) #[.pointer (some ⟨w1.heap.size, 0, none⟩)] #[], .slice none 0 0] 200))) := by
    intro w0 w1 A1 c1 h0 hs h1
    have s0 := h0.size
    have s1 := h1.size
    have ta := (((Touch.refl (fun _ => False) w1).alloc (.cells #[.slice A1 l.length c1, .pointer (some ⟨w1.heap.size + 1, 0, none⟩)] 179)).alloc (.cells #[.int .u32 0, .int .i32 0, .int .u32 0, .int .u32 0, .int .i64 0, .func (.func 98) #[.pointer (some ⟨w1.heap.size, 0, none⟩)] #[], .slice none 0 0] 200))
    refine ⟨w1.heap.size, w1.heap.size + 1, rfl, ⟨⟨A1, c1, ?_, ?_⟩, .inl ⟨0, 0, ?_⟩, ?_, ?_, hw⟩, by omega, by simp, by omega, (h0.trans h1 (fun _ _ e => e)).trans ta (fun _ _ e => e)⟩
    · exact (Blk.new w1 _ _).alloc _
    · exact (hs.near.touch ta (fun _ _ e => e)).mono (fun k hk => ⟨by have := hk.1; omega, by have := hk.2; simp; omega, by have := hk.2; omega⟩)
    · simpa [lzC, sumsF] using Blk.new (w1.alloc (.cells #[.slice A1 l.length c1, .pointer (some ⟨w1.heap.size + 1, 0, none⟩)] 179)) 200 #[.int .u32 0, .int .i32 0, .int .u32 0, .int .u32 0, .int .i64 0, .func (.func 98) #[.pointer (some ⟨w1.heap.size, 0, none⟩)] #[], .slice none 0 0]
    · exact ⟨by omega, by simp; omega, by omega⟩
    · exact fun e => e.2.2 rfl
  have Fin := Lib.hid (fun w0 w1 A1 c1 => fin (w0 := w0) (w1 := w1) (A1 := A1) (c1 := c1))
  clear h hr hw hrow fin
  by_cases hl0 : 0 < l.length
  · have hpos' : (0 : Int) < (l.length : Int) := by omega
    have ha : l[l.length - 1]? = some (l[l.length - 1]'(by omega)) := List.getElem?_eq_getElem _
    have ht := HX.out _ ha
    have HA := Lib.hid ha
    have hjl : l.length - 1 < l.length := by omega
    have hwj : ((l.length : Int) - 1).toNat = l.length - 1 := by omega
    generalize l[l.length - 1]'(by omega) = s at *
    obtain ⟨f, t⟩ := s
    simp only at ht
    clear ha
    go_enter Try.func90, Try.ntmps90
    go_wp2_with (first
      | (go_at_call 95; go_must (refine HF.out.mono ?_); rintro e w0 ⟨rfl, t0⟩; have HT0 := Lib.hid t0; obtain ⟨g, off, rfl, hg, -, hc0, hc1⟩ := (HR.out.touch t0 (fun _ _ e => e)).at_ HA.out; simp only at hc0 hc1; clear t0)
      | (go_at_call 96; go_must (refine (HC.out _ (by exact HR.out.touch HT0.out (fun _ _ e => e))).mono ?_); rintro e w1 ⟨A1, c1, rfl, -, -, -, h4, h5⟩; have HQ := Lib.hid (And.intro h4 h5); clear h4 h5)
      | (go_at_call 97; go_must (refine (lnew_any _ _).mono ?_); rintro e w2 ⟨rfl, rfl⟩))
    go_ret2
    exact Fin.out _ _ _ _ HT0.out HQ.out.1 HQ.out.2
  · have hpos' : ¬ (0 : Int) < (l.length : Int) := by omega
    clear HX
    go_enter Try.func90, Try.ntmps90
    go_wp2_with (first
      | (go_at_call 95; go_must (refine HF.out.mono ?_); rintro e w0 ⟨rfl, t0⟩; have HT0 := Lib.hid t0; clear t0)
      | (go_at_call 96; go_must (refine (HC.out _ (by exact HR.out.touch HT0.out (fun _ _ e => e))).mono ?_); rintro e w1 ⟨A1, c1, rfl, -, -, -, h4, h5⟩; have HQ := Lib.hid (And.intro h4 h5); clear h4 h5)
      | (go_at_call 97; go_must (refine (lnew_any _ _).mono ?_); rintro e w2 ⟨rfl, rfl⟩))
    go_ret2
    exact Fin.out _ _ _ _ HT0.out HQ.out.1 HQ.out.2
end Go.Proofs.Ytlcefchbfjfifaa
end

section
namespace Go.Proofs.Ytlcefchbfjfifaa
open Go.RowKit Cal
set_option maxHeartbeats 4000000
set_option maxRecDepth 100000
set_option linter.unusedVariables false
attribute [local irreducible] wpPlan

theorem nextL_drop (l : List Sp) (j : Nat) (s : Sp) (hs : l[j]? = some s) (x : Int) : nextL (l.drop j) x = if x < s.t then some s else nextL (l.drop (j + 1)) x := by
  obtain ⟨h1, h2⟩ := List.getElem?_eq_some_iff.1 hs
  rw [List.drop_eq_getElem_cons h1, h2, nextL]
def IdxP (l : List Sp) (x : Int) (w : World) (e : Ending) (w' : World) : Prop :=
  (match nextL l x with | some s => ∃ j : Nat, l[j]? = some s ∧ e = .returned (.int .i64 j) | none => e = .returned (.int .i64 (-1))) ∧ Touch (fun _ => False) w w'
theorem has_next : ∀ (l : List Sp) (e x : Int), Row e l → hasB l x = (match nextL l x with | some s => decide (s.f ≤ x) | none => false)
  | [], _, _, _ => rfl
  | s :: l, e, x, ⟨h1, h2, h3, h4⟩ => by
    rw [hasB, nextL]
    by_cases hx : x < s.t
    · rw [if_pos hx, has_none l s.t x h4 hx]; simp [hx]
    · rw [if_neg hx, has_next l s.t x h4]; simp [hx]
end Go.Proofs.Ytlcefchbfjfifaa
end
