/- Package calendar: New, Check, none, instant, weekly. Package calendar: Check, none, instant, weekly, Open. -/
import Derived.Test.YtlcefchbfjfifaaGreatVCalU
import Derived.Test.YtlcefchbfjfifaaGreatVCalJ
section
namespace Go.Proofs.YtlcefchbfjfifaaGreat
open Go.RowKit Cal
set_option maxHeartbeats 4000000
set_option maxRecDepth 100000
set_option linter.unusedVariables false
attribute [local irreducible] wpPlan

/-- A clock at block k: its almanac at a, its plan at p, the plan's lazy cell at b; all but b lies in G. -/
structure CkAt (w : World) (k a p b : Nat) (c : Ca) (G : Nat → Prop) : Prop where
  blk : Blk w k 137 #[.pointer (some ⟨a, 0, none⟩), .pointer (some ⟨p, 0, none⟩), .int .i64 (604800 - c.off)]
  al : ∃ B m, AlAt w a c.cl B m G
  pn : PnAt w p c.wk b G
  gk : G k
  ga : G a
  ok : c.Ok
theorem AlAt.mono {w : World} {g : Nat} {cl : List Sp} {B : Option Addr} {m : Nat} {F F' : Nat → Prop} (h : AlAt w g cl B m F) (hF : ∀ q, F q → F' q) : AlAt w g cl B m F' := ⟨h.blk, h.row.mono hF⟩
section
variable {w w' : World} {k a p b : Nat} {c : Ca} {G G' S : Nat → Prop}
theorem CkAt.touch (h : CkAt w k a p b c G) (ht : Touch S w w') (hb : ¬ S b) (hG : ∀ q, G q → ¬ S q) : CkAt w' k a p b c G := by
  obtain ⟨B, m, ha⟩ := h.al
  exact ⟨ht.blk h.blk (hG _ h.gk), ⟨B, m, ha.touch ht (hG _ h.ga) hG⟩, h.pn.touch ht hb hG, h.gk, h.ga, h.ok⟩
theorem CkAt.none (h : CkAt w k a p b c G) (ht : Touch (fun _ => False) w w') : CkAt w' k a p b c G := h.touch ht (fun e => e) (fun _ _ e => e)
theorem CkAt.grow (h : CkAt w k a p b c G) (hG : ∀ q, G q → G' q) (hb : ¬ G' b) : CkAt w k a p b c G' := by
  obtain ⟨B, m, ha⟩ := h.al
  exact ⟨h.blk, ⟨B, m, ha.mono hG⟩, h.pn.grow hG hb, hG _ h.gk, hG _ h.ga, h.ok⟩
theorem CkAt.nb (h : CkAt w k a p b c G) : ¬ G b := h.pn.nb
theorem CkAt.bl (h : CkAt w k a p b c G) : b < w.heap.size := h.pn.lz.lt
theorem CkAt.gb (h : CkAt w k a p b c G) : ∀ q, G q → ¬ q = b := fun q hq e => by subst e; exact h.nb hq
/-- Behind a call that may have filled the lazy cell. -/
theorem CkAt.get (h : CkAt w k a p b c G) (ht : Touch (fun q => q = b) w w') (hp : PnAt w' p c.wk b (More G w w')) : CkAt w' k a p b c (More G w w') := by
  obtain ⟨B, m, ha⟩ := h.al
  exact ⟨ht.blk h.blk (h.gb _ h.gk), ⟨B, m, (ha.touch ht (h.gb _ h.ga) h.gb).mono (fun q hq => .inl hq)⟩, hp, .inl h.gk, .inl h.ga, h.ok⟩
theorem CkAt.more (h : CkAt w k a p b c G) (ht : Touch S w w') (hb : ¬ S b) (hG : ∀ q, G q → ¬ S q) : CkAt w' k a p b c (More G w w') :=
  (h.touch ht hb hG).grow (fun q hq => .inl hq) (fun e => by rcases e with e | e; exact h.nb e; have := h.bl; omega)
theorem CkAt.more2 {w1 w2 : World} (h : CkAt w2 k a p b c (More (More G w w1) w1 w2)) (h1 : w.heap.size ≤ w1.heap.size) (h2 : w1.heap.size ≤ w2.heap.size) (hb : ¬ G b) (hbl : b < w.heap.size) : CkAt w2 k a p b c (More G w w2) :=
  h.grow (more_trans h1 h2) (fun e => by rcases e with e | e; exact hb e; omega)
end
def NewCk (w : World) (c : Ca) (e : Ending) (w' : World) : Prop :=
  ∃ k a p b, e = .returned (.tuple #[.pointer (some ⟨k, 0, none⟩), .int .i64 0]) ∧ CkAt w' k a p b c (fun q => w.heap.size ≤ q ∧ q < w'.heap.size ∧ q ≠ b) ∧ w.heap.size ≤ b ∧ b < w'.heap.size ∧ Touch (fun _ => False) w w'
theorem cnew_bad (F : Nat → Prop) (A B : Option Addr) (k m : Nat) (c : Ca) (w : World) (hr : CaR w F c A B) (h1 : c.wk.length ≤ 1000000) (h2 : c.cl.length ≤ 1000000) (hc : checkE c ≠ 0) :
    Calls Tryz.prog 57 #[.agg #[.int .i64 c.off, .slice A c.wk.length k, .slice B c.cl.length m]] w fun e w' => e = .returned (.tuple #[.pointer none, .int .i64 (checkE c)]) ∧ Touch (fun _ => False) w w' := by
  have HT := Lib.hid ((Touch.refl (fun _ => False) w).alloc (.cells #[.int .i64 c.off, .slice A c.wk.length k, .slice B c.cl.length m] 51))
  have HB0 := Lib.hid (Blk.new w 51 #[.int .i64 c.off, .slice A c.wk.length k, .slice B c.cl.length m])
  have HW := Lib.hid (fun w1 hr hx => wnew_bad F A k c.wk w1 hr h1 hx)
  have HWy := Lib.hid (fun w1 hr hx => wnew_yes F A k c.wk w1 hr hx)
  have HC := Lib.hid (fun w1 hr hx => alnew_no F B m c.cl w1 hr hx h2)
  have HR := Lib.hid hr
  have HV := Lib.hid (show checkE c = if c.off < 0 ∨ 604800 ≤ c.off then 2 else if weekE c.wk ≠ 0 then weekE c.wk else rowE c.cl from rfl)
  generalize checkE c = v at *
  clear hr
  obtain ⟨off, wk, cl⟩ := c
  simp only at *
  generalize hx : weekE wk = x at *
  generalize hy : rowE cl = y at *
  by_cases ho : off < 0
  · rw [if_pos (.inl ho)] at HV
    go_enter Tryz.func57, Tryz.ntmps57
    go_wp2
    go_ret2
    exact ⟨by rw [HV.out]; rfl, HT.out⟩
  by_cases ho2 : 604800 ≤ off
  · rw [if_pos (.inr ho2)] at HV
    go_enter Tryz.func57, Tryz.ntmps57
    go_wp2
    go_ret2
    exact ⟨by rw [HV.out]; rfl, HT.out⟩
  rw [if_neg (by omega)] at HV
  by_cases hx0 : x = 0
  · have HWy := Lib.hid (fun w1 hr => HWy.out w1 hr hx0)
    rw [if_neg (by simp [hx0])] at HV
    have hy0 : y ≠ 0 := by rw [← HV.out]; exact hc
    have HC := Lib.hid (fun w1 hr => HC.out w1 hr hy0)
    have hyb : (y != 0) = true := by simpa using hy0
    clear hx hy hx0 hy0 HW hc
    go_enter Tryz.func57, Tryz.ntmps57
    go_wp2_with (first
      | (go_at_call 84; go_must (refine (HWy.out _ (by exact HR.out.wk.touch HT.out (fun _ _ e => e))).mono ?_); rintro e w0 ⟨g0, b0, rfl, -, -, -, -, t0⟩; have HB1 := Lib.hid (t0.blk HB0.out (fun e => e)); have q2 := HB1.out.cell 2; simp at q2; have HT0 := Lib.hid (HT.out.trans t0 (fun _ _ e => e)); clear t0)
      | (go_at_call 85; go_must (refine (HC.out _ (by exact HR.out.cl.touch HT0.out (fun _ _ e => e))).mono ?_); rintro e w1 ⟨rfl, t1⟩; have HT1 := Lib.hid (HT0.out.trans t1 (fun _ _ e => e)); clear t1))
    go_ret2
    exact ⟨by rw [HV.out]; rfl, HT1.out⟩
  · have HW := Lib.hid (fun w1 hr => HW.out w1 hr hx0)
    rw [if_pos hx0] at HV
    have hx' : (x != 0) = true := by simpa using hx0
    clear hx hy hx0 HWy HC hc
    go_enter Tryz.func57, Tryz.ntmps57
    go_wp2_with (go_at_call 84; go_must (refine (HW.out _ (by exact HR.out.wk.touch HT.out (fun _ _ e => e))).mono ?_); rintro e w0 ⟨rfl, t0⟩; have HT0 := Lib.hid (HT.out.trans t0 (fun _ _ e => e)); clear t0)
    go_ret2
    exact ⟨by rw [HV.out]; rfl, HT0.out⟩
theorem weekE_of {l : List Sp} (h : Week l) : weekE l = 0 := by
  unfold weekE
  rw [if_neg (by simp [h.row])]
  have : overB l = false := by
    have key : ∀ (l : List Sp), (∀ s ∈ l, s.t ≤ 604800) → overB l = false := by
      intro l
      induction l with
      | nil => intro _; rfl
      | cons x l ih => intro h; have h1 := h x (by simp); simp [overB, ih (fun s hs => h s (by simp [hs]))]; omega
    exact key l h.2.2
  rw [this]; rfl
theorem check_of {c : Ca} (h : c.Ok) : checkE c = 0 := by
  unfold checkE
  have := h.off
  rw [if_neg (by omega), if_neg (by simp [weekE_of h.wk]), h.rowc]
theorem cnew_yes (F : Nat → Prop) (A B : Option Addr) (k m : Nat) (c : Ca) (w : World) (hr : CaR w F c A B) (hc : c.Ok) :
    Calls Tryz.prog 57 #[.agg #[.int .i64 c.off, .slice A c.wk.length k, .slice B c.cl.length m]] w (NewCk w c) := by
  have HT := Lib.hid ((Touch.refl (fun _ => False) w).alloc (.cells #[.int .i64 c.off, .slice A c.wk.length k, .slice B c.cl.length m] 51))
  have HB0 := Lib.hid (Blk.new w 51 #[.int .i64 c.off, .slice A c.wk.length k, .slice B c.cl.length m])
  have HW := Lib.hid (fun w1 hr => wnew_yes F A k c.wk w1 hr (weekE_of hc.wk))
  have HC := Lib.hid (fun w1 hr => alnew_yes F B m c.cl w1 hr hc.rowc)
  have HR := Lib.hid hr
  have HO := Lib.hid hc
  obtain ⟨o1, o2⟩ := hc.off
  have fin : ∀ {w0 w1 w2 : World} {p b a : Nat} {B1 : Option Addr} {m1 : Nat}, Touch (fun _ => False) w w0 → PnAt w1 p c.wk b (fun q => w0.heap.size ≤ q ∧ q < w1.heap.size ∧ q ≠ b) → w0.heap.size ≤ b → b < w1.heap.size → Touch (fun _ => False) w0 w1 →
      AlAt w2 a c.cl B1 m1 (fun q => w1.heap.size ≤ q ∧ q ≠ a) → w1.heap.size ≤ a → Touch (fun _ => False) w1 w2 →
      NewCk w c (.returned (.tuple #[.pointer (some ⟨w2.heap.size, 0, none⟩), .int .i64 0])) (w2.alloc (.cells #[.pointer (some ⟨a, 0, none⟩), .pointer (some ⟨p, 0, none⟩), .int .i64 (604800 - c.off)] 137)) := by
    intro w0 w1 w2 p b a B1 m1 t0 hp hb1 hb2 t1 ha ha1 t2
    have s0 := t0.size
    have s1 := t1.size
    have s2 := t2.size
    have ta := (Touch.refl (fun _ => False) w2).alloc (.cells #[.pointer (some ⟨a, 0, none⟩), .pointer (some ⟨p, 0, none⟩), .int .i64 (604800 - c.off)] 137)
    have hal := ha.blk.lt
    refine ⟨w2.heap.size, a, p, b, rfl, ⟨Blk.new _ _ _, ⟨B1, m1, ?_⟩, ?_, ?_, ?_, hc⟩, by omega, by simp; omega, ((t0.trans t1 (fun _ _ e => e)).trans t2 (fun _ _ e => e)).trans ta (fun _ _ e => e)⟩
    · have hn : SpR w2 (fun q => (w1.heap.size ≤ q ∧ q ≠ a) ∧ q < w2.heap.size) B1 c.cl.length c.cl := ha.row.near
      exact (AlAt.mk (F := fun q => (w1.heap.size ≤ q ∧ q ≠ a) ∧ q < w2.heap.size) ha.blk hn |>.touch ta (fun e => e) (fun _ _ e => e)).mono (fun q hq => ⟨by have := hq.1.1; omega, by have := hq.2; simp; omega, by have := hq.1.1; omega⟩)
    · exact ((hp.touch t2 (fun e => e) (fun _ _ e => e)).touch ta (fun e => e) (fun _ _ e => e)).grow (fun q hq => ⟨by have := hq.1; omega, by have := hq.2.1; simp; omega, hq.2.2⟩) (fun e => e.2.2 rfl)
    · exact ⟨by omega, by simp, by omega⟩
    · exact ⟨by omega, by simp; omega, by omega⟩
  have Fin := Lib.hid (fun w0 w1 w2 p b a B1 m1 => fin (w0 := w0) (w1 := w1) (w2 := w2) (p := p) (b := b) (a := a) (B1 := B1) (m1 := m1))
  clear hr hc fin
  obtain ⟨off, wk, cl⟩ := c
  simp only at *
  have ho : ¬ off < 0 := by omega
  have ho2 : ¬ 604800 ≤ off := by omega
  go_enter Tryz.func57, Tryz.ntmps57
  go_wp2_with (first
    | (go_at_call 84; go_must (refine (HW.out _ (by exact HR.out.wk.touch HT.out (fun _ _ e => e))).mono ?_); rintro e w0 ⟨g0, b0, rfl, h1, h2, h3, h4, t0⟩; have HQ := Lib.hid (And.intro h1 (And.intro h2 (And.intro h3 t0))); have HB1 := Lib.hid (t0.blk HB0.out (fun e => e)); have q2 := HB1.out.cell 2; simp at q2; have HT0 := Lib.hid (HT.out.trans t0 (fun _ _ e => e)); clear t0 h1 h2 h3 h4)
    | (go_at_call 85; go_must (refine (HC.out _ (by exact HR.out.cl.touch HT0.out (fun _ _ e => e))).mono ?_); rintro e w1 ⟨a1, B1, m1, rfl, h5, h6, t1⟩; have q0 := (t1.blk HB1.out (fun e => e)).cell 0; simp at q0; have HQ1 := Lib.hid (And.intro h5 (And.intro h6 t1)); clear t1 h5 h6))
  go_ret2
  obtain ⟨h1, h2, h3, t0⟩ := HQ.out
  obtain ⟨h5, h6, t1⟩ := HQ1.out
  exact Fin.out _ _ _ _ _ _ _ _ HT.out h1 h2 h3 t0 h5 h6 t1
end Go.Proofs.YtlcefchbfjfifaaGreat
end

section
namespace Go.Proofs.YtlcefchbfjfifaaGreat
open Go.RowKit Cal
set_option maxHeartbeats 4000000
set_option maxRecDepth 100000
set_option linter.unusedVariables false
attribute [local irreducible] wpPlan

theorem ccheck_any (F : Nat → Prop) (A B : Option Addr) (k m : Nat) (c : Ca) (w : World) (hr : CaR w F c A B) (h1 : c.wk.length ≤ 1000000) (h2 : c.cl.length ≤ 1000000) :
    Calls Tryz.prog 53 #[.agg #[.int .i64 c.off, .slice A c.wk.length k, .slice B c.cl.length m]] w fun e w' => e = .returned (.int .i64 (checkE c)) ∧ Touch (fun _ => False) w w' := by
  have HT := Lib.hid ((Touch.refl (fun _ => False) w).alloc (.cells #[.int .i64 c.off, .slice A c.wk.length k, .slice B c.cl.length m] 51))
  have HR := Lib.hid hr
  by_cases hc : checkE c = 0
  · have HN := Lib.hid (fun w1 hr => cnew_yes F A B k m c w1 hr (check_ok hc))
    rw [hc]
    clear hr hc
    obtain ⟨off, wk, cl⟩ := c
    simp only at *
    go_enter Tryz.func53, Tryz.ntmps53
    go_wp2_with (go_at_call 57; go_must (refine (HN.out _ (by exact HR.out.touch HT.out (fun _ _ e => e))).mono ?_); rintro e w0 ⟨k0, a0, p0, b0, rfl, -, -, -, t0⟩; have HT0 := Lib.hid (HT.out.trans t0 (fun _ _ e => e)); clear t0)
    go_ret
    exact ⟨rfl, HT0.out⟩
  · have HN := Lib.hid (fun w1 hr => cnew_bad F A B k m c w1 hr h1 h2 hc)
    generalize checkE c = v at *
    clear hr hc
    obtain ⟨off, wk, cl⟩ := c
    simp only at *
    go_enter Tryz.func53, Tryz.ntmps53
    go_wp2_with (go_at_call 57; go_must (refine (HN.out _ (by exact HR.out.touch HT.out (fun _ _ e => e))).mono ?_); rintro e w0 ⟨rfl, t0⟩; have HT0 := Lib.hid (HT.out.trans t0 (fun _ _ e => e)); clear t0)
    go_ret
    exact ⟨rfl, HT0.out⟩
theorem cnone_any (k a p b : Nat) (c : Ca) (G : Nat → Prop) (w : World) (h : CkAt w k a p b c G) :
    Calls Tryz.prog 71 #[.pointer (some ⟨k, 0, none⟩)] w fun e w' => e = .returned (.bool false) ∧ w = w' := by
  have q := h.blk.cell 1
  simp at q
  clear h
  go_enter Tryz.func71, Tryz.ntmps71
  go_wp2
  go_ret
  exact ⟨rfl, rfl⟩
theorem cinstant_any (t : Int) (w : World) : Calls Tryz.prog 72 #[.int .i64 t] w fun e w' => e = .returned (.bool (instB t)) ∧ w = w' := by
  go_enter Tryz.func72, Tryz.ntmps72
  go_wp2
  all_goals go_ret
  all_goals exact ⟨ret_bool (by unfold instB; simp <;> omega), rfl⟩
def CkV (k a p b : Nat) (c : Ca) (G : Nat → Prop) (v : Value) (w : World) (e : Ending) (w' : World) : Prop :=
  e = .returned v ∧ CkAt w' k a p b c (More G w w') ∧ Touch (fun q => q = b) w w'
theorem cweekly_any (k a p b : Nat) (c : Ca) (G : Nat → Prop) (x y : Int) (w : World) (h : CkAt w k a p b c G) (h0 : 0 ≤ x) (h1 : x ≤ 1125899906842624) (h2 : 0 ≤ y) (h3 : y ≤ 1125899906842624) :
    Calls Tryz.prog 75 #[.pointer (some ⟨k, 0, none⟩), .int .i64 x, .int .i64 y] w (CkV k a p b c G (.int .i64 (c.weekly x y)) w) := by
  have q0 := h.blk.cell 0; have q1 := h.blk.cell 1; have q2 := h.blk.cell 2
  simp at q0 q1 q2
  have hoff := h.ok.off
  have HH := Lib.hid h
  have HB := Lib.hid (fun w1 G (hh : PnAt w1 p c.wk b G) => between_any p c.wk b G (x + (604800 - c.off)) (y + (604800 - c.off)) w1 hh (by omega) (by omega) (by omega) (by omega))
  have HV := Lib.hid (show c.weekly x y = max (U c.wk (y + (604800 - c.off)) - U c.wk (x + (604800 - c.off))) 0 from rfl)
  generalize c.weekly x y = v at *
  have hs : 0 ≤ 604800 - c.off ∧ 604800 - c.off ≤ 604800 := by omega
  generalize 604800 - c.off = s at *
  clear h hoff
  have hw1 : IntKind.i64.wrap (x + s) = x + s := IntWalk.i64_in _ (by omega)
  have hw2 : IntKind.i64.wrap (y + s) = y + s := IntWalk.i64_in _ (by omega)
  go_enter Tryz.func75, Tryz.ntmps75
  go_wp2_with fail
  refine wp_region_plan [(0, 0), (0, 1), (0, 2), (0, 3), (0, 4), (0, 5), (0, 6), (0, 7), (0, 8), (0, 9), (0, 10), (0, 11), (0, 12), (0, 13), (0, 14), (0, 15), (2, 16), (0, 17)] (fun q => q = b) (by kernel_rfl) (by kernel_rfl) (fun c a d v w h => by cases d <;> exact h) ?_
  iterate 16
    refine plan_s1 rfl (by rfl) (fun Kc hKc => ?_)
    go_simp
    first
      | (refine hKc _ ?_)
    clear hKc Kc
  refine plan_a1 rfl (by rfl) (fun Kc hKc => ?_)
  go_simp
  refine (HB.out _ _ (by exact HH.out.pn.drew)).mono ?_
  rintro e w1 ⟨rfl, p1, t1⟩
  refine hKc _ _ ⟨t1, ?_⟩
  clear hKc Kc
  have HP1 := Lib.hid p1
  have HT1 := Lib.hid t1
  clear p1 t1
  iterate 1
    refine plan_s1 rfl (by rfl) (fun Kc hKc => ?_)
    go_simp
    first
      | (refine hKc _ ?_)
    clear hKc Kc
  refine plan_done ?_
  clear hw1 hw2
  go_wp2
  go_ret
  have ht := (Touch.refl (fun q => q = b) w).drew.trans HT1.out (fun _ _ e => e)
  exact ⟨ret_int HV.out.symm, HH.out.get ht HP1.out, ht⟩
end Go.Proofs.YtlcefchbfjfifaaGreat
end
