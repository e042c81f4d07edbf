/- client.Tick, Send, copied, Doing. ref18.kept. (written by gencdc.py) -/
import Derived.Test.YtlcefchbfjfifaaVCnB
import Derived.Test.YtlcefchbfjfifaaVCdI
import Derived.Test.YtlcefchbfjfifaaVWrA
import Derived.Test.YtlcefchbfjfifaaVCdC
section
namespace Go.Proofs.Ytlcefchbfjfifaa
open Go.RowKit Cal
set_option maxHeartbeats 4000000
set_option maxRecDepth 100000
set_option linter.unusedVariables false
attribute [local irreducible] wpPlan

theorem cltick_any {w : World} {g : Nat} {c : Cl} {M : ClM} {F : Nat → Prop} (h : ClAt w g c M F) : Calls Try.prog 16 #[.pointer (some ⟨g, 0, none⟩)] w fun e w' => e = .returned (.tuple #[]) ∧ ClAt w' g c.tick M F ∧ Touch (fun k => k = g) w w' := by
  have HB := Lib.hid (clbusy_any h)
  have HC := Lib.hid h
  cases hb : c.busy with
  | none =>
    rw [hb] at HB
    have ht : c.tick = c := by simp [Cl.tick, hb]
    rw [ht]
    clear h hb ht
    go_enter Try.func16, Try.ntmps16
    go_wp2_with (go_at_call 22; go_must (refine HB.out.mono ?_); rintro e w1 ⟨rfl, rfl⟩)
    exact bodyPost_ret (v := .tuple #[]) (results_none (by rfl) _ _ _) rfl ⟨rfl, HC.out, Touch.refl _ _⟩
  | some x =>
    rw [hb] at HB
    have q2 := h.blk.cell 2
    rw [clC_lo c M (by omega)] at q2
    simp at q2
    have f2 := h.blk.frozen 2
    obtain ⟨c1, hc1⟩ : ∃ c1 : Cl, c1 = { c with waited := c.waited + 1 } := ⟨_, rfl⟩
    have hB1 := (show Blk (w.setCell ⟨g, 2, none⟩ (.int .i64 (c.waited + 1 : Nat))) g 68 (clC c1 M) from (clC_set c c1 M M 2 (.int .i64 (c.waited + 1 : Nat)) rfl rfl (by rw [hc1]; rfl) (by omega)) ▸ h.blk.set_ 2 (.int .i64 (c.waited + 1 : Nat)))
    have HT1 := Lib.hid ((Touch.refl (fun k => k = g) w).set (b := g) (o := 2) (fun _ => rfl) (.int .i64 (c.waited + 1 : Nat)))
    have hw4 := h.ok.wa
    have r2 := hB1.cell 2
    rw [clC_lo c1 M (by omega)] at r2
    have hw1 : c1.waited = c.waited + 1 := by rw [hc1]
    simp [hw1] at r2
    have HB1 := Lib.hid hB1
    by_cases h4 : 4 ≤ c.waited + 1
    · have ht : c.tick = c1.nxt := by unfold Cl.tick; rw [if_pos (by rw [hb]; rfl), if_pos h4, hc1]; rfl
      have HN := Lib.hid (next_blk c1 M g _ hB1 (by rw [hc1]; exact h.ok.at_) (by rw [hc1]; exact h.ok.se.2))
      have HK := Lib.hid (show c.tick.Ok from h.ok.tick)
      have HE := Lib.hid (show c.tick.busy = c.busy ∧ c.tick.done = c.done from by rw [ht, hc1]; exact ⟨rfl, rfl⟩)
      rw [← ht] at HN
      generalize c.tick = c2 at *
      have h4' : (4 : Int) ≤ (c.waited : Int) + 1 := by omega
      generalize c.waited = wt at *
      clear h hb ht hc1 hB1 h4 hw1
      go_enter Try.func16, Try.ntmps16
      go_wp2_with (first
        | (go_at_call 22; go_must (refine HB.out.mono ?_); rintro e w1 ⟨rfl, rfl⟩)
        | (go_at_call 40; go_must (refine HN.out.mono ?_); rintro e w2 ⟨rfl, hb2, t2⟩; have HB2 := Lib.hid hb2; have HT2 := Lib.hid (HT1.out.trans t2 (fun _ _ e => e)); clear hb2 t2))
      go_end0
      exact ⟨rfl, HC.out.set HT2.out HB2.out HE.out.1 HE.out.2 HK.out, HT2.out⟩
    · have ht : c.tick = c1 := by unfold Cl.tick; rw [if_pos (by rw [hb]; rfl), if_neg h4, hc1]
      have HK := Lib.hid (show c.tick.Ok from h.ok.tick)
      have HE := Lib.hid (show c.tick.busy = c.busy ∧ c.tick.done = c.done from by rw [ht, hc1]; exact ⟨rfl, rfl⟩)
      rw [← ht] at HB1
      generalize c.tick = c2 at *
      have h4' : ¬ (4 : Int) ≤ (c.waited : Int) + 1 := by omega
      generalize c.waited = wt at *
      clear h hb ht hc1 hB1 h4 hw1
      go_enter Try.func16, Try.ntmps16
      go_wp2_with (go_at_call 22; go_must (refine HB.out.mono ?_); rintro e w1 ⟨rfl, rfl⟩)
      go_end0
      exact ⟨rfl, HC.out.set HT1.out HB1.out HE.out.1 HE.out.2 HK.out, HT1.out⟩
/-- The row of bytes that Send hands out. -/
def SendP (c : Cl) (w : World) (e : Ending) (w' : World) : Prop :=
  ∃ A n cap l, e = .returned (.tuple #[.int .i64 (if c.busy.isSome = true then c.at_ else 0 : Nat), .slice A n cap, .bool c.busy.isSome]) ∧ l = (match c.busy with | none => [] | some x => encC x) ∧ n = l.length ∧ Rd w' (fun k => w.heap.size ≤ k) A l.length (l.map B8) ∧ n ≤ cap ∧ cap ≤ maxLen ∧ Touch (fun _ => False) w w'
theorem Rd.hasA {w : World} {F : Nat → Prop} {A : Option Addr} {n : Nat} {xs : List Value} (h : Rd w F A n xs) (hn : 0 < n) : A = none → ∀ c : Nat, c = 0 := by
  intro e
  obtain ⟨_, _, e', _⟩ := h.2 hn
  rw [e] at e'; cases e'
theorem clsend_any {w : World} {g : Nat} {c : Cl} {M : ClM} {F : Nat → Prop} (h : ClAt w g c M F) (hF : ∀ k, F k → k < w.heap.size) : Calls Try.prog 13 #[.pointer (some ⟨g, 0, none⟩)] w (SendP c w) := by
  have HB := Lib.hid (clbusy_any h)
  have hbu := h.bu
  cases hb : c.busy with
  | none =>
    rw [hb] at HB
    have HE := Lib.hid hb
    clear h hb hbu
    go_enter Try.func13, Try.ntmps13
    go_wp2_with (go_at_call 22; go_must (refine HB.out.mono ?_); rintro e w1 ⟨rfl, rfl⟩)
    refine bodyPost_ret (v := .tuple #[.int .i64 0, .slice none 0 0, .bool false]) (by simp [results, Try.results13, go_sem]) rfl ?_
    exact ⟨none, 0, 0, [], by rw [HE.out]; rfl, by rw [HE.out], rfl, Rd.nil _ _ _, by omega, by simp, Touch.refl _ _⟩
  | some x =>
    rw [hb] at HB hbu
    have HE := Lib.hid hb
    obtain ⟨⟨E, cap, h1, h2, h3, h4⟩, -⟩ := hbu
    have hl := encC_len ((h.ok.bu x hb).1)
    have hp := encC_pos x
    have hb0 := (Touch.refl (fun _ => False) w).drew.blk h.blk (fun e => e)
    have HB0 := Lib.hid hb0
    have HR0 := Lib.hid (h4.touch (Touch.refl (fun _ => False) w).drew (fun _ _ e => e))
    have q1 := clC_lo c M (i := 1) (by omega)
    have q5 := clC_lo c M (i := 5) (by omega)
    simp only [h1] at q5
    simp at q1 q5
    have HQ1 := Lib.hid q1
    have HQ5 := Lib.hid q5
    have hgl := h.blk.lt
    have HA := Lib.hid (show E = none → cap = 0 from fun e => h4.hasA hp e cap)
    have HF := Lib.hid hF
    have HLn := Lib.hid (show (encC x).length = (encC x).length from rfl)
    obtain ⟨L, hL⟩ : ∃ L, L = encC x := ⟨_, rfl⟩
    rw [← hL] at HR0 HQ5 h2 hl hp
    have HL := Lib.hid hL
    obtain ⟨i0, hi, hz0, hz1, hz2⟩ := info_parts info8
    clear h hb h1 h4 hb0 q1 q5 hF hL HLn
    go_enter Try.func13, Try.ntmps13
    go_wp2_with (go_at_call 22; go_must (refine HB.out.mono ?_); rintro e w1 ⟨rfl, rfl⟩)
    refine wp_region_plan [(1, 0), (1, 1), (1, 2), (1, 3), (1, 4), (1, 6), (1, 7), (1, 8), (1, 9), (2, 5), (2, 10), (0, 11), (0, 12), (0, 13)] (fun k => w.heap.size ≤ k) (by kernel_rfl) (by kernel_rfl) (fun c a d v w h => by cases d <;> exact h) ?_
    iterate 4
      apply plan_h
      · rfl
      · rfl
      · intro wh hT
        go_simp
        try rfl
      go_frame
    iterate 1
      apply plan_h
      · rfl
      · rfl
      · intro wh hT
        have hf0 := show wh.cell? ⟨g, 1, none⟩ = some (.int .i64 c.at_) from ((hT.blk HB0.out (by omega)).cell 1).trans HQ1.out
        go_simp
        try rfl
      go_frame
    iterate 3
      apply plan_h
      · rfl
      · rfl
      · intro wh hT
        go_simp
        try rfl
      go_frame
    iterate 1
      apply plan_h
      · rfl
      · rfl
      · intro wh hT
        have hf0 := show wh.cell? ⟨g, 5, none⟩ = some (.slice E L.length cap) from ((hT.blk HB0.out (by omega)).cell 5).trans HQ5.out
        go_simp
        try rfl
      go_frame
    refine plan_a1 rfl (by rfl) (fun Kc hKc => ?_)
    go_simp
    refine hKc _ _ ⟨(Touch.refl _ _).alloc _, ?_⟩
    clear hKc Kc
    have HO := Lib.hid (Own.lit w.drew 5 1 #[] 0 (by simp) rfl)
    have HRl := Lib.hid (HR0.out.touch ((Touch.refl (fun _ => False) w.drew).alloc (.cells #[] 5)) (fun _ _ e => e))
    refine plan_a1 rfl (by rfl) (fun Kc hKc => ?_)
    refine wp_own_append _ _ 58 58 rfl 5 i0 (.int .u8 0) 1 1 Try.underlying58 hi hz0 hz1 hz2 rfl _ _ 0 [] rfl (by exact HO.out) (.slice E L.length cap) L.length (L.map B8) rfl (by exact HRl.out.src HA.out) (by simp only [maxLen]; omega) (by omega) ?_
    intro v8 r8 w8 ho8 t8 hr8
    refine hKc _ _ ⟨t8.mono (fun q _ e => by injection e with e; have : w.drew.heap.size = w.heap.size := rfl; omega), ?_⟩
    clear hKc Kc
    have HRd := Lib.hid ho8.rd
    have HT8 := Lib.hid t8
    have HR8 := Lib.hid hr8
    obtain ⟨A8, c8, hv8, -⟩ := ho8.rd
    subst hv8
    clear ho8 t8 hr8
    iterate 3
      refine plan_s1 rfl (by rfl) (fun Kc hKc => ?_)
      go_simp
      first
        | (refine hKc _ ?_)
      clear hKc Kc
    refine plan_done ?_
    go_wp2_with fail
    refine bodyPost_ret (v := .tuple #[.int .i64 c.at_, .slice A8 (0 + L.length) c8, .bool true]) (by simp [results, Try.results13, go_sem]) rfl ?_
    obtain ⟨A9, c9, e9, hn9, hm9, -, hrd9⟩ := HRd.out
    injection e9 with e1 e2 e3
    subst e1 e3
    rw [List.nil_append, Nat.zero_add] at hrd9
    refine ⟨A8, L.length, c8, L, by rw [HE.out]; simp, by rw [HE.out]; exact HL.out, rfl, hrd9.mono (fun k hk => ?_), by omega, hm9, ?_⟩
    · rcases HR8.out with e | ⟨q, e, hq⟩
      · rw [e] at hk; injection hk with hk; have : w.drew.heap.size = w.heap.size := rfl; omega
      · rw [e] at hk; injection hk with hk; simp at hq; omega
    · exact ((Touch.refl (fun _ => False) w).drew.alloc _).trans HT8.out (fun q hq e => by injection e with e; have : w.drew.heap.size = w.heap.size := rfl; omega)
end Go.Proofs.Ytlcefchbfjfifaa
end

section
namespace Go.Proofs.Ytlcefchbfjfifaa
open Go.RowKit Cal
set_option maxHeartbeats 4000000
set_option maxRecDepth 100000
set_option linter.unusedVariables false
attribute [local irreducible] wpPlan

theorem fkept_N (kd cn at_ of tc rt bk : Int) (cl rq i p q r : Nat) (A B D : Option Addr) (k m n : Nat) (w : World) :
    Calls Try.prog 58 #[.agg #[.int .i64 1, .int .u64 (cl : Int), .int .u64 (rq : Int), .int .u64 (i : Int), .int .i64 cn, .int .i64 at_, .int .i64 of, .slice A p k, .slice B q m, .int .i64 tc, .slice D r n, .int .i64 rt, .int .i64 bk]] w fun e w' => e = .returned (.agg #[.int .i64 1, .int .u64 (cl : Int), .int .u64 (rq : Int), .int .u64 0, .int .i64 0, .int .i64 0, .int .i64 0, .slice none 0 0, .slice none 0 0, .int .i64 0, .slice none 0 0, .int .i64 0, .int .i64 0]) ∧ Touch (fun _ => False) w w' := by
  go_enter Try.func58, Try.ntmps58
  go_wp2
  exact bodyPost_ret (v := .agg #[.int .i64 1, .int .u64 (cl : Int), .int .u64 (rq : Int), .int .u64 0, .int .i64 0, .int .i64 0, .int .i64 0, .slice none 0 0, .slice none 0 0, .int .i64 0, .slice none 0 0, .int .i64 0, .int .i64 0]) (by simp [results, Try.results58, go_sem]) rfl ⟨rfl, (((Touch.refl _ _).alloc _).alloc _).alloc _⟩
theorem fkept_T (kd cn at_ of tc rt bk : Int) (cl rq i p q r : Nat) (A B D : Option Addr) (k m n : Nat) (w : World) :
    Calls Try.prog 58 #[.agg #[.int .i64 9, .int .u64 (cl : Int), .int .u64 (rq : Int), .int .u64 (i : Int), .int .i64 cn, .int .i64 at_, .int .i64 of, .slice A p k, .slice B q m, .int .i64 tc, .slice D r n, .int .i64 rt, .int .i64 bk]] w fun e w' => e = .returned (.agg #[.int .i64 9, .int .u64 (cl : Int), .int .u64 (rq : Int), .int .u64 0, .int .i64 0, .int .i64 at_, .int .i64 0, .slice none 0 0, .slice none 0 0, .int .i64 0, .slice none 0 0, .int .i64 0, .int .i64 0]) ∧ Touch (fun _ => False) w w' := by
  go_enter Try.func58, Try.ntmps58
  go_wp2
  exact bodyPost_ret (v := .agg #[.int .i64 9, .int .u64 (cl : Int), .int .u64 (rq : Int), .int .u64 0, .int .i64 0, .int .i64 at_, .int .i64 0, .slice none 0 0, .slice none 0 0, .int .i64 0, .slice none 0 0, .int .i64 0, .int .i64 0]) (by simp [results, Try.results58, go_sem]) rfl ⟨rfl, (((Touch.refl _ _).alloc _).alloc _).alloc _⟩
theorem fkept_C (kd cn at_ of tc rt bk : Int) (cl rq i p q r : Nat) (A B D : Option Addr) (k m n : Nat) (w : World) :
    Calls Try.prog 58 #[.agg #[.int .i64 2, .int .u64 (cl : Int), .int .u64 (rq : Int), .int .u64 (i : Int), .int .i64 cn, .int .i64 at_, .int .i64 of, .slice A p k, .slice B q m, .int .i64 tc, .slice D r n, .int .i64 rt, .int .i64 bk]] w fun e w' => e = .returned (.agg #[.int .i64 2, .int .u64 (cl : Int), .int .u64 (rq : Int), .int .u64 (i : Int), .int .i64 0, .int .i64 0, .int .i64 of, .slice A p k, .slice B q m, .int .i64 0, .slice none 0 0, .int .i64 0, .int .i64 0]) ∧ Touch (fun _ => False) w w' := by
  go_enter Try.func58, Try.ntmps58
  go_wp2
  exact bodyPost_ret (v := .agg #[.int .i64 2, .int .u64 (cl : Int), .int .u64 (rq : Int), .int .u64 (i : Int), .int .i64 0, .int .i64 0, .int .i64 of, .slice A p k, .slice B q m, .int .i64 0, .slice none 0 0, .int .i64 0, .int .i64 0]) (by simp [results, Try.results58, go_sem]) rfl ⟨rfl, (((Touch.refl _ _).alloc _).alloc _).alloc _⟩
theorem fkept_M (kd cn at_ of tc rt bk : Int) (cl rq i p q r : Nat) (A B D : Option Addr) (k m n : Nat) (w : World) :
    Calls Try.prog 58 #[.agg #[.int .i64 3, .int .u64 (cl : Int), .int .u64 (rq : Int), .int .u64 (i : Int), .int .i64 cn, .int .i64 at_, .int .i64 of, .slice A p k, .slice B q m, .int .i64 tc, .slice D r n, .int .i64 rt, .int .i64 bk]] w fun e w' => e = .returned (.agg #[.int .i64 3, .int .u64 (cl : Int), .int .u64 (rq : Int), .int .u64 (i : Int), .int .i64 0, .int .i64 0, .int .i64 0, .slice none 0 0, .slice none 0 0, .int .i64 tc, .slice D r n, .int .i64 rt, .int .i64 bk]) ∧ Touch (fun _ => False) w w' := by
  go_enter Try.func58, Try.ntmps58
  go_wp2
  exact bodyPost_ret (v := .agg #[.int .i64 3, .int .u64 (cl : Int), .int .u64 (rq : Int), .int .u64 (i : Int), .int .i64 0, .int .i64 0, .int .i64 0, .slice none 0 0, .slice none 0 0, .int .i64 tc, .slice D r n, .int .i64 rt, .int .i64 bk]) (by simp [results, Try.results58, go_sem]) rfl ⟨rfl, (((Touch.refl _ _).alloc _).alloc _).alloc _⟩
theorem fkept_O (kd cn at_ of tc rt bk : Int) (cl rq i p q r : Nat) (A B D : Option Addr) (k m n : Nat) (w : World) :
    Calls Try.prog 58 #[.agg #[.int .i64 4, .int .u64 (cl : Int), .int .u64 (rq : Int), .int .u64 (i : Int), .int .i64 cn, .int .i64 at_, .int .i64 of, .slice A p k, .slice B q m, .int .i64 tc, .slice D r n, .int .i64 rt, .int .i64 bk]] w fun e w' => e = .returned (.agg #[.int .i64 4, .int .u64 (cl : Int), .int .u64 (rq : Int), .int .u64 (i : Int), .int .i64 cn, .int .i64 0, .int .i64 0, .slice none 0 0, .slice none 0 0, .int .i64 0, .slice none 0 0, .int .i64 0, .int .i64 0]) ∧ Touch (fun _ => False) w w' := by
  go_enter Try.func58, Try.ntmps58
  go_wp2
  exact bodyPost_ret (v := .agg #[.int .i64 4, .int .u64 (cl : Int), .int .u64 (rq : Int), .int .u64 (i : Int), .int .i64 cn, .int .i64 0, .int .i64 0, .slice none 0 0, .slice none 0 0, .int .i64 0, .slice none 0 0, .int .i64 0, .int .i64 0]) (by simp [results, Try.results58, go_sem]) rfl ⟨rfl, (((Touch.refl _ _).alloc _).alloc _).alloc _⟩
theorem fkept_I (kd cn at_ of tc rt bk : Int) (cl rq i p q r : Nat) (A B D : Option Addr) (k m n : Nat) (w : World) (h : idOnly kd) :
    Calls Try.prog 58 #[.agg #[.int .i64 kd, .int .u64 (cl : Int), .int .u64 (rq : Int), .int .u64 (i : Int), .int .i64 cn, .int .i64 at_, .int .i64 of, .slice A p k, .slice B q m, .int .i64 tc, .slice D r n, .int .i64 rt, .int .i64 bk]] w fun e w' => e = .returned (.agg #[.int .i64 kd, .int .u64 (cl : Int), .int .u64 (rq : Int), .int .u64 (i : Int), .int .i64 0, .int .i64 0, .int .i64 0, .slice none 0 0, .slice none 0 0, .int .i64 0, .slice none 0 0, .int .i64 0, .int .i64 0]) ∧ Touch (fun _ => False) w w' := by
  have b2 : (kd == 2) = false := by simp; unfold idOnly at h; omega
  have b3 : (kd == 3) = false := by simp; unfold idOnly at h; omega
  have b4 : (kd == 4) = false := by simp; unfold idOnly at h; omega
  have b9 : (kd == 9) = false := by simp; unfold idOnly at h; omega
  have c1 : (kd != 1) = true := by simp; unfold idOnly at h; omega
  have c9 : (kd != 9) = true := by simp; unfold idOnly at h; omega
  clear h
  go_enter Try.func58, Try.ntmps58
  go_wp2
  exact bodyPost_ret (v := .agg #[.int .i64 kd, .int .u64 (cl : Int), .int .u64 (rq : Int), .int .u64 (i : Int), .int .i64 0, .int .i64 0, .int .i64 0, .slice none 0 0, .slice none 0 0, .int .i64 0, .slice none 0 0, .int .i64 0, .int .i64 0]) (by simp [results, Try.results58, go_sem]) rfl ⟨rfl, (((Touch.refl _ _).alloc _).alloc _).alloc _⟩
theorem fkept_any (c : Cm) (A B D : Option Addr) (k m n : Nat) (w : World) (hn : named c.kind = true) :
    Calls Try.prog 58 #[.agg #[.int .i64 c.kind, .int .u64 c.client, .int .u64 c.req, .int .u64 c.id, .int .i64 c.con, .int .i64 c.at_, .int .i64 c.cal.off, .slice A c.cal.wk.length k, .slice B c.cal.cl.length m, .int .i64 c.tm.cal, .slice D c.tm.lv.length n, .int .i64 c.tm.rt, .int .i64 c.tm.bk]] w (OnlyPost c A B D k m n w) := by
  obtain ⟨kd, cl, rq, i, cn, at_, ⟨of, wk, cs⟩, ⟨tc, lv, rt, bk⟩⟩ := c
  simp only at hn ⊢
  rcases kinds kd with h | rfl | rfl | rfl | rfl | rfl | h
  · rw [h] at hn; cases hn
  · have hk : kept ⟨1, cl, rq, i, cn, at_, ⟨of, wk, cs⟩, ⟨tc, lv, rt, bk⟩⟩ = ⟨1, cl, rq, 0, 0, 0, caZ, coZ⟩ := rfl
    refine (fkept_N 1 cn at_ of tc rt bk cl rq i wk.length cs.length lv.length A B D k m n w).mono ?_
    rintro e w1 ⟨rfl, t⟩
    exact ⟨⟨none, none, none, 0, 0, 0, by rw [hk]; rfl, fun w1 F h => by rw [hk]; exact ⟨CaR.zero _ _, SpR.zero _ _⟩⟩, t⟩
  · have hk : kept ⟨2, cl, rq, i, cn, at_, ⟨of, wk, cs⟩, ⟨tc, lv, rt, bk⟩⟩ = ⟨2, cl, rq, i, 0, 0, ⟨of, wk, cs⟩, coZ⟩ := rfl
    refine (fkept_C 2 cn at_ of tc rt bk cl rq i wk.length cs.length lv.length A B D k m n w).mono ?_
    rintro e w1 ⟨rfl, t⟩
    exact ⟨⟨A, B, none, k, m, 0, by rw [hk]; rfl, fun w1 F h => by rw [hk]; exact ⟨h.cal, SpR.zero _ _⟩⟩, t⟩
  · have hk : kept ⟨3, cl, rq, i, cn, at_, ⟨of, wk, cs⟩, ⟨tc, lv, rt, bk⟩⟩ = ⟨3, cl, rq, i, 0, 0, caZ, ⟨tc, lv, rt, bk⟩⟩ := rfl
    refine (fkept_M 3 cn at_ of tc rt bk cl rq i wk.length cs.length lv.length A B D k m n w).mono ?_
    rintro e w1 ⟨rfl, t⟩
    exact ⟨⟨none, none, D, 0, 0, n, by rw [hk]; rfl, fun w1 F h => by rw [hk]; exact ⟨CaR.zero _ _, h.tm⟩⟩, t⟩
  · have hk : kept ⟨4, cl, rq, i, cn, at_, ⟨of, wk, cs⟩, ⟨tc, lv, rt, bk⟩⟩ = ⟨4, cl, rq, i, cn, 0, caZ, coZ⟩ := rfl
    refine (fkept_O 4 cn at_ of tc rt bk cl rq i wk.length cs.length lv.length A B D k m n w).mono ?_
    rintro e w1 ⟨rfl, t⟩
    exact ⟨⟨none, none, none, 0, 0, 0, by rw [hk]; rfl, fun w1 F h => by rw [hk]; exact ⟨CaR.zero _ _, SpR.zero _ _⟩⟩, t⟩
  · have hk : kept ⟨9, cl, rq, i, cn, at_, ⟨of, wk, cs⟩, ⟨tc, lv, rt, bk⟩⟩ = ⟨9, cl, rq, 0, 0, at_, caZ, coZ⟩ := rfl
    refine (fkept_T 9 cn at_ of tc rt bk cl rq i wk.length cs.length lv.length A B D k m n w).mono ?_
    rintro e w1 ⟨rfl, t⟩
    exact ⟨⟨none, none, none, 0, 0, 0, by rw [hk]; rfl, fun w1 F h => by rw [hk]; exact ⟨CaR.zero _ _, SpR.zero _ _⟩⟩, t⟩
  · obtain ⟨-, e1, e2, e3, e4, e5⟩ := flds_id h
    have hk : kept ⟨kd, cl, rq, i, cn, at_, ⟨of, wk, cs⟩, ⟨tc, lv, rt, bk⟩⟩ = ⟨kd, cl, rq, i, 0, 0, caZ, coZ⟩ := by simp only [kept, e1, e2, e3, e4, e5, cond_true, cond_false]
    refine (fkept_I kd cn at_ of tc rt bk cl rq i wk.length cs.length lv.length A B D k m n w h).mono ?_
    rintro e w1 ⟨rfl, t⟩
    exact ⟨⟨none, none, none, 0, 0, 0, by rw [hk]; rfl, fun w1 F h => by rw [hk]; exact ⟨CaR.zero _ _, SpR.zero _ _⟩⟩, t⟩
end Go.Proofs.Ytlcefchbfjfifaa
end
