/- The walk of ReplyTells. -/
import Derived.Test.YtecmbmfcooonnaaRepR
namespace Go.Proofs.Ytecmbmfcooonnaa
open Go.RowKit
set_option maxHeartbeats 4000000
set_option maxRecDepth 100000
set_option linter.unusedVariables false

theorem Rd.srcU {w : World} {F : Nat → Prop} {A : Option Addr} {n c : Nat} {xs : List Nat} (hr : Rd w F A n (xs.map U64)) (hA : A = none → c = 0) : Src Try.prog 1 49 (.slice A n c) n (xs.map U64) w := by
  have hn : n = xs.length := by have := hr.1; simpa using this.symm
  subst hn
  rcases A with _ | ad
  · have h0 : xs = [] := by
      rcases xs with _ | ⟨x, xs⟩
      · rfl
      · obtain ⟨_, _, e, _⟩ := hr.2 (by simp); cases e
    subst h0
    rw [hA rfl]
    exact Src.ofNil w Try.underlying49 0
  · exact Src.ofSlice w Try.underlying49 ad _ _ _ (by simp) hr.add (U64_one xs)
theorem append_srcU {ops : Array Oper} {rest : List Oper} {o : Oper} {a : Act} {Q : Exit → Act → World → Prop} {w : World} (hgd : o.guard = none) (s x : Operand)
    (ho : o.op = .call { callee := .builtin .append, args := #[s, x], argTypes := #[49, 49] })
    (m : List Nat) (g0 : Nat) (hg0 : w.heap.size = g0) (xv : Value) (hsv : a.eval s = .slice (some ⟨g0, 0, none⟩) 0 0) (hx : a.eval x = xv) (h2 : Src Try.prog 1 49 xv m.length (m.map U64) (w.alloc (.cells #[] 31))) (hsm : m.length ≤ 1000000)
    (h : ∀ A' c' w', Rd w' (fun k => w.heap.size ≤ k ∧ k < w'.heap.size) A' m.length (m.map U64) → Touch (fun _ => False) w w' → wpList Try.prog ops Q rest (a.put o.dst (.slice A' m.length c')) w') : wpList Try.prog ops Q (o :: rest) a (w.alloc (.cells #[] 31)) := by
  obtain ⟨i0, hi, hz0, hz1, hz2⟩ := info_parts infoU
  subst hg0
  refine wpList_own_append hgd s x 49 49 ho 31 i0 (.int .u64 0) 1 8 Try.underlying49 hi hz0 hz1 hz2 rfl _ (some w.heap.size) 0 [] hsv (Own.lit w 31 1 #[] 0 (by simp) rfl) xv m.length (m.map U64) hx h2 (by simp only [maxLen]; omega) (by omega) ?_
  intro v1 r1 w2 ho2 ht2 hr2
  rw [Nat.zero_add, List.nil_append] at ho2
  obtain ⟨A', c', rfl, -, -, -, hrd⟩ := ho2.rd
  refine h A' c' w2 (hrd.inside.mono (fun k hk => ⟨?_, hk.2⟩)) (((Touch.refl (fun _ => False) w).alloc _).trans ht2 (fun k hk e => by injection e with e; omega))
  rcases hr2 with e | ⟨q, e, hq⟩
  · rw [e] at hk; injection hk.1 with e; omega
  · rw [e] at hk; injection hk.1 with e; simp at hq; omega
theorem tells_walk {w : World} (a : RpV) (hka : a.okp) (A : Option Addr) (c : Nat) (hA : A = none → c = 0) (hra : Rd w (fun k => k < w.heap.size) A a.fired.length (a.fired.map U64)) (b : RpV) (hkb : b.okp) (B : Option Addr) (cb : Nat) (hrb : Rd w (fun k => k < w.heap.size) B b.fired.length (b.fired.map U64)) (x : Nat) (hx : x < 18446744073709551616) :
    Calls Try.prog 9 #[.agg #[.int .i64 a.code, .int .i64 a.time, .int .u64 a.t.id, .int .i64 a.t.contract, .int .i64 a.t.state, .int .i64 a.t.level, .int .u64 a.t.gen, .int .i64 a.t.from_, .int .i64 a.t.left, .int .i64 a.t.due, .int .i64 a.t.told, .slice A a.fired.length c, .int .u64 a.notice, .int .i64 a.dead], .agg #[.int .i64 b.code, .int .i64 b.time, .int .u64 b.t.id, .int .i64 b.t.contract, .int .i64 b.t.state, .int .i64 b.t.level, .int .u64 b.t.gen, .int .i64 b.t.from_, .int .i64 b.t.left, .int .i64 b.t.due, .int .i64 b.t.told, .slice B b.fired.length cb, .int .u64 b.notice, .int .i64 b.dead], .int .u64 x] w fun e w' => e = .returned (.bool true) ∧ Below w.heap.size w w' := by
  obtain ⟨W, hW⟩ : ∃ W, W = (w.alloc (.cells #[.int .i64 a.code, .int .i64 a.time, .int .u64 a.t.id, .int .i64 a.t.contract, .int .i64 a.t.state, .int .i64 a.t.level, .int .u64 a.t.gen, .int .i64 a.t.from_, .int .i64 a.t.left, .int .i64 a.t.due, .int .i64 a.t.told, .slice A a.fired.length c, .int .u64 a.notice, .int .i64 a.dead] 51)).alloc (.cells #[.int .i64 b.code, .int .i64 b.time, .int .u64 b.t.id, .int .i64 b.t.contract, .int .i64 b.t.state, .int .i64 b.t.level, .int .u64 b.t.gen, .int .i64 b.t.from_, .int .i64 b.t.left, .int .i64 b.t.due, .int .i64 b.t.told, .slice B b.fired.length cb, .int .u64 b.notice, .int .i64 b.dead] 51) := ⟨_, rfl⟩
  have HT := Lib.hid (show Touch (fun _ => False) w W from hW ▸ ((Touch.refl _ w).alloc _).alloc _)
  have HA := Lib.hid (show Blk W w.heap.size 51 #[.int .i64 a.code, .int .i64 a.time, .int .u64 a.t.id, .int .i64 a.t.contract, .int .i64 a.t.state, .int .i64 a.t.level, .int .u64 a.t.gen, .int .i64 a.t.from_, .int .i64 a.t.left, .int .i64 a.t.due, .int .i64 a.t.told, .slice A a.fired.length c, .int .u64 a.notice, .int .i64 a.dead] from hW ▸ (Blk.new w 51 _).alloc _)
  have HB := Lib.hid (show Blk W (w.heap.size + 1) 51 #[.int .i64 b.code, .int .i64 b.time, .int .u64 b.t.id, .int .i64 b.t.contract, .int .i64 b.t.state, .int .i64 b.t.level, .int .u64 b.t.gen, .int .i64 b.t.from_, .int .i64 b.t.left, .int .i64 b.t.due, .int .i64 b.t.told, .slice B b.fired.length cb, .int .u64 b.notice, .int .i64 b.dead] from hW ▸ (by simpa using Blk.new (w.alloc (.cells #[.int .i64 a.code, .int .i64 a.time, .int .u64 a.t.id, .int .i64 a.t.contract, .int .i64 a.t.state, .int .i64 a.t.level, .int .u64 a.t.gen, .int .i64 a.t.from_, .int .i64 a.t.left, .int .i64 a.t.due, .int .i64 a.t.told, .slice A a.fired.length c, .int .u64 a.notice, .int .i64 a.dead] 51)) 51 #[.int .i64 b.code, .int .i64 b.time, .int .u64 b.t.id, .int .i64 b.t.contract, .int .i64 b.t.state, .int .i64 b.t.level, .int .u64 b.t.gen, .int .i64 b.t.from_, .int .i64 b.t.left, .int .i64 b.t.due, .int .i64 b.t.told, .slice B b.fired.length cb, .int .u64 b.notice, .int .i64 b.dead]))
  have HW := Lib.hid hW
  clear hW
  have hLA : ∀ w1, Calls Try.prog 39 #[.agg #[.int .i64 a.code, .int .i64 a.time, .int .u64 a.t.id, .int .i64 a.t.contract, .int .i64 a.t.state, .int .i64 a.t.level, .int .u64 a.t.gen, .int .i64 a.t.from_, .int .i64 a.t.left, .int .i64 a.t.due, .int .i64 a.t.told, .slice A a.fired.length c, .int .u64 a.notice, .int .i64 a.dead]] w1 fun e w' => e = .returned (.bool (decide (a.fired.length ≤ 200))) ∧ Touch (fun _ => False) w1 w' := fun w1 => light_any a A _ c w1
  have hLB : ∀ w1, Calls Try.prog 39 #[.agg #[.int .i64 b.code, .int .i64 b.time, .int .u64 b.t.id, .int .i64 b.t.contract, .int .i64 b.t.state, .int .i64 b.t.level, .int .u64 b.t.gen, .int .i64 b.t.from_, .int .i64 b.t.left, .int .i64 b.t.due, .int .i64 b.t.told, .slice B b.fired.length cb, .int .u64 b.notice, .int .i64 b.dead]] w1 fun e w' => e = .returned (.bool (decide (b.fired.length ≤ 200))) ∧ Touch (fun _ => False) w1 w' := fun w1 => light_any b B _ cb w1
  have M0 := Lib.hid trivial
  by_cases hbig : ¬ (a.fired.length ≤ 200 ∧ b.fired.length ≤ 200)
  · have HD := Lib.hid hbig
    cases ha : decide (a.fired.length ≤ 200) <;> cases hb : decide (b.fired.length ≤ 200)
    case true.true => exfalso; simp at ha hb; omega
    all_goals (
      rw [ha] at hLA
      rw [hb] at hLB
      have HLA := Lib.hid hLA
      have HLB := Lib.hid hLB
      clear hra hrb hbig ha hb hLA hLB
      go_enter Try.func9, Try.ntmps9
      go_wp2_with (first
        | (go_at_call 39; have M9 := M1; go_must (refine (HLB.out _).mono ?_); rintro e wl ⟨rfl, tl⟩; have HT := Lib.hid (HT.out.trans tl (fun _ _ e => e)); clear tl)
        | (go_at_call 39; rw [← HW.out]; go_must (refine (HLA.out _).mono ?_); rintro e wl ⟨rfl, tl⟩; have HT := Lib.hid (HT.out.trans tl (fun _ _ e => e)); have M1 := Lib.hid trivial; have hb := tl.blk HB.out (fun e => e); have q0 := hb.cell 0; have q1 := hb.cell 1; have q2 := hb.cell 2; have q3 := hb.cell 3; have q4 := hb.cell 4; have q5 := hb.cell 5; have q6 := hb.cell 6; have q7 := hb.cell 7; have q8 := hb.cell 8; have q9 := hb.cell 9; have q10 := hb.cell 10; have q11 := hb.cell 11; have q12 := hb.cell 12; have q13 := hb.cell 13; simp at q0 q1 q2 q3 q4 q5 q6 q7 q8 q9 q10 q11 q12 q13; clear tl hb)
        | (go_at_call 40; go_must (refine (lives19_any _).mono ?_); rintro e wl ⟨rfl, tl⟩; have HT := Lib.hid (HT.out.trans tl (fun _ _ e => e)); clear tl))
      go_ret
      exact ⟨rfl, HT.out.below⟩)
  have hla : a.fired.length ≤ 200 := by omega
  have hlb : b.fired.length ≤ 200 := by omega
  rw [show decide (a.fired.length ≤ 200) = true by simpa using hla] at hLA
  rw [show decide (b.fired.length ≤ 200) = true by simpa using hlb] at hLB
  have HLA := Lib.hid hLA
  have HLB := Lib.hid hLB
  have HRA := Lib.hid hra
  have HRB := Lib.hid hrb
  have HSP := Lib.hid (fun w1 => psound_any a.code a.time a.t A a.fired.length c a.notice a.dead w1 hka.1)
  have HSR := Lib.hid (fun w1 => rsoundR_any a.code a.time a.t A a.fired.length c a.notice a.dead w1 hka.1)
  generalize rpSound a.code a.time a.t a.fired.length a.dead = so at HSP HSR
  have HAB := Lib.hid (fun w1 h1 h2 => psame_any (fun k => k < w.heap.size) (fun k => k < w.heap.size) A B c cb a b w1 h1 h2 (by omega))
  have HABr := Lib.hid (fun w1 h1 h2 => rsameR_any (fun k => k < w.heap.size) (fun k => k < w.heap.size) A B c cb a b w1 h1 h2 (by omega))
  have HAA := Lib.hid (fun w1 h1 h2 => psame_any (fun k => k < w.heap.size) (fun k => k < w.heap.size) A A c c a a w1 h1 h2 (by omega))
  rw [rpSame_refl] at HAA
  generalize rpSame a b = sb at HAB HABr
  have HCA := Lib.hid (fun w1 g h1 h2 => rsameR_any (fun k => k = g) (fun k => k < w.heap.size) (some ⟨g, 0, none⟩) A a.fired.length c a a w1 h1 h2 (by omega))
  rw [rpSame_refl] at HCA
  have HCo := Lib.hid (fun w1 h1 => copy_any a A c w1 h1 (by omega))
  clear hbig hra hrb hka hkb hLA hLB
  go_enter Try.func9, Try.ntmps9
  go_wp2_with (first
    | (go_at_call 39; have M9 := M1; go_must (refine (HLB.out _).mono ?_); rintro e wl ⟨rfl, tl⟩; have HT := Lib.hid (HT.out.trans tl (fun _ _ e => e)); have hb := tl.blk HB.out (fun e => e); have HB := Lib.hid hb; have ha := tl.blk HA.out (fun e => e); have HA := Lib.hid ha; have p0 := ha.cell 0; have p1 := ha.cell 1; have p2 := ha.cell 2; have p3 := ha.cell 3; have p4 := ha.cell 4; have p5 := ha.cell 5; have p6 := ha.cell 6; have p7 := ha.cell 7; have p8 := ha.cell 8; have p9 := ha.cell 9; have p10 := ha.cell 10; have p11 := ha.cell 11; have p12 := ha.cell 12; have p13 := ha.cell 13; simp at p0 p1 p2 p3 p4 p5 p6 p7 p8 p9 p10 p11 p12 p13; clear tl hb ha)
    | (go_at_call 39; rw [← HW.out]; go_must (refine (HLA.out _).mono ?_); rintro e wl ⟨rfl, tl⟩; have HT := Lib.hid (HT.out.trans tl (fun _ _ e => e)); have M1 := Lib.hid trivial; have hb := tl.blk HB.out (fun e => e); have HB := Lib.hid hb; have ha := tl.blk HA.out (fun e => e); have HA := Lib.hid ha; have q0 := hb.cell 0; have q1 := hb.cell 1; have q2 := hb.cell 2; have q3 := hb.cell 3; have q4 := hb.cell 4; have q5 := hb.cell 5; have q6 := hb.cell 6; have q7 := hb.cell 7; have q8 := hb.cell 8; have q9 := hb.cell 9; have q10 := hb.cell 10; have q11 := hb.cell 11; have q12 := hb.cell 12; have q13 := hb.cell 13; simp at q0 q1 q2 q3 q4 q5 q6 q7 q8 q9 q10 q11 q12 q13; clear tl hb ha)
    | (go_at_call 52; go_must (refine (HCo.out _ (by exact (HRA.out.touch HT.out (fun _ _ e => e)).mono (fun k hk => Nat.lt_of_lt_of_le hk HT.out.size))).mono ?_)
       rintro e w3 ⟨g, rfl, hbg, hg, t3⟩
       have hz3 := HT.out.size
       have hzb := HB.out.lt
       have hg0 : w.heap.size + 2 ≤ g := by omega
       have HT := Lib.hid (HT.out.trans t3 (fun _ _ e => e)); have HA := Lib.hid (t3.blk HA.out (fun e => e)); have HB := Lib.hid (t3.blk HB.out (fun e => e)); have HG := Lib.hid hbg
       have hgl := hbg.lt
       have hzA := HA.out.lt
       have hzB := HB.out.lt
       clear hbg t3))
  obtain ⟨p, hp⟩ : ∃ p, p = w3.heap.size := ⟨_, rfl⟩
  obtain ⟨w4, hw4⟩ : ∃ w4, w4 = w3.alloc (.cells #[.int .i64 a.code, .int .i64 a.time, .int .u64 a.t.id, .int .i64 a.t.contract, .int .i64 a.t.state, .int .i64 a.t.level, .int .u64 a.t.gen, .int .i64 a.t.from_, .int .i64 a.t.left, .int .i64 a.t.due, .int .i64 a.t.told, .slice (some ⟨g, 0, none⟩) a.fired.length a.fired.length, .int .u64 a.notice, .int .i64 a.dead] 51) := ⟨_, rfl⟩
  have t4 : Touch (fun _ => False) w3 w4 := hw4 ▸ ((Touch.refl (fun _ => False) w3).alloc (.cells #[.int .i64 a.code, .int .i64 a.time, .int .u64 a.t.id, .int .i64 a.t.contract, .int .i64 a.t.state, .int .i64 a.t.level, .int .u64 a.t.gen, .int .i64 a.t.from_, .int .i64 a.t.left, .int .i64 a.t.due, .int .i64 a.t.told, .slice (some ⟨g, 0, none⟩) a.fired.length a.fired.length, .int .u64 a.notice, .int .i64 a.dead] 51))
  have HC := Lib.hid (show Blk w4 p 51 #[.int .i64 a.code, .int .i64 a.time, .int .u64 a.t.id, .int .i64 a.t.contract, .int .i64 a.t.state, .int .i64 a.t.level, .int .u64 a.t.gen, .int .i64 a.t.from_, .int .i64 a.t.left, .int .i64 a.t.due, .int .i64 a.t.told, .slice (some ⟨g, 0, none⟩) a.fired.length a.fired.length, .int .u64 a.notice, .int .i64 a.dead] from hw4 ▸ hp ▸ Blk.new w3 51 _)
  have hgp : g < p := by omega
  have hpw : w.heap.size + 2 ≤ p := by have := HB.out.lt; omega
  rw [← hw4, ← hp]
  have HT := Lib.hid (HT.out.trans t4 (fun _ _ e => e)); have HA := Lib.hid (t4.blk HA.out (fun e => e)); have HB := Lib.hid (t4.blk HB.out (fun e => e)); have HG := Lib.hid (t4.blk HG.out (fun e => e))
  clear t4 hw4 hp
  clear p0 q0 p1 q1 p2 q2 p3 q3 p4 q4 p5 q5 p6 q6 p7 q7 p8 q8 p9 q9 p10 q10 p11 q11 p12 q12 p13 q13
  have q0 := HA.out.cell 0; have q1 := HA.out.cell 1; have q2 := HA.out.cell 2; have q3 := HA.out.cell 3; have q4 := HA.out.cell 4; have q5 := HA.out.cell 5; have q6 := HA.out.cell 6; have q7 := HA.out.cell 7; have q8 := HA.out.cell 8; have q9 := HA.out.cell 9; have q10 := HA.out.cell 10; have q11 := HA.out.cell 11; have q12 := HA.out.cell 12; have q13 := HA.out.cell 13; simp at q0 q1 q2 q3 q4 q5 q6 q7 q8 q9 q10 q11 q12 q13
  have p0 := HC.out.cell 0; have p1 := HC.out.cell 1; have p2 := HC.out.cell 2; have p3 := HC.out.cell 3; have p4 := HC.out.cell 4; have p5 := HC.out.cell 5; have p6 := HC.out.cell 6; have p7 := HC.out.cell 7; have p8 := HC.out.cell 8; have p9 := HC.out.cell 9; have p10 := HC.out.cell 10; have p11 := HC.out.cell 11; have p12 := HC.out.cell 12; have p13 := HC.out.cell 13; simp at p0 p1 p2 p3 p4 p5 p6 p7 p8 p9 p10 p11 p12 p13
  have HRC := Lib.hid (show Rd w4.drew (fun k => k = g) (some ⟨g, 0, none⟩) a.fired.length (a.fired.map U64) from ⟨by simp, fun _ => ⟨g, 0, rfl, HG.out.lt, rfl, fun j u hj => by rw [Nat.zero_add]; exact (HG.out.cell j).trans (by simpa using hj)⟩⟩)
  refine wp_region_plan [(0, 0), (0, 1), (2, 2), (0, 3), (0, 4), (0, 5), (1, 7), (2, 6), (2, 8), (0, 9), (0, 10), (0, 11), (0, 12), (0, 13), (1, 15), (1, 16), (2, 14), (2, 17), (0, 18), (0, 19), (0, 20), (0, 21), (0, 22), (2, 23), (0, 24), (0, 25)] (fun _ => False) (by kernel_rfl) (by kernel_rfl) (fun c a d v w h => by cases d <;> exact h) ?_
  iterate 2
    first
      | (refine plan_s1 rfl (by rfl) (fun Kc hKc => ?_)
         go_simp
         first
           | (refine hKc _ ?_)
         clear hKc Kc)
      | (refine plan_s0 rfl (by rfl) ?_; go_frame)
  refine plan_a1 rfl (by rfl) (fun Kc hKc => ?_)
  go_simp
  refine (HCA.out _ g (by exact HRC.out) (by exact HRA.out.touch HT.out.drew (fun _ _ e => e))).mono ?_
  rintro e w5 ⟨rfl, t5⟩
  refine hKc _ _ ⟨t5, ?_⟩
  clear hKc Kc
  clear q0 q1 q2 q3 q4 q5 q6 q7 q8 q9 q10 q11 q12 q13
  clear p0 p1 p2 p3 p4 p5 p6 p7 p8 p9 p10 p11 p12 p13
  have HT := Lib.hid (HT.out.trans (show Touch (fun _ => False) w4 w5 from (Touch.refl _ w4).drew.trans t5 (fun _ _ e => e)) (fun _ _ e => e)); have HA := Lib.hid ((show Touch (fun _ => False) w4 w5 from (Touch.refl _ w4).drew.trans t5 (fun _ _ e => e)).blk HA.out (fun e => e)); have HB := Lib.hid ((show Touch (fun _ => False) w4 w5 from (Touch.refl _ w4).drew.trans t5 (fun _ _ e => e)).blk HB.out (fun e => e)); have HC := Lib.hid ((show Touch (fun _ => False) w4 w5 from (Touch.refl _ w4).drew.trans t5 (fun _ _ e => e)).blk HC.out (fun e => e)); have HG := Lib.hid ((show Touch (fun _ => False) w4 w5 from (Touch.refl _ w4).drew.trans t5 (fun _ _ e => e)).blk HG.out (fun e => e))
  have q0 := HA.out.cell 0; have q1 := HA.out.cell 1; have q2 := HA.out.cell 2; have q3 := HA.out.cell 3; have q4 := HA.out.cell 4; have q5 := HA.out.cell 5; have q6 := HA.out.cell 6; have q7 := HA.out.cell 7; have q8 := HA.out.cell 8; have q9 := HA.out.cell 9; have q10 := HA.out.cell 10; have q11 := HA.out.cell 11; have q12 := HA.out.cell 12; have q13 := HA.out.cell 13; simp at q0 q1 q2 q3 q4 q5 q6 q7 q8 q9 q10 q11 q12 q13
  clear t5 HRC
  iterate 3
    first
      | (refine plan_s1 rfl (by rfl) (fun Kc hKc => ?_)
         go_simp
         first
           | (refine hKc _ ?_)
         clear hKc Kc)
      | (refine plan_s0 rfl (by rfl) ?_; go_frame)
  iterate 1
    first
      | (apply plan_h
         · rfl
         · rfl
         · intro wh hT
           have hf0 := show wh.cell? ⟨w.heap.size, 0, none⟩ = some (.int .i64 a.code) from (hT.blk HA.out (fun e => e)).cell 0
           have hf1 := show wh.cell? ⟨w.heap.size, 1, none⟩ = some (.int .i64 a.time) from (hT.blk HA.out (fun e => e)).cell 1
           have hf2 := show wh.cell? ⟨w.heap.size, 2, none⟩ = some (.int .u64 a.t.id) from (hT.blk HA.out (fun e => e)).cell 2
           have hf3 := show wh.cell? ⟨w.heap.size, 3, none⟩ = some (.int .i64 a.t.contract) from (hT.blk HA.out (fun e => e)).cell 3
           have hf4 := show wh.cell? ⟨w.heap.size, 4, none⟩ = some (.int .i64 a.t.state) from (hT.blk HA.out (fun e => e)).cell 4
           have hf5 := show wh.cell? ⟨w.heap.size, 5, none⟩ = some (.int .i64 a.t.level) from (hT.blk HA.out (fun e => e)).cell 5
           have hf6 := show wh.cell? ⟨w.heap.size, 6, none⟩ = some (.int .u64 a.t.gen) from (hT.blk HA.out (fun e => e)).cell 6
           have hf7 := show wh.cell? ⟨w.heap.size, 7, none⟩ = some (.int .i64 a.t.from_) from (hT.blk HA.out (fun e => e)).cell 7
           have hf8 := show wh.cell? ⟨w.heap.size, 8, none⟩ = some (.int .i64 a.t.left) from (hT.blk HA.out (fun e => e)).cell 8
           have hf9 := show wh.cell? ⟨w.heap.size, 9, none⟩ = some (.int .i64 a.t.due) from (hT.blk HA.out (fun e => e)).cell 9
           have hf10 := show wh.cell? ⟨w.heap.size, 10, none⟩ = some (.int .i64 a.t.told) from (hT.blk HA.out (fun e => e)).cell 10
           have hf11 := show wh.cell? ⟨w.heap.size, 11, none⟩ = some (.slice A a.fired.length c) from (hT.blk HA.out (fun e => e)).cell 11
           have hf12 := show wh.cell? ⟨w.heap.size, 12, none⟩ = some (.int .u64 a.notice) from (hT.blk HA.out (fun e => e)).cell 12
           have hf13 := show wh.cell? ⟨w.heap.size, 13, none⟩ = some (.int .i64 a.dead) from (hT.blk HA.out (fun e => e)).cell 13
           go_simp
           try rfl
         go_frame)
      | (refine plan_hn rfl (by rfl) ?_; go_frame)
  refine plan_a1 rfl (by rfl) (fun Kc hKc => ?_)
  go_simp
  refine (HSP.out _).mono ?_
  rintro e w6 ⟨rfl, t6⟩
  refine hKc _ _ ⟨t6, ?_⟩
  clear hKc Kc
  have HT := Lib.hid (HT.out.trans t6 (fun _ _ e => e)); have HA := Lib.hid (t6.blk HA.out (fun e => e)); have HB := Lib.hid (t6.blk HB.out (fun e => e)); have HC := Lib.hid (t6.blk HC.out (fun e => e)); have HG := Lib.hid (t6.blk HG.out (fun e => e))
  clear t6
  refine plan_a1 rfl (by rfl) (fun Kc hKc => ?_)
  go_simp
  refine (HSR.out _).mono ?_
  rintro e w7 ⟨rfl, t7⟩
  refine hKc _ _ ⟨t7, ?_⟩
  clear hKc Kc
  clear q0 q1 q2 q3 q4 q5 q6 q7 q8 q9 q10 q11 q12 q13
  have HT := Lib.hid (HT.out.trans t7 (fun _ _ e => e)); have HA := Lib.hid (t7.blk HA.out (fun e => e)); have HB := Lib.hid (t7.blk HB.out (fun e => e)); have HC := Lib.hid (t7.blk HC.out (fun e => e)); have HG := Lib.hid (t7.blk HG.out (fun e => e))
  have q0 := HA.out.cell 0; have q1 := HA.out.cell 1; have q2 := HA.out.cell 2; have q3 := HA.out.cell 3; have q4 := HA.out.cell 4; have q5 := HA.out.cell 5; have q6 := HA.out.cell 6; have q7 := HA.out.cell 7; have q8 := HA.out.cell 8; have q9 := HA.out.cell 9; have q10 := HA.out.cell 10; have q11 := HA.out.cell 11; have q12 := HA.out.cell 12; have q13 := HA.out.cell 13; simp at q0 q1 q2 q3 q4 q5 q6 q7 q8 q9 q10 q11 q12 q13
  have p0 := HB.out.cell 0; have p1 := HB.out.cell 1; have p2 := HB.out.cell 2; have p3 := HB.out.cell 3; have p4 := HB.out.cell 4; have p5 := HB.out.cell 5; have p6 := HB.out.cell 6; have p7 := HB.out.cell 7; have p8 := HB.out.cell 8; have p9 := HB.out.cell 9; have p10 := HB.out.cell 10; have p11 := HB.out.cell 11; have p12 := HB.out.cell 12; have p13 := HB.out.cell 13; simp at p0 p1 p2 p3 p4 p5 p6 p7 p8 p9 p10 p11 p12 p13
  clear t7
  iterate 5
    first
      | (refine plan_s1 rfl (by rfl) (fun Kc hKc => ?_)
         go_simp
         first
           | (refine hKc _ ?_)
         clear hKc Kc)
      | (refine plan_s0 rfl (by rfl) ?_; go_frame)
  iterate 1
    first
      | (apply plan_h
         · rfl
         · rfl
         · intro wh hT
           have hf0 := show wh.cell? ⟨w.heap.size, 0, none⟩ = some (.int .i64 a.code) from (hT.blk HA.out (fun e => e)).cell 0
           have hf1 := show wh.cell? ⟨w.heap.size, 1, none⟩ = some (.int .i64 a.time) from (hT.blk HA.out (fun e => e)).cell 1
           have hf2 := show wh.cell? ⟨w.heap.size, 2, none⟩ = some (.int .u64 a.t.id) from (hT.blk HA.out (fun e => e)).cell 2
           have hf3 := show wh.cell? ⟨w.heap.size, 3, none⟩ = some (.int .i64 a.t.contract) from (hT.blk HA.out (fun e => e)).cell 3
           have hf4 := show wh.cell? ⟨w.heap.size, 4, none⟩ = some (.int .i64 a.t.state) from (hT.blk HA.out (fun e => e)).cell 4
           have hf5 := show wh.cell? ⟨w.heap.size, 5, none⟩ = some (.int .i64 a.t.level) from (hT.blk HA.out (fun e => e)).cell 5
           have hf6 := show wh.cell? ⟨w.heap.size, 6, none⟩ = some (.int .u64 a.t.gen) from (hT.blk HA.out (fun e => e)).cell 6
           have hf7 := show wh.cell? ⟨w.heap.size, 7, none⟩ = some (.int .i64 a.t.from_) from (hT.blk HA.out (fun e => e)).cell 7
           have hf8 := show wh.cell? ⟨w.heap.size, 8, none⟩ = some (.int .i64 a.t.left) from (hT.blk HA.out (fun e => e)).cell 8
           have hf9 := show wh.cell? ⟨w.heap.size, 9, none⟩ = some (.int .i64 a.t.due) from (hT.blk HA.out (fun e => e)).cell 9
           have hf10 := show wh.cell? ⟨w.heap.size, 10, none⟩ = some (.int .i64 a.t.told) from (hT.blk HA.out (fun e => e)).cell 10
           have hf11 := show wh.cell? ⟨w.heap.size, 11, none⟩ = some (.slice A a.fired.length c) from (hT.blk HA.out (fun e => e)).cell 11
           have hf12 := show wh.cell? ⟨w.heap.size, 12, none⟩ = some (.int .u64 a.notice) from (hT.blk HA.out (fun e => e)).cell 12
           have hf13 := show wh.cell? ⟨w.heap.size, 13, none⟩ = some (.int .i64 a.dead) from (hT.blk HA.out (fun e => e)).cell 13
           go_simp
           try rfl
         go_frame)
      | (refine plan_hn rfl (by rfl) ?_; go_frame)
  iterate 1
    first
      | (apply plan_h
         · rfl
         · rfl
         · intro wh hT
           have hf0 := show wh.cell? ⟨w.heap.size + 1, 0, none⟩ = some (.int .i64 b.code) from (hT.blk HB.out (fun e => e)).cell 0
           have hf1 := show wh.cell? ⟨w.heap.size + 1, 1, none⟩ = some (.int .i64 b.time) from (hT.blk HB.out (fun e => e)).cell 1
           have hf2 := show wh.cell? ⟨w.heap.size + 1, 2, none⟩ = some (.int .u64 b.t.id) from (hT.blk HB.out (fun e => e)).cell 2
           have hf3 := show wh.cell? ⟨w.heap.size + 1, 3, none⟩ = some (.int .i64 b.t.contract) from (hT.blk HB.out (fun e => e)).cell 3
           have hf4 := show wh.cell? ⟨w.heap.size + 1, 4, none⟩ = some (.int .i64 b.t.state) from (hT.blk HB.out (fun e => e)).cell 4
           have hf5 := show wh.cell? ⟨w.heap.size + 1, 5, none⟩ = some (.int .i64 b.t.level) from (hT.blk HB.out (fun e => e)).cell 5
           have hf6 := show wh.cell? ⟨w.heap.size + 1, 6, none⟩ = some (.int .u64 b.t.gen) from (hT.blk HB.out (fun e => e)).cell 6
           have hf7 := show wh.cell? ⟨w.heap.size + 1, 7, none⟩ = some (.int .i64 b.t.from_) from (hT.blk HB.out (fun e => e)).cell 7
           have hf8 := show wh.cell? ⟨w.heap.size + 1, 8, none⟩ = some (.int .i64 b.t.left) from (hT.blk HB.out (fun e => e)).cell 8
           have hf9 := show wh.cell? ⟨w.heap.size + 1, 9, none⟩ = some (.int .i64 b.t.due) from (hT.blk HB.out (fun e => e)).cell 9
           have hf10 := show wh.cell? ⟨w.heap.size + 1, 10, none⟩ = some (.int .i64 b.t.told) from (hT.blk HB.out (fun e => e)).cell 10
           have hf11 := show wh.cell? ⟨w.heap.size + 1, 11, none⟩ = some (.slice B b.fired.length cb) from (hT.blk HB.out (fun e => e)).cell 11
           have hf12 := show wh.cell? ⟨w.heap.size + 1, 12, none⟩ = some (.int .u64 b.notice) from (hT.blk HB.out (fun e => e)).cell 12
           have hf13 := show wh.cell? ⟨w.heap.size + 1, 13, none⟩ = some (.int .i64 b.dead) from (hT.blk HB.out (fun e => e)).cell 13
           go_simp
           try rfl
         go_frame)
      | (refine plan_hn rfl (by rfl) ?_; go_frame)
  refine plan_a1 rfl (by rfl) (fun Kc hKc => ?_)
  go_simp
  refine (HAB.out _ (by exact HRA.out.touch HT.out (fun _ _ e => e)) (by exact HRB.out.touch HT.out (fun _ _ e => e))).mono ?_
  rintro e w8 ⟨rfl, t8⟩
  refine hKc _ _ ⟨t8, ?_⟩
  clear hKc Kc
  have HT := Lib.hid (HT.out.trans t8 (fun _ _ e => e)); have HA := Lib.hid (t8.blk HA.out (fun e => e)); have HB := Lib.hid (t8.blk HB.out (fun e => e)); have HC := Lib.hid (t8.blk HC.out (fun e => e)); have HG := Lib.hid (t8.blk HG.out (fun e => e))
  clear t8
  refine plan_a1 rfl (by rfl) (fun Kc hKc => ?_)
  go_simp
  refine (HABr.out _ (by exact HRA.out.touch HT.out (fun _ _ e => e)) (by exact HRB.out.touch HT.out (fun _ _ e => e))).mono ?_
  rintro e w9 ⟨rfl, t9⟩
  refine hKc _ _ ⟨t9, ?_⟩
  clear hKc Kc
  clear q0 q1 q2 q3 q4 q5 q6 q7 q8 q9 q10 q11 q12 q13
  clear p0 p1 p2 p3 p4 p5 p6 p7 p8 p9 p10 p11 p12 p13
  have HT := Lib.hid (HT.out.trans t9 (fun _ _ e => e)); have HA := Lib.hid (t9.blk HA.out (fun e => e)); have HB := Lib.hid (t9.blk HB.out (fun e => e)); have HC := Lib.hid (t9.blk HC.out (fun e => e)); have HG := Lib.hid (t9.blk HG.out (fun e => e))
  have q0 := HA.out.cell 0; have q1 := HA.out.cell 1; have q2 := HA.out.cell 2; have q3 := HA.out.cell 3; have q4 := HA.out.cell 4; have q5 := HA.out.cell 5; have q6 := HA.out.cell 6; have q7 := HA.out.cell 7; have q8 := HA.out.cell 8; have q9 := HA.out.cell 9; have q10 := HA.out.cell 10; have q11 := HA.out.cell 11; have q12 := HA.out.cell 12; have q13 := HA.out.cell 13; simp at q0 q1 q2 q3 q4 q5 q6 q7 q8 q9 q10 q11 q12 q13
  clear t9
  iterate 5
    first
      | (refine plan_s1 rfl (by rfl) (fun Kc hKc => ?_)
         go_simp
         first
           | (refine hKc _ ?_)
         clear hKc Kc)
      | (refine plan_s0 rfl (by rfl) ?_; go_frame)
  refine plan_a1 rfl (by rfl) (fun Kc hKc => ?_)
  go_simp
  refine (HAA.out _ (by exact HRA.out.touch HT.out (fun _ _ e => e)) (by exact HRA.out.touch HT.out (fun _ _ e => e))).mono ?_
  rintro e wb ⟨rfl, tb⟩
  refine hKc _ _ ⟨tb, ?_⟩
  clear hKc Kc
  clear q0 q1 q2 q3 q4 q5 q6 q7 q8 q9 q10 q11 q12 q13
  have HT := Lib.hid (HT.out.trans tb (fun _ _ e => e)); have HA := Lib.hid (tb.blk HA.out (fun e => e)); have HB := Lib.hid (tb.blk HB.out (fun e => e)); have HC := Lib.hid (tb.blk HC.out (fun e => e)); have HG := Lib.hid (tb.blk HG.out (fun e => e))
  clear tb
  iterate 2
    first
      | (refine plan_s1 rfl (by rfl) (fun Kc hKc => ?_)
         go_simp
         first
           | (refine hKc _ ?_)
         clear hKc Kc)
      | (refine plan_s0 rfl (by rfl) ?_; go_frame)
  refine plan_done ?_
  have HAl := Lib.hid ((Touch.refl (fun _ => False) wb).alloc (.cells #[] 31))
  have t4s := Lib.hid HG.out.lt
  have q11 : (wb.alloc (.cells #[] 31)).cell? ⟨w.heap.size, 11, none⟩ = some (.slice A a.fired.length c) := (HA.out.alloc _).cell 11
  go_wp2_with (
    at_builtin
    go_must (refine append_srcU rfl _ _ rfl a.fired wb.heap.size rfl (.slice A a.fired.length c) rfl rfl (by exact (HRA.out.touch (HT.out.trans HAl.out (fun _ _ e => e)) (fun _ _ e => e)).srcU hA) (by omega) ?_)
    intro A1 c1 w10 hr10 t10
    have HR1 := Lib.hid hr10
    have HT := Lib.hid (HT.out.trans t10 (fun _ _ e => e)); have HA := Lib.hid (t10.blk HA.out (fun e => e)); have HB := Lib.hid (t10.blk HB.out (fun e => e)); have HC := Lib.hid (t10.blk HC.out (fun e => e)); have HG := Lib.hid (t10.blk HG.out (fun e => e))
    have hc := HC.out.cell 11
    simp at hc
    have hz10 := t10.size
    clear hr10 t10)
  clear q11
  have hgb : g < wb.heap.size := by have h1 := HAl.out.size; have h2 := t4s.out; omega
  go_loopw [55] (fun i wr => ∃ j : Nat, j ≤ a.fired.length ∧ i = .int .i64 j ∧ (∃ cur : Array Value, cur.size = a.fired.length ∧ Blk wr g 31 cur) ∧ Touch (fun k => k = g) w10 wr) (fun i _ => a.fired.length - (intOf i).toNat)
  case atStart => exact ⟨0, by omega, rfl, ⟨_, by simp, HG.out⟩, Touch.refl _ _⟩
  case round =>
    obtain ⟨j, hj, rfl, ⟨cur, hcs, hbk⟩, hT⟩ := hrel
    have HS := Lib.hid hcs
    have HT1 := Lib.hid hT
    have HK := Lib.hid hbk
    have hc1 := (hT.blk HC.out (by omega)).cell 11
    simp at hc1
    clear hcs hbk hT
    by_cases hjk : j < a.fired.length
    · obtain ⟨u0, hu0⟩ : ∃ u0, cur[j]? = some u0 := ⟨cur[j]'(by rw [HS.out]; exact hjk), Array.getElem?_eq_getElem _⟩
      have hcj := HK.out.cell j
      rw [hu0] at hcj
      have hfj := HK.out.frozen j
      clear hu0
      go_wp2_with fail
      go_roundw
      case rel => exact ⟨j + 1, by omega, by go_num, ⟨_, by rw [Array.size_setIfInBounds]; exact HS.out, HK.out.set_ j _⟩, HT1.out.set (fun _ => rfl) _⟩
      case measure => simp [intOf]; omega
    · obtain rfl : j = a.fired.length := by omega
      clear hc1
      have HT := Lib.hid (HT.out.trans (S := fun _ => False) HT1.out (fun k hk e => by omega))
      have HA := Lib.hid (HT1.out.blk HA.out (by omega))
      have HR1 := Lib.hid (HR1.out.touch HT1.out (by intro k hk e; omega))
      clear HK HS HT1 HG HC HB
      go_wp2_with fail
      go_loopw [66] (fun i wq => ∃ j : Nat, j ≤ a.fired.length ∧ i = .int .i64 j ∧ Touch (fun _ => False) wr wq) (fun i _ => a.fired.length - (intOf i).toNat)
      case atStart => exact ⟨0, by omega, rfl, Touch.refl _ _⟩
      case round =>
        obtain ⟨j, hj, rfl, hT⟩ := hrel
        have HT2 := Lib.hid hT
        have hb := hT.blk HA.out (fun e => e)
        have q11 := hb.cell 11; have q0 := hb.cell 0; have q1 := hb.cell 1
        simp at q11 q0 q1
        clear hT hb
        by_cases hjk : j < a.fired.length
        · clear q0 q1
          obtain ⟨ga, off, ea, _, _, hca⟩ := (HRA.out.touch (HT.out.trans HT2.out (fun _ _ e => e)) (fun _ _ e => e)).2 (by omega)
          obtain ⟨gb, off', eb, _, _, hcb⟩ := (HR1.out.touch HT2.out (fun _ _ e => e)).2 (by omega)
          subst ea eb
          have hcj := hca j _ (get_U64 hjk)
          have hcj' := hcb j _ (get_U64 hjk)
          simp only [U64] at hcj hcj'
          generalize a.fired.getD j 0 = y at *
          clear hca hcb
          go_wp2_with fail
          refine wp_region_plan [(0, 0), (0, 1), (0, 2), (0, 3), (0, 4), (0, 5), (0, 6), (0, 7), (0, 8), (0, 9)] (fun _ => False) (by kernel_rfl) (by kernel_rfl) (fun c a d v w h => by cases d <;> exact h) ?_
          iterate 10
            first
              | (refine plan_s1 rfl (by rfl) (fun Kc hKc => ?_)
                 go_simp
                 first
                   | (refine hKc _ ?_)
                 clear hKc Kc)
              | (refine plan_s0 rfl (by rfl) ?_; go_frame)
          refine plan_done ?_
          go_wp2
          go_roundw
          case rel => exact ⟨j + 1, by omega, by go_num, HT2.out.drew⟩
          case measure => simp [intOf]; omega
        · obtain rfl : j = a.fired.length := by omega
          clear q11
          go_wp2_with fail
          have HTw := Lib.hid (HT.out.trans HT2.out (fun _ _ e => e))
          have HAq := Lib.hid (HT2.out.blk HA.out (fun e => e))
          refine wp_region_plan [(0, 0), (0, 1), (0, 2), (0, 3), (1, 5), (1, 6), (1, 7), (1, 8), (1, 9), (2, 4), (2, 10), (0, 11), (2, 12), (0, 13), (0, 14)] (fun _ => False) (by kernel_rfl) (by kernel_rfl) (fun c a d v w h => by cases d <;> exact h) ?_
          iterate 4
            first
              | (refine plan_s1 rfl (by rfl) (fun Kc hKc => ?_)
                 go_simp
                 first
                   | (refine hKc _ ?_)
                 clear hKc Kc)
              | (refine plan_s0 rfl (by rfl) ?_; go_frame)
          iterate 5
            first
              | (apply plan_h
                 · rfl
                 · rfl
                 · intro wh hT
                   have hf0 := show wh.cell? ⟨w.heap.size, 0, none⟩ = some (.int .i64 a.code) from (hT.blk HAq.out (fun e => e)).cell 0
                   have hf1 := show wh.cell? ⟨w.heap.size, 1, none⟩ = some (.int .i64 a.time) from (hT.blk HAq.out (fun e => e)).cell 1
                   go_simp
                   try rfl
                 go_frame)
              | (refine plan_hn rfl (by rfl) ?_; go_frame)
          refine plan_a1 rfl (by rfl) (fun Kc hKc => ?_)
          go_simp
          refine (refused_any a.code a.time _).mono ?_
          rintro e wx ⟨rfl, tx⟩
          refine hKc _ _ ⟨tx, ?_⟩
          clear hKc Kc
          have HTw := Lib.hid (HTw.out.drew.trans tx (fun _ _ e => e))
          clear tx q0 q1
          refine plan_a1 rfl (by rfl) (fun Kc hKc => ?_)
          go_simp
          refine (rsameR_any (fun _ => False) (fun _ => False) none none 0 0 ⟨a.code, a.time, ⟨0, 0, 0, 0, 0, 0, 0, 0, 0⟩, [], 0, 0⟩ ⟨a.code, a.time, ⟨0, 0, 0, 0, 0, 0, 0, 0, 0⟩, [], 0, 0⟩ _ (Rd.nil _ _ _) (Rd.nil _ _ _) (by simp)).mono ?_
          rintro e wy ⟨rfl, ty⟩
          rw [rpSame_refl]
          refine hKc _ _ ⟨ty, ?_⟩
          clear hKc Kc
          have HTw := Lib.hid (HTw.out.trans ty (fun _ _ e => e))
          clear ty
          iterate 1
            first
              | (refine plan_s1 rfl (by rfl) (fun Kc hKc => ?_)
                 go_simp
                 first
                   | (refine hKc _ ?_)
                 clear hKc Kc)
              | (refine plan_s0 rfl (by rfl) ?_; go_frame)
          refine plan_a1 rfl (by rfl) (fun Kc hKc => ?_)
          go_simp
          refine (lives19_any _).mono ?_
          rintro e wz ⟨rfl, tz⟩
          refine hKc _ _ ⟨tz, ?_⟩
          clear hKc Kc
          have HTw := Lib.hid (HTw.out.trans tz (fun _ _ e => e))
          clear tz
          iterate 2
            first
              | (refine plan_s1 rfl (by rfl) (fun Kc hKc => ?_)
                 go_simp
                 first
                   | (refine hKc _ ?_)
                 clear hKc Kc)
              | (refine plan_s0 rfl (by rfl) ?_; go_frame)
          refine plan_done ?_
          go_wp2
          go_ret
          exact ⟨rfl, HTw.out.below⟩
theorem walk_ReplyTells {w : World} (a : RpV) (hka : a.okp) (A : Option Addr) (c : Nat) (hA : A = none → c = 0) (hra : Rd w (fun k => k < w.heap.size) A a.fired.length (a.fired.map U64)) (b : RpV) (hkb : b.okp) (B : Option Addr) (cb : Nat) (_ : B = none → cb = 0) (hrb : Rd w (fun k => k < w.heap.size) B b.fired.length (b.fired.map U64)) (x : Int) (hx : 0 ≤ x ∧ x ≤ 18446744073709551615) :
    Calls Try.prog 9 #[.agg #[.int .i64 a.code, .int .i64 a.time, .int .u64 a.t.id, .int .i64 a.t.contract, .int .i64 a.t.state, .int .i64 a.t.level, .int .u64 a.t.gen, .int .i64 a.t.from_, .int .i64 a.t.left, .int .i64 a.t.due, .int .i64 a.t.told, .slice A a.fired.length c, .int .u64 a.notice, .int .i64 a.dead], .agg #[.int .i64 b.code, .int .i64 b.time, .int .u64 b.t.id, .int .i64 b.t.contract, .int .i64 b.t.state, .int .i64 b.t.level, .int .u64 b.t.gen, .int .i64 b.t.from_, .int .i64 b.t.left, .int .i64 b.t.due, .int .i64 b.t.told, .slice B b.fired.length cb, .int .u64 b.notice, .int .i64 b.dead], .int .u64 x] w fun e w' => e = .returned (.bool true) ∧ Below w.heap.size w w' := by
  obtain ⟨n, rfl⟩ := Int.eq_ofNat_of_zero_le hx.1
  exact tells_walk a hka A c hA hra b hkb B cb hrb n (by omega)
end Go.Proofs.Ytecmbmfcooonnaa
