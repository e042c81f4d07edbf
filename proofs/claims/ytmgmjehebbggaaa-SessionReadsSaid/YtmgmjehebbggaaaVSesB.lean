/- A table of what clients asked last: Look. -/
import Derived.Test.YtmgmjehebbggaaaVSesA
namespace Go.Proofs.Ytmgmjehebbggaaa
open Go.RowKit Go.Maps
set_option maxHeartbeats 4000000
set_option maxRecDepth 100000
set_option linter.unusedVariables false

def lookK (s : SesS) (c q : Nat) : Int := match s c with | none => if 0 < q then 1 else 3 | some x => if x.1 < q then 1 else if q = x.1 then 2 else 3
theorem slook_no (g b : Nat) (s : SesS) (F : Nat → Prop) (w : World) (h : SesAt w g b s F) (c q : Nat) (hc : c < 18446744073709551616) (hq : q < 18446744073709551616) (hk : lookK s c q ≠ 2) :
    Calls Try.prog 10 #[.pointer (some ⟨g, 0, none⟩), .int .u64 c, .int .u64 q] w fun e w' => e = .returned (.tuple #[.int .i64 (lookK s c q), .agg #[.int .i64 0, .int .i64 0, .int .u64 0, .int .i64 0, .int .i64 0, .int .i64 0, .int .u64 0, .int .i64 0, .int .i64 0, .int .i64 0, .int .i64 0, .slice none 0 0, .int .u64 0, .int .i64 0]]) ∧ Touch (fun _ => False) w w' := by
  have HT0 := Lib.hid ((Touch.refl (fun _ => False) w).alloc (.cells #[.int .i64 0, .int .i64 0, .int .u64 0, .int .i64 0, .int .i64 0, .int .i64 0, .int .u64 0, .int .i64 0, .int .i64 0, .int .i64 0, .int .i64 0, .slice none 0 0, .int .u64 0, .int .i64 0] 35))
  have h0 := h.touch HT0.out (fun e => e) (fun e => e) (fun _ _ e => e)
  have HN := Lib.hid (snone_any g b s F _ h0)
  have q0 := h0.blk.cell 0
  simp at q0
  obtain ⟨v, hv⟩ : ∃ v, v = lookK s c q := ⟨_, rfl⟩
  rw [← hv] at hk ⊢
  have hm := h0.map
  have HV := Lib.hid hv
  clear h h0 hv
  cases hs : s c with
  | none =>
    have hl := (hm.look hc hs).1
    rw [ask0] at hl
    have HE := Lib.hid (show v = if 0 < q then 1 else 3 by rw [HV.out, lookK, hs])
    clear hm hs HV
    by_cases h0 : 0 < q
    · have HE := Lib.hid (show v = 1 by rw [HE.out, if_pos h0])
      have h0' : (0 : Int) < q := by omega
      go_enter Try.func10, Try.ntmps10
      go_wp2_with (go_at_call 26; go_must (refine HN.out.mono ?_); rintro e w1 ⟨rfl, rfl⟩)
      exact bodyPost_ret (v := .tuple #[.int .i64 1, .agg #[.int .i64 0, .int .i64 0, .int .u64 0, .int .i64 0, .int .i64 0, .int .i64 0, .int .u64 0, .int .i64 0, .int .i64 0, .int .i64 0, .int .i64 0, .slice none 0 0, .int .u64 0, .int .i64 0]]) (by simp [results, Try.results10, go_sem]) rfl ⟨by rw [HE.out], HT0.out.alloc _⟩
    · have HE := Lib.hid (show v = 3 by rw [HE.out, if_neg h0])
      have h0' : ¬ (0 : Int) < q := by omega
      go_enter Try.func10, Try.ntmps10
      go_wp2_with (go_at_call 26; go_must (refine HN.out.mono ?_); rintro e w1 ⟨rfl, rfl⟩)
      exact bodyPost_ret (v := .tuple #[.int .i64 3, .agg #[.int .i64 0, .int .i64 0, .int .u64 0, .int .i64 0, .int .i64 0, .int .i64 0, .int .u64 0, .int .i64 0, .int .i64 0, .int .i64 0, .int .i64 0, .slice none 0 0, .int .u64 0, .int .i64 0]]) (by simp [results, Try.results10, go_sem]) rfl ⟨by rw [HE.out], HT0.out.alloc _⟩
  | some x =>
    obtain ⟨rq, a⟩ := x
    obtain ⟨A, k, -, hl, -⟩ := hm.look1 hc hs
    rw [askVal] at hl
    have HE := Lib.hid (show v = if rq < q then 1 else if q = rq then 2 else 3 by rw [HV.out, lookK, hs])
    clear hm hs HV
    by_cases h1 : rq < q
    · have HE := Lib.hid (show v = 1 by rw [HE.out, if_pos h1])
      have h1' : (rq : Int) < q := by omega
      go_enter Try.func10, Try.ntmps10
      go_wp2_with (go_at_call 26; go_must (refine HN.out.mono ?_); rintro e w1 ⟨rfl, rfl⟩)
      exact bodyPost_ret (v := .tuple #[.int .i64 1, .agg #[.int .i64 0, .int .i64 0, .int .u64 0, .int .i64 0, .int .i64 0, .int .i64 0, .int .u64 0, .int .i64 0, .int .i64 0, .int .i64 0, .int .i64 0, .slice none 0 0, .int .u64 0, .int .i64 0]]) (by simp [results, Try.results10, go_sem]) rfl ⟨by rw [HE.out], HT0.out.alloc _⟩
    · by_cases h2 : q = rq
      · exact absurd (by rw [HE.out, if_neg h1, if_pos h2]) hk
      · have HE := Lib.hid (show v = 3 by rw [HE.out, if_neg h1, if_neg h2])
        have h1' : ¬ (rq : Int) < q := by omega
        have h2' : ((q : Int) == (rq : Int)) = false := by simp; omega
        have h2'' : ¬ (q : Int) = rq := by omega
        go_enter Try.func10, Try.ntmps10
        go_wp2_with (go_at_call 26; go_must (refine HN.out.mono ?_); rintro e w1 ⟨rfl, rfl⟩)
        exact bodyPost_ret (v := .tuple #[.int .i64 3, .agg #[.int .i64 0, .int .i64 0, .int .u64 0, .int .i64 0, .int .i64 0, .int .i64 0, .int .u64 0, .int .i64 0, .int .i64 0, .int .i64 0, .int .i64 0, .slice none 0 0, .int .u64 0, .int .i64 0]]) (by simp [results, Try.results10, go_sem]) rfl ⟨by rw [HE.out], HT0.out.alloc _⟩
def LookP (a : RpV) (w : World) (e : Ending) (w' : World) : Prop :=
  ∃ g, e = .returned (.tuple #[.int .i64 2, .agg #[.int .i64 a.code, .int .i64 a.time, .int .u64 a.t.id, .int .i64 a.t.contract, .int .i64 a.t.state, .int .i64 a.t.level, .int .u64 a.t.gen, .int .i64 a.t.from_, .int .i64 a.t.left, .int .i64 a.t.due, .int .i64 a.t.told, .slice (some ⟨g, 0, none⟩) a.fired.length a.fired.length, .int .u64 a.notice, .int .i64 a.dead]]) ∧ Blk w' g 29 (a.fired.map U64).toArray ∧ w.heap.size ≤ g ∧ Touch (fun _ => False) w w'
theorem slook_yes (g b : Nat) (s : SesS) (F : Nat → Prop) (w : World) (h : SesAt w g b s F) (c q : Nat) (hc : c < 18446744073709551616) (hq : q < 18446744073709551616) (a : RpV) (hs : s c = some (q, a)) :
    Calls Try.prog 10 #[.pointer (some ⟨g, 0, none⟩), .int .u64 c, .int .u64 q] w (LookP a w) := by
  have HT0 := Lib.hid ((Touch.refl (fun _ => False) w).alloc (.cells #[.int .i64 0, .int .i64 0, .int .u64 0, .int .i64 0, .int .i64 0, .int .i64 0, .int .u64 0, .int .i64 0, .int .i64 0, .int .i64 0, .int .i64 0, .slice none 0 0, .int .u64 0, .int .i64 0] 35))
  have HB0 := Lib.hid (Blk.new w 35 #[.int .i64 0, .int .i64 0, .int .u64 0, .int .i64 0, .int .i64 0, .int .i64 0, .int .u64 0, .int .i64 0, .int .i64 0, .int .i64 0, .int .i64 0, .slice none 0 0, .int .u64 0, .int .i64 0])
  have h0 := h.touch HT0.out (fun e => e) (fun e => e) (fun _ _ e => e)
  have HN := Lib.hid (snone_any g b s F _ h0)
  have q0 := h0.blk.cell 0
  simp at q0
  have hm := h0.map
  have h64 := h0.ok.rep c q a hs
  obtain ⟨A, k, hr, hl, -⟩ := hm.look1 hc hs
  rw [askVal] at hl
  have HR := Lib.hid hr.inside
  clear h h0 hm hs hr
  have hzz : (w.alloc (.cells #[.int .i64 0, .int .i64 0, .int .u64 0, .int .i64 0, .int .i64 0, .int .i64 0, .int .u64 0, .int .i64 0, .int .i64 0, .int .i64 0, .int .i64 0, .slice none 0 0, .int .u64 0, .int .i64 0] 35)).heap.size = w.heap.size + 1 := by simp
  have HZ := Lib.hid hzz
  clear hzz
  go_enter Try.func10, Try.ntmps10
  go_wp2_with (first
    | (go_at_call 26; go_must (refine HN.out.mono ?_); rintro e w1 ⟨rfl, rfl⟩)
    | (go_at_call 27
       go_must (refine (copy_any a A k _ (by exact (HR.out.touch ((Touch.refl (fun _ => False) _).alloc _) (fun _ _ e => e)).mono (fun j hj => by have := hj.2; simp at this ⊢; omega)) (by omega)).mono ?_)
       rintro e w3 ⟨g3, rfl, hb3, hg3, t3⟩
       have HB3 := Lib.hid hb3
       have HT3 := Lib.hid t3
       have hy := t3.blk (HB0.out.alloc (.cells #[.int .u64 q, .int .i64 a.code, .int .i64 a.time, .int .u64 a.t.id, .int .i64 a.t.contract, .int .i64 a.t.state, .int .i64 a.t.level, .int .u64 a.t.gen, .int .i64 a.t.from_, .int .i64 a.t.left, .int .i64 a.t.due, .int .i64 a.t.told, .slice A a.fired.length k, .int .u64 a.notice, .int .i64 a.dead] 72)) (fun e => e)
       have hg3' : w.heap.size + 2 ≤ g3 := by simpa using hg3
       have d0 := hy.cell 0; have d1 := hy.cell 1; have d2 := hy.cell 2; have d3 := hy.cell 3; have d4 := hy.cell 4; have d5 := hy.cell 5; have d6 := hy.cell 6; have d7 := hy.cell 7; have d8 := hy.cell 8; have d9 := hy.cell 9; have d10 := hy.cell 10; have d11 := hy.cell 11; have d12 := hy.cell 12; have d13 := hy.cell 13; simp at d0 d1 d2 d3 d4 d5 d6 d7 d8 d9 d10 d11 d12 d13
       have f0 := hy.frozen 0; have f1 := hy.frozen 1; have f2 := hy.frozen 2; have f3 := hy.frozen 3; have f4 := hy.frozen 4; have f5 := hy.frozen 5; have f6 := hy.frozen 6; have f7 := hy.frozen 7; have f8 := hy.frozen 8; have f9 := hy.frozen 9; have f10 := hy.frozen 10; have f11 := hy.frozen 11; have f12 := hy.frozen 12; have f13 := hy.frozen 13
       clear hy hb3 t3 hg3))
  have t4 : Touch (fun k => k = w.heap.size) w3 (w3.setCells w.heap.size 0 [.int .i64 a.code, .int .i64 a.time, .int .u64 a.t.id, .int .i64 a.t.contract, .int .i64 a.t.state, .int .i64 a.t.level, .int .u64 a.t.gen, .int .i64 a.t.from_, .int .i64 a.t.left, .int .i64 a.t.due, .int .i64 a.t.told, .slice (some ⟨g3, 0, none⟩) a.fired.length a.fired.length, .int .u64 a.notice, .int .i64 a.dead]) := Touch.setCells _ _ _ (Touch.refl _ w3) (fun _ => rfl)
  refine bodyPost_ret (v := .tuple #[.int .i64 2, .agg #[.int .i64 a.code, .int .i64 a.time, .int .u64 a.t.id, .int .i64 a.t.contract, .int .i64 a.t.state, .int .i64 a.t.level, .int .u64 a.t.gen, .int .i64 a.t.from_, .int .i64 a.t.left, .int .i64 a.t.due, .int .i64 a.t.told, .slice (some ⟨g3, 0, none⟩) a.fired.length a.fired.length, .int .u64 a.notice, .int .i64 a.dead]]) (by simp [results, Try.results10, go_sem, d0, d1, d2, d3, d4, d5, d6, d7, d8, d9, d10, d11, d12, d13]) rfl ⟨g3, rfl, ?_, by omega, ?_⟩
  · exact t4.blk HB3.out (by omega)
  · exact ((HT0.out.alloc _).trans HT3.out (fun _ _ e => e)).trans t4 (fun k hk e => by omega)
end Go.Proofs.Ytmgmjehebbggaaa
