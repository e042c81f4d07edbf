/- almanac.Free: what lies free of the closed spans, handed out one by one. -/
import Derived.Test.YtcblbjhhlnmkjaaRoundP
import Derived.Test.YtcblbjhhlnmkjaaCalJ
namespace Go.Proofs.Ytcblbjhhlnmkjaa
open Go.RowKit Cal
attribute [local go_sem] Oper.semAt_some
set_option maxHeartbeats 4000000
set_option maxRecDepth 100000
set_option linter.unusedVariables false
attribute [local irreducible] wpPlan

theorem free_any (a : Nat) (x y : Int) (w : World) :
    Calls Try.prog 131 #[.pointer (some ⟨a, 0, none⟩), .int .i64 x, .int .i64 y] w fun e w' => e = .returned (.func (.func 142) #[] #[.pointer (some ⟨w.heap.size + 1, 0, none⟩), .pointer (some ⟨w.heap.size + 2, 0, none⟩), .pointer (some ⟨w.heap.size, 0, none⟩)]) ∧
      w' = ((w.alloc (.cells #[.pointer (some ⟨a, 0, none⟩)] 141)).alloc (.cells #[.int .i64 x] 2)).alloc (.cells #[.int .i64 y] 2) := by
  have hmf : ∀ (fn : Fn) (first cap : Array Value) (w : World), (Instr.makeFunc fn first cap).run Try.prog w = .ok (.func fn first cap) w := fun _ _ _ _ => rfl
  go_enter Try.func131, Try.ntmps131
  go_wp2
  go_ret
  exact ⟨rfl, rfl⟩
/-- A span that is handed out. -/
abbrev FSp := { s : Sp // 0 ≤ s.f ∧ s.f < s.t ∧ s.t ≤ 1125899906842624 }
def encSp (s : FSp) : Array Value := #[.agg #[.int .i64 s.1.f, .int .i64 s.1.t]]
theorem AlAt.keep {w w' : World} {g : Nat} {cl : List Sp} {B : Option Addr} {m : Nat} {M T : Nat → Prop} (h : AlAt w g cl B m M) (hg : ¬ T g) (hM : ∀ k, M k → ¬ T k) (hk : KeepT T w w') : AlAt w' g cl B m M := by
  refine ⟨hk.blk h.blk hg, h.row.1, h.row.2.1, fun hn => ?_⟩
  obtain ⟨g', off, e, hl, hm, hc⟩ := h.row.2.2 hn
  exact ⟨g', off, e, Nat.lt_of_lt_of_le hl hk.1, hm, fun j u hj => hk.cell (hM _ hm) (hc j u hj)⟩
theorem freeIter (n : Nat) (hn1 : 1 ≤ n) (a ba bf bt : Nat) (cl : List Sp) (B : Option Addr) (m : Nat) (M T : Nat → Prop) (st : Int) (w : World) (h : AlAt w a cl B m M) (hM : ∀ k, M k → ¬ T k) (hTa : ¬ T a) (hTb : ¬ T ba) (hT : ∀ k, T k → k < w.heap.size)
    (hcf : w.cell? ⟨bf, 0, none⟩ = some (.int .i64 st)) (hct : w.cell? ⟨bt, 0, none⟩ = some (.int .i64 1125899906842624)) (hca : w.cell? ⟨ba, 0, none⟩ = some (.pointer (some ⟨a, 0, none⟩))) (hrow : rowE cl = 0) (h0 : 0 ≤ st) (h1 : st ≤ 1125899906842624) :
    SeqStopsK Fence.wide n Try.prog 142 #[.pointer (some ⟨bf, 0, none⟩), .pointer (some ⟨bt, 0, none⟩), .pointer (some ⟨ba, 0, none⟩)] encSp (KeepT T) (fun xs : List FSp => xs.map (·.1) = freeL cl st) (fun pre => pre.map (·.1) <+: freeL cl st) (freeL cl st).length w := fun l J Jx W hW hJ hJx hY hJ0 => by
  have htW : Touch (fun _ => False) w W := Touch.of_below hW
  have hb := fun {g : Nat} {v : Value} (hc : w.cell? ⟨g, 0, none⟩ = some v) => (show W.cell? ⟨g, 0, none⟩ = some v from (htW.cell (p := ⟨g, 0, none⟩) (World.block_lt_of_cell? w _ hc) (fun e => e)).trans hc)
  have HA := Lib.hid (h.touch htW (fun e => e) (fun _ _ e => e))
  have HM := Lib.hid hM
  have HTs := Lib.hid (fun k hk => Nat.lt_of_lt_of_le (hT k hk) hW.size)
  have c1 := hb hcf
  have c2 := hb hct
  have C3 := Lib.hid (hb hca)
  clear hb
  have HR := Lib.hid hrow
  have HRow := Lib.hid (rowE_row hrow).1
  have hlen := (rowE_row hrow).2
  have HJ := Lib.hid hJ
  have HY := Lib.hid hY
  have HJ0 := Lib.hid hJ0
  have hmx : max st 0 = st := Int.max_eq_left h0
  clear h hrow hM hcf hct hca hW hJ hJx hY hJ0 hT htW
  refine callsIn_of_wp Try.func142 rfl trivial ?_ rfl
  simp only [Try.ntmps142, List.size_toArray, List.length_cons, List.length_nil, Nat.reduceAdd, Nat.reduceSub, Array.replicate_succ, Array.replicate_zero, List.push_toArray, List.append_toArray, List.nil_append, List.cons_append]
  gi_wp2_with fail
  refine wpIn_wide.2 ?_
  refine wp_region_plan [(0, 0), (0, 1), (0, 2), (0, 3), (0, 4), (0, 5)] (fun _ => False) (by kernel_rfl) (by kernel_rfl) (fun c a d v w h => by cases d <;> exact h) ?_
  iterate 6
    refine plan_s1 rfl (by rfl) (fun Kc hKc => ?_)
    go_simp
    first
      | (refine hKc _ ?_)
    clear hKc Kc
  refine plan_done ?_
  gi_wp2_with fail
  clear hmx
  gi_loopw [5] (fun x wr => ∃ (pre : List FSp) (y : Int), x = .int .i64 y ∧ 0 ≤ y ∧ y ≤ 1125899906842624 ∧ freeL cl st = pre.map (·.1) ++ freeL cl y ∧ J pre wr ∧ KeepT T W wr) (fun x _ => (1125899906842624 - intOf x).toNat)
  case atStart => exact ⟨[], st, rfl, h0, h1, rfl, HJ.out _ _ _ none HJ0.out ((Touch.refl _ W).drew).grown (fun r e => by cases e), KeepT.of_touch ((Touch.refl (fun _ => False) W).drew) (fun _ e => e.elim)⟩
  case round =>
    clear HJ0
    obtain ⟨pre, y, rfl, hy0, hy1, hfr, hJs, hK⟩ := hrel
    have HFr := Lib.hid hfr
    have HJs := Lib.hid hJs
    have HK := Lib.hid hK
    have c3 := hK.cell (i := 0) hTb C3.out
    clear hfr hJs hK
    by_cases hyH : y < 1125899906842624
    · cases hn : nextL cl y with
      | none =>
        have HN := Lib.hid (next_none a cl B m M y wr (HA.out.keep hTa HM.out HK.out) (by omega) hn)
        have hf1 := free_none cl y hyH hn
        rw [hf1] at HFr
        clear hn hf1
        have HY2 := Lib.hid (fun W1 (hj : J pre W1) => HY.out pre ⟨⟨y, 1125899906842624⟩, hy0, hyH, Int.le_refl _⟩ W1 hj (by rw [HFr.out]; simp))
        gi_wp2_with (refine ⟨trivial, ?_⟩; gi_at_call 143; refine (callsIn_wide.2 HN.out).mono ?_; rintro e w1 ⟨rfl, t1⟩; have HT1 := Lib.hid (t1.alloc (.cells #[.int .i64 0, .int .i64 0] 165)); obtain ⟨fn, tmps, assign, body, hy, hR⟩ := HY2.out _ (HJ.out _ _ _ none HJs.out HT1.out.grown (fun r e => by cases e)); dsimp only [encSp] at hy; clear t1)
        refine hR.mono ?_
        rintro e W3 (⟨rfl, hJ3, hk3⟩ | ⟨rfl, hJx3⟩)
        · gi_wp2
          refine bodyPost_ret (v := .tuple #[]) (results_none (by rfl) _ _ _) rfl ⟨⟨_, rfl⟩, .inl ⟨_, by rw [HFr.out, List.map_append]; rfl, hJ3⟩⟩
        · gi_wp2
          refine bodyPost_ret (v := .tuple #[]) (results_none (by rfl) _ _ _) rfl ⟨⟨_, rfl⟩, .inr ⟨_, by rw [HFr.out, List.map_append]; exact List.prefix_refl _, hJx3⟩⟩
      | some s =>
        have HN := Lib.hid (next_some a cl B m M y s wr (HA.out.keep hTa HM.out HK.out) (by omega) hn)
        have hf1 := free_some cl 0 y s HRow.out hyH hn
        have hm := next_mem cl y s hn
        have hs := Row.mem HRow.out s hm.1
        have hys := hm.2
        rw [hf1] at HFr
        clear hn hf1 hm
        obtain ⟨f, t⟩ := s
        simp only at HN HFr hs hys
        have hmin : min f 1125899906842624 = f := Int.min_eq_left (by omega)
        by_cases hyf : y < f
        · rw [if_pos hyf] at HFr
          have HY2 := Lib.hid (fun W1 (hj : J pre W1) => HY.out pre ⟨⟨y, f⟩, hy0, hyf, (show f ≤ 1125899906842624 by omega)⟩ W1 hj (by rw [HFr.out]; simp <;> omega))
          gi_wp2_with (refine ⟨trivial, ?_⟩; gi_at_call 143; refine (callsIn_wide.2 HN.out).mono ?_; rintro e w1 ⟨rfl, t1⟩; have HT1 := Lib.hid ((t1.alloc (.cells #[.int .i64 f, .int .i64 t] 165)).alloc (.cells #[.int .i64 y, .int .i64 f] 165)); have HB1 := Lib.hid ((Blk.new w1 165 #[.int .i64 f, .int .i64 t]).alloc (.cells #[.int .i64 y, .int .i64 f] 165)); have hs1 := t1.size; obtain ⟨fn, tmps, assign, body, hy, hR⟩ := HY2.out _ (HJ.out _ _ _ none HJs.out HT1.out.grown (fun r e => by cases e)); dsimp only [encSp] at hy; clear t1)
          have hkW := HK.out.t (KeepT.of_touch (T := T) HT1.out (fun _ e => e.elim))
          have hW1 : W.heap.size ≤ w1.heap.size := by have := HK.out.1; omega
          have hnT : ¬ T w1.heap.size := fun e => by have := HTs.out _ e; omega
          refine hR.mono ?_
          rintro e W3 (⟨rfl, hJ3, hk3⟩ | ⟨rfl, hJx3⟩)
          · have q1 : W3.cell? ⟨w1.heap.size, 1, none⟩ = some (.int .i64 t) := hk3.cell (i := 1) hnT ((HB1.out.cell 1).trans (by simp))
            have HJ3 := Lib.hid hJ3
            have HK3 := Lib.hid (hkW.t hk3)
            clear hJ3 hk3 hkW
            gi_wp2
            go_roundw
            case rel => exact ⟨pre ++ [⟨⟨y, f⟩, hy0, hyf, (show f ≤ 1125899906842624 by omega)⟩], t, rfl, by omega, by omega, by rw [HFr.out]; simp, HJ3.out, HK3.out⟩
            case measure => simp [intOf]; omega
          · gi_wp2
            refine bodyPost_ret (v := .tuple #[]) (results_none (by rfl) _ _ _) rfl ⟨⟨_, rfl⟩, .inr ⟨_, by rw [HFr.out, ← List.append_assoc, List.map_append]; exact List.prefix_append _ _, hJx3⟩⟩
        · rw [if_neg hyf, List.nil_append] at HFr
          gi_wp2_with (refine ⟨trivial, ?_⟩; gi_at_call 143; refine (callsIn_wide.2 HN.out).mono ?_; rintro e w1 ⟨rfl, t1⟩; have HT1 := Lib.hid ((t1.alloc (.cells #[.int .i64 f, .int .i64 t] 165)).alloc (.cells #[.int .i64 y, .int .i64 f] 165)); clear t1)
          refine ⟨(fun _ e => by cases e), ?_⟩
          gi_wp2
          go_roundw
          case rel => exact ⟨pre, t, rfl, by omega, by omega, HFr.out, HJ.out _ _ _ none HJs.out HT1.out.grown (fun r e => by cases e), HK.out.t (KeepT.of_touch (T := T) HT1.out (fun _ e => e.elim))⟩
          case measure => simp [intOf]; omega
    · have hye : y = 1125899906842624 := by omega
      subst hye
      rw [free_end cl 1125899906842624 (by omega), List.append_nil] at HFr
      gi_wp2
      go_end0
      exact ⟨⟨_, rfl⟩, .inl ⟨pre, HFr.out.symm, HJs.out⟩⟩
end Go.Proofs.Ytcblbjhhlnmkjaa
