/- A region that draws its order, in the round of a range over a function: walked by a plan. What calls leave as it lay. No program in sight. almanac.Free: what lies free of the closed spans, handed out one by one. almanac.Lost at a clock's weekly; calendar.Elapsed, Rest. calendar.Elapsed, Rest. -/
import Derived.Test.YtlcefchbfjfifaaGreatVPlan
import Derived.RangeFuncNested
import Derived.RangeFuncBound
import Derived.RangeFuncCalls
import Derived.RangeFuncLeaves
import Derived.OwnWalkIn
import Derived.TacticsInMore
import Derived.LoopNIn
import Derived.LoopIn
import Derived.Test.YtlcefchbfjfifaaGreatVCalJ
import Derived.Test.YtlcefchbfjfifaaGreatVCalW
section
namespace Go.Proofs.YtlcefchbfjfifaaGreat
open Go
set_option linter.unusedVariables false
section
variable {P : Program} {ops : Array Oper} {Q : Exit → Act → World → Prop} {md : Region.Mode} {n l : Nat}

theorem rows_in {row : String} {args : Array Value} {w : World} {R : Value → World → Prop} (h : Rows P row args w R) : RowsIn (Fence.wide.inRound l) n P row args w R :=
  fun c cs _ => let ⟨v, w', r, s⟩ := h c cs; ⟨v, w', r, by rw [fenced_inRound]; exact stepsIn_wide.2 s⟩
theorem upon_in {o : Oper} {a : Act} {K : Act → World → Prop} {r : Result Next} (h : o.upon P a K Q r) : o.uponIn (Fence.wide.inRound l) n P a K Q r := by
  cases r with
  | ok x w' =>
    cases x <;> first
      | exact h.elim
      | exact h
      | exact ⟨fun e => by simp [Fence.wide] at e, CallsIn.inRound l (callsIn_wide.2 h)⟩
      | exact ⟨fun e => by simp [Fence.wide] at e, rows_in h⟩
  | halt x w' => cases x <;> first | exact h | exact h.elim
/-- No operation lays a deferred call. -/
def noDefer (ops : Array Oper) : Bool := ops.all fun o => match o.op with | .defer _ => false | _ => true
theorem noDefer_spec (h : noDefer ops = true) {i : Nat} {o : Oper} (ho : ops[i]? = some o) : ∀ c, o.op ≠ .defer c := by
  intro c hc
  obtain ⟨hi, he⟩ := Array.getElem?_eq_some_iff.1 ho
  have := (Array.all_eq_true.1 h) i hi
  rw [he, hc] at this
  cases this
theorem wpOp_in (hL : ¬ LetsOut Q) (hd : noDefer ops = true) {i : Nat} {K : Act → World → Prop} {a : Act} {w : World} (h : wpOp P ops Q i K a w) : wpOpIn (Fence.wide.inRound l) n P ops Q i K a w := by
  unfold wpOp at h
  unfold wpOpIn
  cases ho : ops[i]? with
  | none => rw [ho] at h; exact h
  | some o =>
    rw [ho] at h
    simp only at h ⊢
    split
    · rename_i hw
      simp only [hw, if_true] at h
      refine ⟨fun _ _ => trivial, ?_⟩
      rw [show (Fence.wide.inRound l).round = some l from rfl, Oper.semAt_some l _ _ (noDefer_spec hd ho)]
      exact upon_in (h.resolve_right (fun e => hL e.2))
    · rename_i hw
      simp only [hw] at h
      exact ⟨fun _ _ => trivial, h⟩
theorem wpOp_mono' {i : Nat} {a : Act} {w : World} {K K' : Act → World → Prop} (h : ∀ a w, K a w → K' a w) (hh : wpOp P ops Q i K a w) : wpOp P ops Q i K' a w := wpOp_mono h hh
theorem wpAny_in (hL : ¬ LetsOut Q) (hd : noDefer ops = true) : ∀ (f : Nat) (listed : Array Bool) (a : Act) (w : World), wpAny P md ops Q f listed a w → wpAnyIn (Fence.wide.inRound l) n P md ops Q f listed a w
  | 0, _, _, _, h => h
  | f + 1, listed, a, w, h => ⟨h.1, fun i hi => wpOp_in hL hd (wpOp_mono (fun a' w' h' => wpAny_in hL hd f _ a' w' h') (h.2 i hi))⟩
/-- The beginning, in a round. -/
theorem wpIn_region_plan {id : Nat} {a : Act} {w : World} {L : List Oper} (plan : List Stp) (T : Nat → Prop) (hm : P.follows .mixedOrders = true) (hB : planB L.toArray plan = true) (hd : noDefer L.toArray = true) (hL : ¬ LetsOut Q)
    (hQ : ∀ c a d v w, Q (.panic c) (Act.put a d v) w → Q (.panic c) a w) (h : wpPlan P L.toArray Q T plan a w.drew) : (Code.region id L.toArray true).wpIn (Fence.wide.inRound l) n P Q a w := by
  simp only [planB, Bool.and_eq_true, beq_iff_eq] at hB
  obtain ⟨⟨hsel, hlen⟩, hB⟩ := hB
  refine wpIn_region_any hm (wpAny_in hL hd _ _ _ _ (wpMix_sound (T := T) (fl := flOf plan) (lt := ltOf plan) _ _ _ _ ?_))
  rw [← hlen]
  have := wpPlan_sound (md := .any) hQ hsel plan (Array.replicate L.toArray.size false) a w.drew hB h
  simpa [hlen] using this
end
theorem Touch.others {S : Nat → Prop} {W W' : World} (h : Touch S W W') (hS : ∀ k, S k → ∃ o, W.heap[k]? = some o ∧ o.isCells = true) : KeepsOthers W W' :=
  ⟨h.size, fun k o hk ho => by
    refine (h.block k (Array.getElem?_eq_some_iff.1 hk).1 (fun e => ?_)).trans hk
    obtain ⟨o', h1, h2⟩ := hS k e
    rw [hk] at h1
    injection h1 with h1
    subst h1
    rw [ho] at h2; cases h2⟩
theorem Touch.othersB {S : Nat → Prop} {W W' : World} (h : Touch S W W') (hS : ∀ k, S k → ∃ g t cs, k = g ∧ Blk W g t cs) : KeepsOthers W W' :=
  h.others (fun k e => by obtain ⟨g, t, cs, rfl, hb⟩ := hS k e; exact ⟨_, hb, rfl⟩)
theorem Touch.grown {W W' : World} (h : Touch (fun _ => False) W W') : W.grownBy W' none := ⟨h.os, h.tape, h.output, h.size, fun k hk _ => h.block k hk (fun e => e)⟩
/-- What a range over a function does beside the rounds, as a touch. -/
theorem Touch.of_row {W W' : World} {B : Nat} {row : Option Nat} (h : W.grownBy W' row) (hr : ∀ r, row = some r → B ≤ r) : Touch (fun k => B ≤ k) W W' :=
  ⟨h.os, h.tape, h.output, h.size, fun k hk hn => h.block k hk (fun e => hn (hr k e.symm))⟩
/-- Cells lie as they lay, but for the blocks in T. -/
def KeepT (T : Nat → Prop) (W W' : World) : Prop := W.heap.size ≤ W'.heap.size ∧ ∀ k o, W.heap[k]? = some o → o.isCells = true → ¬ T k → W'.heap[k]? = some o
theorem KeepT.refl (T : Nat → Prop) (W : World) : KeepT T W W := ⟨Nat.le_refl _, fun _ _ h _ _ => h⟩
theorem KeepT.t {T : Nat → Prop} {A B C : World} (h : KeepT T A B) (h' : KeepT T B C) : KeepT T A C := ⟨Nat.le_trans h.1 h'.1, fun k o hk hc hn => h'.2 k o (h.2 k o hk hc hn) hc hn⟩
theorem KeepT.b {T : Nat → Prop} {B : Nat} (W : World) (l : Nat) (o o' : Obj) (_ : B ≤ l) (h : W.heap[l]? = some o) (ho : o.isCells = false) (_ : o.isWalk = false) : KeepT T W (W.putObj l o') :=
  ⟨by simp, fun k q hk hc hn => (World.putObj_heap_other (fun e => by subst e; rw [hk] at h; injection h with h; subst h; rw [hc] at ho; cases ho)).trans hk⟩
theorem KeepT.of_touch {T S : Nat → Prop} {W W' : World} (h : Touch S W W') (hS : ∀ k, S k → T k) : KeepT T W W' :=
  ⟨h.size, fun k o hk hc hn => (h.block k (Array.getElem?_eq_some_iff.1 hk).1 (fun e => hn (hS k e))).trans hk⟩
theorem KeepT.cell {T : Nat → Prop} {W W' : World} (h : KeepT T W W') {g i : Nat} (hg : ¬ T g) {v : Value} (hc : W.cell? ⟨g, i, none⟩ = some v) : W'.cell? ⟨g, i, none⟩ = some v := by
  obtain ⟨o, ho, hcs⟩ := cells_of_cell hc
  exact (World.cell?_of_block (w := W) (a := ⟨g, i, none⟩) ((h.2 g o ho hcs hg).trans ho.symm)).trans hc
theorem KeepT.blk {T : Nat → Prop} {W W' : World} (h : KeepT T W W') {g : Nat} {t : TypeId} {cs : Array Value} (hb : Blk W g t cs) (hg : ¬ T g) : Blk W' g t cs := h.2 g _ hb rfl hg
end Go.Proofs.YtlcefchbfjfifaaGreat
end

section
namespace Go.Proofs.YtlcefchbfjfifaaGreat
open Go.RowKit Cal
attribute [local go_sem] Oper.semAt_some
set_option maxHeartbeats 4000000
set_option maxRecDepth 100000
set_option linter.unusedVariables false
attribute [local irreducible] wpPlan

theorem free_any (a : Nat) (x y : Int) (w : World) :
    Calls Tryz.prog 74 #[.pointer (some ⟨a, 0, none⟩), .int .i64 x, .int .i64 y] w fun e w' => e = .returned (.func (.func 104) #[] #[.pointer (some ⟨w.heap.size + 1, 0, none⟩), .pointer (some ⟨w.heap.size + 2, 0, none⟩), .pointer (some ⟨w.heap.size, 0, none⟩)]) ∧
      w' = ((w.alloc (.cells #[.pointer (some ⟨a, 0, none⟩)] 134)).alloc (.cells #[.int .i64 x] 2)).alloc (.cells #[.int .i64 y] 2) := by
  have hmf : ∀ (fn : Fn) (first cap : Array Value) (w : World), (Instr.makeFunc fn first cap).run Tryz.prog w = .ok (.func fn first cap) w := fun _ _ _ _ => rfl
  go_enter Tryz.func74, Tryz.ntmps74
  go_wp2
  go_ret
  exact ⟨rfl, rfl⟩
/-- A span that is handed out. -/
abbrev FSp := { s : Sp // 0 ≤ s.f ∧ s.f < s.t ∧ s.t ≤ 1125899906842624 }
def encSp (s : FSp) : Array Value := #[.agg #[.int .i64 s.1.f, .int .i64 s.1.t]]
theorem AlAt.keep {w w' : World} {g : Nat} {cl : List Sp} {B : Option Addr} {m : Nat} {M T : Nat → Prop} (h : AlAt w g cl B m M) (hg : ¬ T g) (hM : ∀ k, M k → ¬ T k) (hk : KeepT T w w') : AlAt w' g cl B m M := by
  refine ⟨hk.blk h.blk hg, h.row.1, h.row.2.1, fun hn => ?_⟩
  obtain ⟨g', off, e, hl, hm, hc⟩ := h.row.2.2 hn
  exact ⟨g', off, e, Nat.lt_of_lt_of_le hl hk.1, hm, fun j u hj => hk.cell (hM _ hm) (hc j u hj)⟩
theorem freeIter (n : Nat) (hn1 : 1 ≤ n) (a ba bf bt : Nat) (cl : List Sp) (B : Option Addr) (m : Nat) (M T : Nat → Prop) (st : Int) (w : World) (h : AlAt w a cl B m M) (hM : ∀ k, M k → ¬ T k) (hTa : ¬ T a) (hTb : ¬ T ba) (hT : ∀ k, T k → k < w.heap.size)
    (hcf : w.cell? ⟨bf, 0, none⟩ = some (.int .i64 st)) (hct : w.cell? ⟨bt, 0, none⟩ = some (.int .i64 1125899906842624)) (hca : w.cell? ⟨ba, 0, none⟩ = some (.pointer (some ⟨a, 0, none⟩))) (hrow : rowE cl = 0) (h0 : 0 ≤ st) (h1 : st ≤ 1125899906842624) :
    SeqStopsK Fence.wide n Tryz.prog 104 #[.pointer (some ⟨bf, 0, none⟩), .pointer (some ⟨bt, 0, none⟩), .pointer (some ⟨ba, 0, none⟩)] encSp (KeepT T) (fun xs : List FSp => xs.map (·.1) = freeL cl st) (fun pre => pre.map (·.1) <+: freeL cl st) (freeL cl st).length w := fun l J Jx W hW hJ hJx hY hJ0 => by
  have htW : Touch (fun _ => False) w W := Touch.of_below hW
  have hb := fun {g : Nat} {v : Value} (hc : w.cell? ⟨g, 0, none⟩ = some v) => (show W.cell? ⟨g, 0, none⟩ = some v from (htW.cell (p := ⟨g, 0, none⟩) (World.block_lt_of_cell? w _ hc) (fun e => e)).trans hc)
  have HA := Lib.hid (h.touch htW (fun e => e) (fun _ _ e => e))
  have HM := Lib.hid hM
  have HTs := Lib.hid (fun k hk => Nat.lt_of_lt_of_le (hT k hk) hW.size)
  have c1 := hb hcf
  have c2 := hb hct
  have C3 := Lib.hid (hb hca)
  clear hb
  have HR := Lib.hid hrow
  have HRow := Lib.hid (rowE_row hrow).1
  have hlen := (rowE_row hrow).2
  have HJ := Lib.hid hJ
  have HY := Lib.hid hY
  have HJ0 := Lib.hid hJ0
  have hmx : max st 0 = st := Int.max_eq_left h0
  clear h hrow hM hcf hct hca hW hJ hJx hY hJ0 hT htW
  refine callsIn_of_wp Tryz.func104 rfl trivial ?_ rfl
  simp only [Tryz.ntmps104, List.size_toArray, List.length_cons, List.length_nil, Nat.reduceAdd, Nat.reduceSub, Array.replicate_succ, Array.replicate_zero, List.push_toArray, List.append_toArray, List.nil_append, List.cons_append]
  gi_wp2_with fail
  refine wpIn_wide.2 ?_
  refine wp_region_plan [(0, 0), (0, 1), (0, 2), (0, 3), (0, 4), (0, 5)] (fun _ => False) (by kernel_rfl) (by kernel_rfl) (fun c a d v w h => by cases d <;> exact h) ?_
  iterate 6
    refine plan_s1 rfl (by rfl) (fun Kc hKc => ?_)
    go_simp
    first
      | (refine hKc _ ?_)
    clear hKc Kc
  refine plan_done ?_
  gi_wp2_with fail
  clear hmx
  gi_loopw [5] (fun x wr => ∃ (pre : List FSp) (y : Int), x = .int .i64 y ∧ 0 ≤ y ∧ y ≤ 1125899906842624 ∧ freeL cl st = pre.map (·.1) ++ freeL cl y ∧ J pre wr ∧ KeepT T W wr) (fun x _ => (1125899906842624 - intOf x).toNat)
  case atStart => exact ⟨[], st, rfl, h0, h1, rfl, HJ.out _ _ _ none HJ0.out ((Touch.refl _ W).drew).grown (fun r e => by cases e), KeepT.of_touch ((Touch.refl (fun _ => False) W).drew) (fun _ e => e.elim)⟩
  case round =>
    clear HJ0
    obtain ⟨pre, y, rfl, hy0, hy1, hfr, hJs, hK⟩ := hrel
    have HFr := Lib.hid hfr
    have HJs := Lib.hid hJs
    have HK := Lib.hid hK
    have c3 := hK.cell (i := 0) hTb C3.out
    clear hfr hJs hK
    by_cases hyH : y < 1125899906842624
    · cases hn : nextL cl y with
      | none =>
        have HN := Lib.hid (next_none a cl B m M y wr (HA.out.keep hTa HM.out HK.out) (by omega) hn)
        have hf1 := free_none cl y hyH hn
        rw [hf1] at HFr
        clear hn hf1
        have HY2 := Lib.hid (fun W1 (hj : J pre W1) => HY.out pre ⟨⟨y, 1125899906842624⟩, hy0, hyH, Int.le_refl _⟩ W1 hj (by rw [HFr.out]; simp))
        gi_wp2_with (refine ⟨trivial, ?_⟩; gi_at_call 105; refine (callsIn_wide.2 HN.out).mono ?_; rintro e w1 ⟨rfl, t1⟩; have HT1 := Lib.hid (t1.alloc (.cells #[.int .i64 0, .int .i64 0] 92)); obtain ⟨fn, tmps, assign, body, hy, hR⟩ := HY2.out _ (HJ.out _ _ _ none HJs.out HT1.out.grown (fun r e => by cases e)); dsimp only [encSp] at hy; clear t1)
        refine hR.mono ?_
        rintro e W3 (⟨rfl, hJ3, hk3⟩ | ⟨rfl, hJx3⟩)
        · gi_wp2
          refine bodyPost_ret (v := .tuple #[]) (results_none (by rfl) _ _ _) rfl ⟨⟨_, rfl⟩, .inl ⟨_, by rw [HFr.out, List.map_append]; rfl, hJ3⟩⟩
        · gi_wp2
          refine bodyPost_ret (v := .tuple #[]) (results_none (by rfl) _ _ _) rfl ⟨⟨_, rfl⟩, .inr ⟨_, by rw [HFr.out, List.map_append]; exact List.prefix_refl _, hJx3⟩⟩
      | some s =>
        have HN := Lib.hid (next_some a cl B m M y s wr (HA.out.keep hTa HM.out HK.out) (by omega) hn)
        have hf1 := free_some cl 0 y s HRow.out hyH hn
        have hm := next_mem cl y s hn
        have hs := Row.mem HRow.out s hm.1
        have hys := hm.2
        rw [hf1] at HFr
        clear hn hf1 hm
        obtain ⟨f, t⟩ := s
        simp only at HN HFr hs hys
        have hmin : min f 1125899906842624 = f := Int.min_eq_left (by omega)
        by_cases hyf : y < f
        · rw [if_pos hyf] at HFr
          have HY2 := Lib.hid (fun W1 (hj : J pre W1) => HY.out pre ⟨⟨y, f⟩, hy0, hyf, (show f ≤ 1125899906842624 by omega)⟩ W1 hj (by rw [HFr.out]; simp <;> omega))
          gi_wp2_with (refine ⟨trivial, ?_⟩; gi_at_call 105; refine (callsIn_wide.2 HN.out).mono ?_; rintro e w1 ⟨rfl, t1⟩; have HT1 := Lib.hid ((t1.alloc (.cells #[.int .i64 f, .int .i64 t] 92)).alloc (.cells #[.int .i64 y, .int .i64 f] 92)); have HB1 := Lib.hid ((Blk.new w1 92 #[.int .i64 f, .int .i64 t]).alloc (.cells #[.int .i64 y, .int .i64 f] 92)); have hs1 := t1.size; obtain ⟨fn, tmps, assign, body, hy, hR⟩ := HY2.out _ (HJ.out _ _ _ none HJs.out HT1.out.grown (fun r e => by cases e)); dsimp only [encSp] at hy; clear t1)
          have hkW := HK.out.t (KeepT.of_touch (T := T) HT1.out (fun _ e => e.elim))
          have hW1 : W.heap.size ≤ w1.heap.size := by have := HK.out.1; omega
          have hnT : ¬ T w1.heap.size := fun e => by have := HTs.out _ e; omega
          refine hR.mono ?_
          rintro e W3 (⟨rfl, hJ3, hk3⟩ | ⟨rfl, hJx3⟩)
          · have q1 : W3.cell? ⟨w1.heap.size, 1, none⟩ = some (.int .i64 t) := hk3.cell (i := 1) hnT ((HB1.out.cell 1).trans (by simp))
            have HJ3 := Lib.hid hJ3
            have HK3 := Lib.hid (hkW.t hk3)
            clear hJ3 hk3 hkW
            gi_wp2
            go_roundw
            case rel => exact ⟨pre ++ [⟨⟨y, f⟩, hy0, hyf, (show f ≤ 1125899906842624 by omega)⟩], t, rfl, by omega, by omega, by rw [HFr.out]; simp, HJ3.out, HK3.out⟩
            case measure => simp [intOf]; omega
          · gi_wp2
            refine bodyPost_ret (v := .tuple #[]) (results_none (by rfl) _ _ _) rfl ⟨⟨_, rfl⟩, .inr ⟨_, by rw [HFr.out, ← List.append_assoc, List.map_append]; exact List.prefix_append _ _, hJx3⟩⟩
        · rw [if_neg hyf, List.nil_append] at HFr
          gi_wp2_with (refine ⟨trivial, ?_⟩; gi_at_call 105; refine (callsIn_wide.2 HN.out).mono ?_; rintro e w1 ⟨rfl, t1⟩; have HT1 := Lib.hid ((t1.alloc (.cells #[.int .i64 f, .int .i64 t] 92)).alloc (.cells #[.int .i64 y, .int .i64 f] 92)); clear t1)
          refine ⟨(fun _ e => by cases e), ?_⟩
          gi_wp2
          go_roundw
          case rel => exact ⟨pre, t, rfl, by omega, by omega, HFr.out, HJ.out _ _ _ none HJs.out HT1.out.grown (fun r e => by cases e), HK.out.t (KeepT.of_touch (T := T) HT1.out (fun _ e => e.elim))⟩
          case measure => simp [intOf]; omega
    · have hye : y = 1125899906842624 := by omega
      subst hye
      rw [free_end cl 1125899906842624 (by omega), List.append_nil] at HFr
      gi_wp2
      go_end0
      exact ⟨⟨_, rfl⟩, .inl ⟨pre, HFr.out.symm, HJs.out⟩⟩
end Go.Proofs.YtlcefchbfjfifaaGreat
end

section
namespace Go.Proofs.YtlcefchbfjfifaaGreat
open Go.RowKit Cal
set_option maxHeartbeats 4000000
set_option maxRecDepth 100000
set_option linter.unusedVariables false
attribute [local irreducible] wpPlan

end Go.Proofs.YtlcefchbfjfifaaGreat
end

section
namespace Go.Proofs.YtlcefchbfjfifaaGreat
open Go.RowKit Cal
set_option maxHeartbeats 4000000
set_option maxRecDepth 100000
set_option linter.unusedVariables false
attribute [local irreducible] wpPlan

theorem CkAt.drew {w : World} {k a p b : Nat} {c : Ca} {G : Nat → Prop} (h : CkAt w k a p b c G) : CkAt w.drew k a p b c G := h.none ((Touch.refl _ _).drew)
def Ck2 (k a p b : Nat) (c : Ca) (G : Nat → Prop) (r : Int × Int) (w : World) (e : Ending) (w' : World) : Prop := CkV k a p b c G (.tuple #[.int .i64 r.1, .int .i64 r.2]) w e w'
theorem Ck2.same {k a p b : Nat} {c : Ca} {G : Nat → Prop} {R r : Int × Int} {x y : Int} {w : World} (h : CkAt w k a p b c G) (h1 : Hid (R = r)) (h2 : x = r.1) (h3 : y = r.2) : Ck2 k a p b c G R w (.returned (.tuple #[.int .i64 x, .int .i64 y])) w := by
  rw [h1.out, Ck2, h2, h3]
  exact ⟨rfl, h.more (Touch.refl (fun _ => False) _) (fun e => e) (fun _ _ e => e), Touch.refl _ _⟩
theorem Ck2.of {k a p b : Nat} {c : Ca} {G : Nat → Prop} {R r : Int × Int} {x y : Int} {w w' : World} (h1 : Hid (R = r)) (h2 : x = r.1) (h3 : y = r.2) (h : CkAt w' k a p b c (More G w w')) (ht : Touch (fun q => q = b) w w') : Ck2 k a p b c G R w (.returned (.tuple #[.int .i64 x, .int .i64 y])) w' := by
  rw [h1.out, Ck2, h2, h3]
  exact ⟨rfl, h, ht⟩
end Go.Proofs.YtlcefchbfjfifaaGreat
end
