/- maps.Clone at a shelf's maps; contract.Shelf.Clone. The walk of ContractNobody. -/
import Derived.Test.YtlcefchbfjfifaaGreatVShP
import Derived.MapKept
import Derived.Laws.Externs
section
namespace Go.Proofs.YtlcefchbfjfifaaGreat
open Go.RowKit Cal Go.Maps
set_option maxHeartbeats 4000000
set_option maxRecDepth 100000
set_option linter.unusedVariables false
attribute [local irreducible] wpPlan

section
variable {P : Program} {k : TypeId} {w : World} {b n : Nat} {f : Lit → Option Value}
theorem MapV.cloned (h : MapV P k w b n f) : ∃ es clock, w.heap[b]? = some (.map es clock) ∧ MapV P k (w.alloc (.map es clock)) w.heap.size n f := by
  obtain ⟨D, ⟨es, clock, hb, F, hs, hD⟩, hsays⟩ := h
  exact ⟨es, clock, hb, D, ⟨es, clock, (MapKept.heap_alloc w _).1, F, hs, hD⟩, hsays⟩
theorem eqMapNil (w : World) (t k e : TypeId) (p : Option Nat) (h : P.underlying t = some (.map k e)) :
    (binOp .eql t (.map p) (.map none)).run P w = .ok (.bool p.isNone) w := by
  have h1 : ∀ d, (Op.equalIn (d + 1) t (.map p) (.map none)).run P w = .ok p.isNone w := fun d => by cases p <;> simp [Op.equalIn, run_underlying h]
  simp only [binOp]
  simp [show Op.equal t (.map p) (.map none) = Op.equalIn (9999 + 1) t (.map p) (.map none) from rfl, h1 9999]
theorem assertMap (w : World) (t xT k e : TypeId) (v : Value) (h : P.underlying t = some (.map k e)) : (Instr.typeAssert (.iface t v) xT t false).run P w = .ok v w := by
  simp [Instr.typeAssert, run_underlying h, go_sem, Result.andThen]
theorem cloneExt (w : World) {r : Nat} {es : Array MapEntry} {clock : Nat} (t : TypeId) (hb : w.heap[r]? = some (.map es clock)) :
    (Extern.MapsClone.clone #[.iface t (.map (some r))]).run P w = .ok (.iface t (.map (some w.heap.size))) (w.alloc (.map es clock)) := by
  have e : Extern.MapsClone.clone #[.iface t (.map (some r))] = (getObj r >>= fun o => match o with
      | .map entries clock => (newObj (.map entries clock) >>= fun n => pure (.iface t (.map (some n))))
      | _ => stuck "maps.clone: a map expected") := rfl
  rw [e]
  simp [MapKept.run_getObj_map hb, Result.andThen, go_sem]
end
theorem mcloneA_any (b : Nat) (es : Array MapEntry) (clock : Nat) (w : World) (hb : w.heap[b]? = some (.map es clock)) :
    Calls Tryz.prog 58 #[.map (some b)] w fun e w' => e = .returned (.map (some w.heap.size)) ∧ w' = w.alloc (.map es clock) := by
  have hq := fun w => eqMapNil (P := Tryz.prog) w 73 _ _ (some b) Tryz.underlying73
  go_enter Tryz.func58, Tryz.ntmps58
  go_wp2
  rw [run_callFunc_extern Tryz.func86 (by kernel_rfl) (by kernel_rfl) (by kernel_rfl) (e := Extern.MapsClone.clone) (by kernel_rfl), cloneExt w 73 hb]
  simp only [Result.andThen]
  rw [Oper.upon_value]
  go_wp2
  rw [assertMap _ 73 _ _ _ _ Tryz.underlying73]
  simp only [Result.andThen]
  rw [Oper.upon_value]
  go_wp2
  go_ret
  exact ⟨rfl, rfl⟩
theorem mcloneB_any (b : Nat) (es : Array MapEntry) (clock : Nat) (w : World) (hb : w.heap[b]? = some (.map es clock)) :
    Calls Tryz.prog 59 #[.map (some b)] w fun e w' => e = .returned (.map (some w.heap.size)) ∧ w' = w.alloc (.map es clock) := by
  have hq := fun w => eqMapNil (P := Tryz.prog) w 74 _ _ (some b) Tryz.underlying74
  go_enter Tryz.func59, Tryz.ntmps59
  go_wp2
  rw [run_callFunc_extern Tryz.func86 (by kernel_rfl) (by kernel_rfl) (by kernel_rfl) (e := Extern.MapsClone.clone) (by kernel_rfl), cloneExt w 74 hb]
  simp only [Result.andThen]
  rw [Oper.upon_value]
  go_wp2
  rw [assertMap _ 74 _ _ _ _ Tryz.underlying74]
  simp only [Result.andThen]
  rw [Oper.upon_value]
  go_wp2
  go_ret
  exact ⟨rfl, rfl⟩
theorem cloneA_any {w : World} {b1 : Nat} {S : Shl} {x : Int → Nat} {R Y : Nat → Prop} (h : CalM w b1 S x R Y) :
    Calls Tryz.prog 58 #[.map (some b1)] w fun e w' => e = .returned (.map (some w.heap.size)) ∧ CalM w' w.heap.size S x R Y ∧ Touch (fun _ => False) w w' := by
  obtain ⟨f, hm, hs⟩ := h
  obtain ⟨es, clock, hb, hm'⟩ := hm.cloned
  refine (mcloneA_any b1 es clock w hb).mono ?_
  rintro e w' ⟨rfl, rfl⟩
  have t := (Touch.refl (fun _ => False) w).alloc (.map es clock)
  refine ⟨rfl, ⟨f, hm', fun i hi => ⟨(hs i hi).1, fun c hc => ?_⟩⟩, t⟩
  obtain ⟨A, B, k, m, h1, h2, h3⟩ := (hs i hi).2 c hc
  exact ⟨A, B, k, m, h1, h2.touch t (fun _ _ e => e), h3.touch t (fun e => e) (fun _ _ e => e) (fun _ _ e => e)⟩
theorem cloneB_any {w : World} {b2 : Nat} {S : Shl} {R : Nat → Prop} (h : ConM w b2 S R) :
    Calls Tryz.prog 59 #[.map (some b2)] w fun e w' => e = .returned (.map (some w.heap.size)) ∧ ConM w' w.heap.size S R ∧ Touch (fun _ => False) w w' := by
  obtain ⟨f, hm, hs⟩ := h
  obtain ⟨es, clock, hb, hm'⟩ := hm.cloned
  refine (mcloneB_any b2 es clock w hb).mono ?_
  rintro e w' ⟨rfl, rfl⟩
  have t := (Touch.refl (fun _ => False) w).alloc (.map es clock)
  refine ⟨rfl, ⟨f, hm', fun i hi => ⟨(hs i hi).1, fun c hc => ?_⟩⟩, t⟩
  obtain ⟨A, n, h1, h2⟩ := (hs i hi).2 c hc
  exact ⟨A, n, h1, h2.touch t (fun _ _ e => e)⟩
/-- What Clone leaves: another shelf over the same rows and clocks. -/
def ClnP (S : Shl) (x : Int → Nat) (R X Y : Nat → Prop) (w : World) (e : Ending) (w' : World) : Prop :=
  ∃ g b1 b2, e = .returned (.pointer (some ⟨g, 0, none⟩)) ∧ ShAt w' g b1 b2 S x R X Y ∧ w.heap.size ≤ g ∧ w.heap.size ≤ b1 ∧ w.heap.size ≤ b2 ∧ Touch (fun _ => False) w w'
theorem hclone_any {w : World} {g b1 b2 : Nat} {S : Shl} {x : Int → Nat} {R X Y : Nat → Prop} (h : ShAt w g b1 b2 S x R X Y) :
    Calls Tryz.prog 28 #[.pointer (some ⟨g, 0, none⟩)] w (ClnP S x R X Y w) := by
  have HN := Lib.hid (hnone_any h)
  obtain ⟨W2, hW2⟩ : ∃ W2, W2 = w.drew := ⟨_, rfl⟩
  have HT2 := Lib.hid (show Touch (fun _ => False) w W2 from hW2 ▸ (Touch.refl _ w).drew)
  have HH := Lib.hid (h.far HT2.out)
  have HA := Lib.hid (fun w1 (t : Touch (fun _ => False) W2 w1) => cloneA_any (HH.out.far t).m1)
  have HB := Lib.hid (fun w1 (t : Touch (fun _ => False) W2 w1) => cloneB_any (HH.out.far t).m2)
  have hgl := h.gl
  unfold ClnP
  clear h
  go_enter Tryz.func28, Tryz.ntmps28
  go_wp2_with (go_at_call 52; go_must (refine HN.out.mono ?_); rintro e w1 ⟨rfl, rfl⟩)
  refine wp_region_plan [(1, 0), (1, 1), (1, 2), (1, 3), (1, 5), (1, 6), (1, 7), (1, 8), (2, 4), (2, 9), (0, 10), (2, 11), (0, 12)] (fun _ => False) (by kernel_rfl) (by kernel_rfl) (fun c a d v w h => by cases d <;> exact h) ?_
  rw [← hW2]
  clear hW2
  iterate 3
    apply plan_h
    · rfl
    · rfl
    · intro wh hT
      go_simp
      try rfl
    go_frame
  iterate 1
    apply plan_h
    · rfl
    · rfl
    · intro wh hT
      have hf0 := show wh.cell? ⟨g, 0, none⟩ = some (.map (some b1)) from by have := (hT.blk HH.out.blk (fun e => e)).cell 0; simpa using this
      go_simp
      try rfl
    go_frame
  iterate 3
    apply plan_h
    · rfl
    · rfl
    · intro wh hT
      go_simp
      try rfl
    go_frame
  iterate 1
    apply plan_h
    · rfl
    · rfl
    · intro wh hT
      have hf0 := show wh.cell? ⟨g, 1, none⟩ = some (.map (some b2)) from by have := (hT.blk HH.out.blk (fun e => e)).cell 1; simpa using this
      go_simp
      try rfl
    go_frame
  refine plan_a1 rfl (by rfl) (fun Kc hKc => ?_)
  go_simp
  refine (HA.out _ (Touch.refl _ _)).mono ?_
  rintro e w3 ⟨rfl, hm3, t3⟩
  refine hKc _ _ ⟨t3, ?_⟩
  clear hKc Kc
  have HM3 := Lib.hid hm3
  have HT3 := Lib.hid t3
  clear hm3 t3
  refine plan_a1 rfl (by rfl) (fun Kc hKc => ?_)
  go_simp
  refine (HB.out _ (by exact HT3.out)).mono ?_
  rintro e w4 ⟨rfl, hm4, t4⟩
  refine hKc _ _ ⟨t4, ?_⟩
  clear hKc Kc
  have HM4 := Lib.hid hm4
  have HT4 := Lib.hid t4
  clear hm4 t4
  iterate 1
    refine plan_s1 rfl (by rfl) (fun Kc hKc => ?_)
    go_simp
    first
      | (refine hKc _ ?_)
    clear hKc Kc
  refine plan_a1 rfl (by rfl) (fun Kc hKc => ?_)
  go_simp
  refine hKc _ _ ⟨(Touch.refl _ _).alloc _, ?_⟩
  clear hKc Kc
  iterate 1
    refine plan_s1 rfl (by rfl) (fun Kc hKc => ?_)
    go_simp
    first
      | (refine hKc _ ?_)
    clear hKc Kc
  refine plan_done ?_
  go_wp2_with fail
  go_ret
  have h3 := HM3.out.lt
  have h4 := HM4.out.lt
  have z2 := HT2.out.size
  have z4 := HT4.out.size
  have z3 := HT3.out.size
  have ta := (Touch.refl (fun _ => False) w4).alloc (.cells #[.map (some W2.heap.size), .map (some w3.heap.size)] 76)
  have H := HH.out.far ((HT3.out.trans HT4.out (fun _ _ e => e)).trans ta (fun _ _ e => e))
  refine ⟨w4.heap.size, W2.heap.size, w3.heap.size, rfl, ⟨Blk.new w4 _ _, (HM3.out.touch HT4.out (fun e => e) (fun _ _ e => e) (fun _ _ e => e) (fun _ _ _ e => e)).touch ta (fun e => e) (fun _ _ e => e) (fun _ _ e => e) (fun _ _ _ e => e), HM4.out.touch ta (fun e => e) (fun _ _ e => e), H.ok, H.xX, H.inj, H.lt, H.dXR, H.dYR, H.dXY, fun e => by have := HH.out.lt _ e; omega, fun e => by have := HH.out.lt _ e; omega, fun e => by have := HH.out.lt _ e; omega, by omega, by omega, by omega⟩, by omega, by omega, by omega, ((HT2.out.trans HT3.out (fun _ _ e => e)).trans HT4.out (fun _ _ e => e)).trans ta (fun _ _ e => e)⟩
end Go.Proofs.YtlcefchbfjfifaaGreat
end

section
namespace Go.Proofs.YtlcefchbfjfifaaGreat
open Go.RowKit Cal Go.Maps
set_option maxHeartbeats 4000000
set_option maxRecDepth 100000
set_option linter.unusedVariables false
attribute [local irreducible] wpPlan

theorem foldSO (o : SOpV) : Array.foldl (fun cs x => cs.setIfInBounds x.snd x.fst) #[.bool false, .int .i64 0, .int .i64 0, .slice none 0 0, .slice none 0 0, .int .i64 0, .slice none 0 0, .int .i64 0, .int .i64 0] o.arr.zipIdx 0 9 = o.arr := by
  simp [SOpV.arr]
theorem oneSO (w : World) (o : SOpV) : RdZ (w.alloc (.cells o.arr 53)) (fun _ => True) 9 (some ⟨w.heap.size, 0, none⟩) 1 ([o].flatMap SOpV.cells) := by
  have hb := Blk.new w 53 o.arr
  refine ⟨by simp [o.len], fun _ => ⟨w.heap.size, 0, rfl, hb.lt, trivial, fun j u hj => ?_⟩⟩
  rw [Nat.zero_add]
  refine (hb.cell j).trans ?_
  simpa [SOpV.cells] using hj
theorem walk_ContractNobody {w : World} (o : SOpV) (oo : o.ok w) :
    Calls Tryz.prog 5 #[.agg o.cells.toArray] w fun e w' => e = .returned (.bool true) ∧ Below w.heap.size w w' := by
  rw [show o.cells.toArray = o.arr from by simp [SOpV.cells]]
  have HFo := Lib.hid (foldSO o)
  have HLo := Lib.hid (fun (w1 : World) => light14_any (fun _ => True) _ 1 [o] _ (oneSO w1 o) (by simp))
  have HEc := Lib.hid o.ex_c
  have HEd := Lib.hid o.ex_d
  have HOn := Lib.hid o.size
  have HO1 := Lib.hid o.one
  have HCn := Lib.hid (show (caA o.c o.A o.B o.k o.m).size = 3 from rfl)
  have HDn := Lib.hid (show (conA o.d o.D o.q).size = 4 from rfl)
  have HK1 := Lib.hid (show o.arr[1]? = some (.int .i64 o.n) from rfl)
  obtain ⟨OC, hOC⟩ : ∃ OC, OC = o.arr := ⟨_, rfl⟩
  rw [← hOC] at HFo HLo HEc HEd HOn HO1 HK1 ⊢
  have hcn := HOn.out
  obtain ⟨W, hW⟩ : ∃ W, W = w.alloc (.cells OC 53) := ⟨_, rfl⟩
  have HT0 := Lib.hid (show Touch (fun _ => False) w W from hW ▸ (Touch.refl _ w).alloc _)
  have HB0 := Lib.hid (show Blk W w.heap.size 53 OC from hW ▸ Blk.new w _ _)
  have HBl := Lib.hid (Blk.new w 53 OC)
  have HW := Lib.hid hW
  generalize light14B [o] = lb at *
  clear hOC hW oo
  go_enter Tryz.func5, Tryz.ntmps5
  go_wp2_with (first
    | ((with_reducible apply HBl.out.ld rowSO HOn.out); exact rfl; exact rfl; exact rfl))
  rw [HFo.out, ← HW.out]
  have hz : W.heap.size = w.heap.size + 1 := by rw [HW.out]; simp
  have hL := HLo.out W
  rw [hz] at hL
  refine hL.mono ?_
  rintro e w1 ⟨rfl, t1⟩
  have HT1 := Lib.hid ((HT0.out.alloc _).trans t1 (fun _ _ e => e))
  have HB1 := Lib.hid (((Touch.refl (fun _ => False) W).alloc _ |>.trans t1 (fun _ _ e => e)).blk HB0.out (fun e => e))
  clear hL t1 HLo
  cases lb
  · go_wp2_with (go_at_call 8; go_must (refine (lives14_any _).mono ?_); rintro e w2 ⟨rfl, t2⟩; have HT := Lib.hid (HT1.out.trans t2 (fun _ _ e => e)); clear t2)
    go_ret
    exact ⟨rfl, HT.out.below⟩
  have HB1a := Lib.hid (HB1.out.alloc (.cells #[.map none, .map none] 76))
  have HN1 := Lib.hid (show (w1.alloc (.cells #[.map none, .map none] 76)).cell? ⟨w1.heap.size, 0, none⟩ = some (.map none) ∧ w1.heap.size < (w1.alloc (.cells #[.map none, .map none] 76)).heap.size from ⟨(Blk.new w1 76 #[.map none, .map none]).cell 0, (Blk.new w1 76 #[.map none, .map none]).lt⟩)
  have HT1a := Lib.hid (HT1.out.alloc (.cells #[.map none, .map none] 76))
  go_wp2_with (first
    | (go_at_call 28; go_must (refine (ncloneS _).mono ?_); rintro e w2 ⟨rfl, n2, t2⟩
       have HN2 := Lib.hid n2
       have HN1 := Lib.hid (show NoSh w2 (.pointer (some ⟨w1.heap.size, 0, none⟩)) from .inr ⟨_, rfl, (t2.cell (p := ⟨w1.heap.size, 0, none⟩) HN1.out.2 (fun e => e)).trans HN1.out.1, Nat.lt_of_lt_of_le HN1.out.2 t2.size⟩)
       have HT2 := Lib.hid (HT1a.out.trans t2 (fun _ _ e => e))
       have HB2 := Lib.hid (t2.blk HB1a.out (fun e => e))
       clear n2 t2))
  rw [show (w1.alloc (.cells #[.map none, .map none] 76)).heap.size = w1.heap.size + 1 by simp] at HN2
  obtain ⟨ps, hps⟩ : ∃ ps : List (Option Addr), ps = [none, some ⟨w1.heap.size, 0, none⟩, some ⟨w1.heap.size + 1, 0, none⟩] := ⟨_, rfl⟩
  have hpl : ps.length = 3 := by rw [hps]; rfl
  have HPs := Lib.hid (show ∀ p ∈ ps, NoSh w2 (.pointer p) from fun p hp => by
    rw [hps] at hp
    simp only [List.mem_cons, List.not_mem_nil, or_false] at hp
    rcases hp with rfl | rfl | rfl
    · exact .inl rfl
    · exact HN1.out
    · exact HN2.out)
  have HBs := Lib.hid (show Blk (w2.alloc (.cells #[.pointer none, .pointer (some ⟨w1.heap.size, 0, none⟩), .pointer (some ⟨w1.heap.size + 1, 0, none⟩)] 55)) w2.heap.size 55 (ps.map Value.pointer).toArray from by rw [hps]; exact Blk.new w2 _ _)
  have HA2 := Lib.hid ((Touch.refl (fun _ => False) w2).alloc (.cells #[.pointer none, .pointer (some ⟨w1.heap.size, 0, none⟩), .pointer (some ⟨w1.heap.size + 1, 0, none⟩)] 55))
  clear hps HN2 HN1
  go_loopw [26] (fun i wq => ∃ j : Nat, j ≤ 3 ∧ i = .int .i64 j ∧ Touch (fun _ => False) w2 wq ∧ Blk wq w2.heap.size 55 (ps.map Value.pointer).toArray) (fun i _ => 3 - (intOf i).toNat)
  case atStart => exact ⟨0, by omega, rfl, HA2.out, HBs.out⟩
  case round =>
    clear HA2 HBs
    obtain ⟨j, hj, rfl, hT, hB⟩ := hrel
    have HT := Lib.hid hT
    have HB := Lib.hid hB
    clear hT hB
    by_cases hj2 : j < 3
    · obtain ⟨p, hp⟩ : ∃ p, ps[j]? = some p := ⟨_, List.getElem?_eq_getElem (by omega)⟩
      have cj := HB.out.cell j
      rw [show ((ps.map Value.pointer).toArray)[j]? = some (.pointer p) by simp [hp]] at cj
      have HNp := Lib.hid ((HPs.out p (List.mem_of_getElem? hp)).far HT.out)
      have HOq := Lib.hid (HT.out.blk HB2.out (fun e => e))
      have q1 := HOq.out.cell 1
      rw [HK1.out] at q1
      have hj2' : (j : Int) < 3 := by omega
      generalize caA o.c o.A o.B o.k o.m = X3 at *
      generalize conA o.d o.D o.q = X4 at *
      clear hp
      go_wp2_with (first
        | (go_at_call 27; go_must (refine (ntermsS HNp.out _).mono ?_); rintro e u1 ⟨rfl, t1⟩
           have HTa := Lib.hid (t1.alloc (.cells #[.int .i64 0, .slice none 0 0, .int .i64 0, .int .i64 0] 24))
           have HOa := Lib.hid (HTa.out.blk HOq.out (fun e => e))
           have HNa := Lib.hid (HNp.out.far HTa.out)
           have q2 := HOa.out.cell 1
           rw [HK1.out] at q2
           clear t1)
        | (go_at_call 31; go_must (refine (nplainS HNa.out _).mono ?_); rintro e u2 ⟨rfl, t1⟩
           have HTb := Lib.hid (HTa.out.trans (t1.alloc (.cells #[.int .i64 0, .slice none 0 0, .slice none 0 0] 51)) (fun _ _ e => e))
           have HOb := Lib.hid (HTb.out.blk HOq.out (fun e => e))
           have HNb := Lib.hid (HNp.out.far HTb.out)
           have q3 := HOb.out.cell 1
           rw [HK1.out] at q3
           clear t1)
        | (go_at_call 32; go_must (refine (nclockS HNb.out _).mono ?_); rintro e u3 ⟨rfl, t1⟩
           have HTc := Lib.hid (HTb.out.trans t1 (fun _ _ e => e))
           have HOc := Lib.hid (HTc.out.blk HOq.out (fun e => e))
           have HNc := Lib.hid (HNp.out.far HTc.out)
           have q4 := HOc.out.cell 1
           rw [HK1.out] at q4
           clear t1)
        | ((with_reducible apply HOc.out.lpS (k := 2) rowCa HCn.out HEc.out); exact rfl; exact rfl; exact rfl)
        | (go_at_call 25; go_must (refine (nlayS HNc.out _ X3).mono ?_); rintro e u4 ⟨rfl, t1⟩
           have HTd := Lib.hid (HTc.out.trans t1 (fun _ _ e => e))
           have HOd := Lib.hid (HTd.out.blk HOq.out (fun e => e))
           have HNd := Lib.hid (HNp.out.far HTd.out)
           have q5 := HOd.out.cell 1
           rw [HK1.out] at q5
           clear t1)
        | ((with_reducible apply HOd.out.lpS (k := 5) rowCo HDn.out HEd.out); exact rfl; exact rfl; exact rfl)
        | (go_at_call 26; go_must (refine (nsignS HNd.out _ X4).mono ?_); rintro e u5 ⟨rfl, t1⟩
           have HTe := Lib.hid (HTd.out.trans t1 (fun _ _ e => e))
           have HNe := Lib.hid (HNp.out.far HTe.out)
           clear t1)
        | (go_at_call 29; go_must (refine (nbytesS HNe.out).mono ?_); rintro e u6 ⟨rfl, t1⟩
           have HTf := Lib.hid (HTe.out.trans t1 (fun _ _ e => e))
           clear t1))
      go_roundw
      case rel => exact ⟨j + 1, by omega, by go_num, HT.out.trans HTf.out (fun _ _ e => e), HTf.out.blk HB.out (fun e => e)⟩
      case measure => simp [intOf]; omega
    · obtain rfl : j = 3 := by omega
      go_wp2_with (first
        | (go_at_call 33; go_must (refine (nloadS _).mono ?_); rintro e u1 ⟨rfl, t1⟩; have HTy := Lib.hid ((HT2.out.trans HT.out (fun _ _ e => e)).trans t1 (fun _ _ e => e)); clear t1)
        | (go_at_call 8; go_must (refine (lives14_any _).mono ?_); rintro e u2 ⟨rfl, t2⟩; have HTz := Lib.hid (HTy.out.trans t2 (fun _ _ e => e)); clear t2))
      go_ret
      exact ⟨rfl, HTz.out.below⟩
end Go.Proofs.YtlcefchbfjfifaaGreat
end
