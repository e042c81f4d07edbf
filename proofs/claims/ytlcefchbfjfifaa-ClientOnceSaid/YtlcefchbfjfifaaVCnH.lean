/- client.Hear. client.Hear where a command is done. client.Hear, all of it. -/
import Derived.Test.YtlcefchbfjfifaaVCnE
section
namespace Go.Proofs.Ytlcefchbfjfifaa
open Go.RowKit Cal
set_option maxHeartbeats 4000000
set_option maxRecDepth 100000
set_option linter.unusedVariables false
attribute [local irreducible] wpPlan

/-- An answer's cells. -/
structure AnC (C R : Array Value) (ac ar : Nat) (code : Int) : Prop where
  n : C.size = 17
  k0 : C[0]? = some (.int .u64 (ac : Nat))
  k1 : C[1]? = some (.int .u64 (ar : Nat))
  k2 : C[2]? = some (.int .i64 code)
  r : C.extract 3 (3 + 14) = R
  rn : R.size = 14
theorem rowRy : RowT 45 14 := ⟨⟨_, Try.underlying45, rfl⟩, by kernel_rfl⟩
theorem infoRs : (Try.prog.info? 56).map (fun i => (i.zero, i.size, i.bytes)) = some (some (.agg (#[.int .i64 0, .int .u64 0, .int .u64 0, .int .u64 0, .int .i64 0, .int .i64 0, .int .i64 0, .slice none 0 0, .slice none 0 0, .int .i64 0, .slice none 0 0, .int .i64 0, .int .i64 0, .int .i64 0, .int .i64 0, .int .u64 0, .int .i64 0, .int .i64 0, .int .i64 0, .int .u64 0, .int .i64 0, .int .i64 0, .int .i64 0, .int .i64 0, .slice none 0 0, .int .u64 0, .int .i64 0] : Array Value)), 27, 280) := by kernel_rfl
section
variable {ops : Array Oper} {rest : List Oper} {o : Oper} {a : Act} {w : World} {Q : Exit → Act → World → Prop}
theorem Blk.stp {T t : TypeId} {n b k : Nat} {C L : Array Value} (hb : Blk w b T C) (R : RowT t n) (hC : k + n ≤ C.size) (hL : L.size = n) (h1 : L.all (·.oneCell') = true) (x y : Operand) (ho : o.op = .store t x y) (hw : Region.wanted o (yielded ops a.tmps) = true) (hx : a.eval x = .pointer (some ⟨b, k, none⟩)) (hy : a.eval y = .agg L)
    (h : ∀ w', Blk w' b T (setAll C k L.toList) → Touch (fun q => q = b) w w' → wpList Try.prog ops Q rest (a.put o.dst undef) w') : wpList Try.prog ops Q (o :: rest) a w :=
  storeP R x y ho hw b k hx L hy T C hb hC hL h1 (fun w' h1 h2 _ => h w' h1 h2)
end
theorem clhear_no {w : World} {g : Nat} {c : Cl} {M : ClM} {F : Nat → Prop} (h : ClAt w g c M F) (hF : ∀ k, F k → k < w.heap.size) (AC R : Array Value) (ac ar : Nat) (code : Int) (hA : AnC AC R ac ar code) (hm : c.mine ac ar = false) :
    Calls Try.prog 18 #[.pointer (some ⟨g, 0, none⟩), .agg AC] w (ClP (.bool false) g c M F w) := by
  obtain ⟨W0, hW0⟩ : ∃ W0, W0 = w.alloc (.cells AC 47) := ⟨_, rfl⟩
  have hT0 : Touch (fun _ => False) w W0 := hW0 ▸ (Touch.refl _ w).alloc _
  have hBx : Blk W0 w.heap.size 47 AC := hW0 ▸ Blk.new w _ _
  have HW0 := Lib.hid hW0
  have hAt := h.far hT0
  have HB := Lib.hid (clbusy_any (hAt.far (Touch.refl _ W0).drew))
  have q3 := hAt.blk.cell 3
  have q4 := hAt.blk.cell 4
  rw [clC_lo c M (by omega)] at q3 q4
  simp at q3 q4
  have x0 := hBx.cell 0
  have x1 := hBx.cell 1
  rw [hA.k0] at x0
  rw [hA.k1] at x1
  have HC := Lib.hid h
  have HF := Lib.hid hF
  have HT := Lib.hid hT0.drew
  have hm' : c.busy.isSome = false ∨ (c.busy.isSome = true ∧ ac ≠ c.number) ∨ (c.busy.isSome = true ∧ ac = c.number ∧ ar ≠ c.req) := by
    unfold Cl.mine at hm
    cases hb : c.busy.isSome
    · exact .inl rfl
    · rw [hb] at hm
      by_cases e : ac = c.number
      · refine .inr (.inr ⟨rfl, e, fun e2 => ?_⟩)
        simp [e, e2] at hm
      · exact .inr (.inl ⟨rfl, e⟩)
  clear h hF hW0 hT0 hBx hAt hA hm
  generalize hbs : c.busy.isSome = bs at *
  have fin : ∀ W2, Touch (fun _ => False) W0.drew W2 → ClP (.bool false) g c M F w (.returned (.bool false)) W2 := fun W2 t => ClP.same HC.out HF.out (HT.out.trans t (fun _ _ e => e))
  have HFin := Lib.hid fin
  generalize c.number = nu at *
  generalize c.req = rq at *
  clear fin hbs
  rcases hm' with rfl | ⟨rfl, hne⟩ | ⟨rfl, rfl, hne⟩
  · go_enter Try.func18, Try.ntmps18
    go_wp2_with fail
    rw [← HW0.out]
    refine wp_region_plan [(0, 0), (0, 1), (0, 2), (0, 3), (0, 4), (0, 5), (0, 6), (0, 7), (0, 8), (0, 9), (0, 10), (0, 11), (0, 12), (0, 13), (0, 14), (0, 15), (0, 16), (0, 17), (0, 18), (0, 19), (0, 20)] (fun _ => False) (by kernel_rfl) (by kernel_rfl) (fun c a d v w h => by cases d <;> exact h) ?_
    iterate 21
      refine plan_s rfl fun Kc hKc => ?_
      go_simp
      first
        | (refine hKc _ ?_)
        | (refine ⟨_, calls_flip (HB.out), hKc _ ?_⟩)
      clear hKc Kc
    refine plan_done ?_
    go_wp2_with fail
    go_ret
    exact HFin.out _ (Touch.refl _ _)
  · have hb1 : ((ac : Int) != (nu : Int)) = true := by simp; omega
    go_enter Try.func18, Try.ntmps18
    go_wp2_with fail
    rw [← HW0.out]
    refine wp_region_plan [(0, 0), (0, 1), (0, 2), (0, 3), (0, 4), (0, 5), (0, 6), (0, 7), (0, 8), (0, 9), (0, 10), (0, 11), (0, 12), (0, 13), (0, 14), (0, 15), (0, 16), (0, 17), (0, 18), (0, 19), (0, 20)] (fun _ => False) (by kernel_rfl) (by kernel_rfl) (fun c a d v w h => by cases d <;> exact h) ?_
    iterate 21
      refine plan_s rfl fun Kc hKc => ?_
      go_simp
      first
        | (refine hKc _ ?_)
        | (refine ⟨_, calls_flip (HB.out), hKc _ ?_⟩)
      clear hKc Kc
    refine plan_done ?_
    go_wp2_with fail
    go_ret
    exact HFin.out _ (Touch.refl _ _)
  · have hb1 : ((ar : Int) != (rq : Int)) = true := by simp; omega
    go_enter Try.func18, Try.ntmps18
    go_wp2_with fail
    rw [← HW0.out]
    refine wp_region_plan [(0, 0), (0, 1), (0, 2), (0, 3), (0, 4), (0, 5), (0, 6), (0, 7), (0, 8), (0, 9), (0, 10), (0, 11), (0, 12), (0, 13), (0, 14), (0, 15), (0, 16), (0, 17), (0, 18), (0, 19), (0, 20)] (fun _ => False) (by kernel_rfl) (by kernel_rfl) (fun c a d v w h => by cases d <;> exact h) ?_
    iterate 21
      refine plan_s rfl fun Kc hKc => ?_
      go_simp
      first
        | (refine hKc _ ?_)
        | (refine ⟨_, calls_flip (HB.out), hKc _ ?_⟩)
      clear hKc Kc
    refine plan_done ?_
    go_wp2_with fail
    go_ret
    exact HFin.out _ (Touch.refl _ _)
theorem ClP.of {v : Value} {g : Nat} {c' : Cl} {M : ClM} {F : Nat → Prop} {w w' : World} (h : ClAt w' g c' M F) (hF : ∀ k, F k → k < w.heap.size) (t : Touch (fun k => k = g ∨ M.q = some k) w w') : ClP v g c' M F w (.returned v) w' :=
  ⟨M, F, rfl, h, fun k hk => Nat.lt_of_lt_of_le (hF k hk) t.size, fun k hk => .inl hk, t, .inl rfl⟩
end Go.Proofs.Ytlcefchbfjfifaa
end

section
namespace Go.Proofs.Ytlcefchbfjfifaa
open Go.RowKit Cal
set_option maxHeartbeats 4000000
set_option maxRecDepth 100000
set_option linter.unusedVariables false
attribute [local irreducible] wpPlan

theorem ResV.one_mem (x : ResV) : ∀ u ∈ x.arr.toList, u.oneCell' = true := by
  intro u hu
  have := x.one
  rw [← Array.all_toList] at this
  exact List.all_eq_true.1 this u hu
theorem clhear_yes {w : World} {g : Nat} {c : Cl} {M : ClM} {F : Nat → Prop} (h : ClAt w g c M F) (hF : ∀ k, F k → k < w.heap.size) (AC : Array Value) (r : RpV) (RA : Option Addr) (rn : Nat) (hA : AnC AC (rpA r RA rn) c.number c.req 0) (G : Nat → Prop) (hr : Rd w G RA r.fired.length (r.fired.map U64)) (hG : ∀ k, G k → k < w.heap.size) (hfl : r.fired.length ≤ 1000) (hdl : c.done.length ≤ 100000) (x : Cm) (hb : c.busy = some x) :
    Calls Try.prog 18 #[.pointer (some ⟨g, 0, none⟩), .agg AC] w (ClP (.bool true) g { c with busy := none, done := c.done ++ [(x, r)] } M F w) := by
  obtain ⟨c', hc'⟩ : ∃ c' : Cl, c' = { c with busy := none, done := c.done ++ [(x, r)] } := ⟨_, rfl⟩
  rw [← hc']
  have hok' : c'.Ok := by
    have := h.ok.hear c.number c.req 0 r hfl
    rw [hc']
    unfold Cl.hear at this
    rw [hb] at this
    simp only [Cl.mine, hb] at this
    simpa using this
  have HC := Lib.hid hc'
  obtain ⟨W0, hW0⟩ : ∃ W0, W0 = w.alloc (.cells AC 47) := ⟨_, rfl⟩
  have hT0 : Touch (fun _ => False) w W0 := hW0 ▸ (Touch.refl _ w).alloc _
  have hBx : Blk W0 w.heap.size 47 AC := hW0 ▸ Blk.new w _ _
  have HW0 := Lib.hid hW0
  have hAt := h.far hT0
  have hBu := clbusy_any (hAt.far (Touch.refl _ W0).drew)
  rw [hb] at hBu
  have HB := Lib.hid hBu
  have q3 := hAt.blk.cell 3
  have q4 := hAt.blk.cell 4
  rw [clC_lo c M (by omega)] at q3 q4
  simp at q3 q4
  have x0 := hBx.cell 0
  have x1 := hBx.cell 1
  have x2 := hBx.cell 2
  rw [hA.k0] at x0
  rw [hA.k1] at x1
  rw [hA.k2] at x2
  have HF := Lib.hid hF
  have hgl := h.blk.lt
  have hwl : w.heap.size < W0.heap.size := by rw [hW0]; simp
  have HqL := Lib.hid (fun k (hk : M.q = some k) => h.own.lt k hk)
  have hbu := hAt.bu
  rw [hb] at hbu
  obtain ⟨-, A, B', D, k, m, n, hDC, hrow⟩ := hbu
  obtain ⟨i0, hi, hz0, hz1, hz2⟩ := info_parts infoRs
  obtain ⟨W1, hW1⟩ : ∃ W1, W1 = W0.drew := ⟨_, rfl⟩
  have HW1 := Lib.hid hW1
  have HA1 := Lib.hid (show ClAt W1 g c M F from hW1 ▸ hAt.far (Touch.refl _ W0).drew)
  have HB1 := Lib.hid (show Blk W1 w.heap.size 47 AC from hW1 ▸ (Touch.refl (fun _ => False) W0).drew.blk hBx (fun e => e))
  have HT1 := Lib.hid (show Touch (fun _ => False) w W1 from hW1 ▸ hT0.drew)
  have HK2 := Lib.hid hA.k2
  have HRow := Lib.hid (show CmR W1 F x A B' D from hW1 ▸ hrow.touch (Touch.refl (fun _ => False) W0).drew (fun _ _ e => e))
  have HRx := Lib.hid hA.r
  have HG := Lib.hid hG
  have HR := Lib.hid hr
  have HDC := Lib.hid hDC
  have HOk := Lib.hid hok'
  have HX := Lib.hid (clC_DC c M h.dn)
  have hz1w := HT1.out.size
  have hzw1 : w.heap.size < W1.heap.size := by rw [hW1]; exact hwl
  clear h hF hA hr hG hb hok' hc' hW0 hT0 hBx hAt hBu hDC hrow
  go_enter Try.func18, Try.ntmps18
  go_wp2_with fail
  rw [← HW0.out]
  refine wp_region_plan [(0, 0), (0, 1), (0, 2), (0, 3), (0, 4), (0, 5), (0, 6), (0, 7), (0, 8), (0, 9), (0, 10), (0, 11), (0, 12), (0, 13), (0, 14), (0, 15), (0, 16), (0, 17), (0, 18), (0, 19), (0, 20)] (fun _ => False) (by kernel_rfl) (by kernel_rfl) (fun c a d v w h => by cases d <;> exact h) ?_
  iterate 21
    refine plan_s1 rfl (by rfl) (fun Kc hKc => ?_)
    go_simp
    first
      | (refine hKc _ ?_)
      | (refine ⟨_, calls_flip (HB.out), hKc _ ?_⟩)
    clear hKc Kc
  refine plan_done ?_
  rw [← hW1]
  clear hW1 q3 q4 x0 x1 x2
  have x2 := HB1.out.cell 2
  rw [HK2.out] at x2
  go_wp2_with fail
  have HAd := Lib.hid (HA1.out.far (Touch.refl _ W1).drew)
  have HBd := Lib.hid ((Touch.refl (fun _ => False) W1).drew.blk HB1.out (fun e => e))
  have HTd := Lib.hid (HT1.out.drew)
  have HDv := Lib.hid (clC_dv c M HA1.out.dn)
  clear x2
  have hqn : ∀ q, M.q = some q → q ≠ g ∧ q < w.heap.size := fun q hq => ⟨(HA1.out.q q hq).1, HqL.out q hq⟩
  have HQn := Lib.hid hqn
  clear hqn
  have HCp := Lib.hid (show ∀ w3, Rd w3 (fun k => k < w3.heap.size) RA r.fired.length (r.fired.map U64) → Calls Try.prog 28 #[.agg (rpA r RA rn)] w3 fun e w' => ∃ g3, e = .returned (.agg (rpA r (some ⟨g3, 0, none⟩) r.fired.length)) ∧ Blk w' g3 27 (r.fired.map U64).toArray ∧ w3.heap.size ≤ g3 ∧ Touch (fun _ => False) w3 w' from fun w3 h3 => copy_any r RA rn w3 h3 hfl)
  have HRn := Lib.hid (rpA_size r RA rn)
  generalize rpA r RA rn = R14 at *
  obtain ⟨X13, hX13⟩ : ∃ X, X = cmA x A B' D k m n := ⟨_, rfl⟩
  have HX13 := Lib.hid hX13
  rw [← hX13] at HDC
  have HXn := Lib.hid (show X13.size = 13 from hX13 ▸ rfl)
  clear hX13
  refine wp_region_plan [(0, 9), (1, 10), (1, 0), (1, 1), (1, 2), (1, 3), (1, 4), (1, 5), (1, 6), (1, 7), (1, 8), (2, 11), (0, 12), (2, 13), (2, 14), (0, 15), (0, 16), (3, 17)] (fun q => M.q = some q) (by kernel_rfl) (by kernel_rfl) (fun c a d v w h => by cases d <;> exact h) ?_
  iterate 1
    refine plan_s1 rfl (by rfl) (fun Kc hKc => ?_)
    go_simp
    first
      | (refine hKc _ ?_)
    clear hKc Kc
  refine plan_hC rowRy rfl _ rfl rfl w.heap.size 3 rfl R14 HRn.out (fun wh hT => by
    have := (hT.blk HBd.out (fun e => by have := HqL.out _ e; omega)).range 3 14
    rw [HRx.out] at this; exact this) ?_
  go_simp
  iterate 1
    apply plan_h
    · rfl
    · rfl
    · intro wh hT
      go_simp
      try rfl
    go_frame
  go_simp
  iterate 1
    apply plan_h
    · rfl
    · rfl
    · intro wh hT
      go_simp
      try rfl
    go_frame
  go_simp
  iterate 1
    apply plan_h
    · rfl
    · rfl
    · intro wh hT
      go_simp
      try rfl
    go_frame
  go_simp
  iterate 1
    apply plan_h
    · rfl
    · rfl
    · intro wh hT
      go_simp
      try rfl
    go_frame
  go_simp
  iterate 1
    apply plan_h
    · rfl
    · rfl
    · intro wh hT
      have hf0 := show wh.cell? ⟨g, 19, none⟩ = some M.dv from ((hT.blk HAd.out.blk (fun e => (HQn.out _ e).1 rfl)).cell 19).trans HDv.out
      go_simp
      try rfl
    go_frame
  go_simp
  iterate 1
    apply plan_h
    · rfl
    · rfl
    · intro wh hT
      go_simp
      try rfl
    go_frame
  go_simp
  iterate 1
    apply plan_h
    · rfl
    · rfl
    · intro wh hT
      go_simp
      try rfl
    go_frame
  go_simp
  iterate 1
    apply plan_h
    · rfl
    · rfl
    · intro wh hT
      go_simp
      try rfl
    go_frame
  go_simp
  refine plan_hC rowCm rfl _ rfl rfl g 6 rfl X13 HXn.out (fun wh hT => by
    have := (hT.blk HAd.out.blk (fun e => (HQn.out _ e).1 rfl)).range 6 13
    rw [HX.out, HDC.out] at this; exact this) ?_
  go_simp
  refine plan_a1 rfl (by rfl) (fun Kc hKc => ?_)
  go_simp
  refine (HCp.out _ (by exact (HR.out.touch HTd.out (fun _ _ e => e)).mono (fun q hq => by have := HG.out q hq; have : W1.drew.heap.size = W1.heap.size := rfl; omega))).mono ?_
  rintro e w5 ⟨g3, rfl, hb3, hg3, t5⟩
  refine hKc _ _ ⟨t5.mono (fun _ _ e => e.elim), ?_⟩
  clear hKc Kc
  have HT5 := Lib.hid t5
  have HB3 := Lib.hid hb3
  have hz5 := t5.size
  clear hb3 t5
  rw [HX13.out]
  simp only [cmA, rpA]
  iterate 1
    refine plan_s1 rfl (by rfl) (fun Kc hKc => ?_)
    go_simp
    first
      | (refine hKc _ ?_)
    clear hKc Kc
  obtain ⟨V, hV⟩ : ∃ V : ResV, V = ⟨x, r, A, B', D, some ⟨g3, 0, none⟩, k, m, n, r.fired.length⟩ := ⟨_, rfl⟩
  have hVa : V.arr = #[.int .i64 x.kind, .int .u64 x.client, .int .u64 x.req, .int .u64 x.id, .int .i64 x.con, .int .i64 x.at_, .int .i64 x.cal.off, .slice A x.cal.wk.length k, .slice B' x.cal.cl.length m, .int .i64 x.tm.cal, .slice D x.tm.lv.length n, .int .i64 x.tm.rt, .int .i64 x.tm.bk, .int .i64 r.code, .int .i64 r.time, .int .u64 r.t.id, .int .i64 r.t.contract, .int .i64 r.t.state, .int .i64 r.t.level, .int .u64 r.t.gen, .int .i64 r.t.from_, .int .i64 r.t.left, .int .i64 r.t.due, .int .i64 r.t.told, .slice (some ⟨g3, 0, none⟩) r.fired.length r.fired.length, .int .u64 r.notice, .int .i64 r.dead] := by rw [hV]; rfl
  have HBn := Lib.hid (show Blk (w5.alloc (.cells #[.int .i64 x.kind, .int .u64 x.client, .int .u64 x.req, .int .u64 x.id, .int .i64 x.con, .int .i64 x.at_, .int .i64 x.cal.off, .slice A x.cal.wk.length k, .slice B' x.cal.cl.length m, .int .i64 x.tm.cal, .slice D x.tm.lv.length n, .int .i64 x.tm.rt, .int .i64 x.tm.bk, .int .i64 r.code, .int .i64 r.time, .int .u64 r.t.id, .int .i64 r.t.contract, .int .i64 r.t.state, .int .i64 r.t.level, .int .u64 r.t.gen, .int .i64 r.t.from_, .int .i64 r.t.left, .int .i64 r.t.due, .int .i64 r.t.told, .slice (some ⟨g3, 0, none⟩) r.fired.length r.fired.length, .int .u64 r.notice, .int .i64 r.dead] 56)) w5.heap.size 56 V.arr from hVa ▸ Blk.new w5 56 V.arr)
  have HA5 := Lib.hid (HAd.out.far HT5.out)
  have HA6 := Lib.hid (HA5.out.far ((Touch.refl (fun _ => False) w5).alloc (.cells #[.int .i64 x.kind, .int .u64 x.client, .int .u64 x.req, .int .u64 x.id, .int .i64 x.con, .int .i64 x.at_, .int .i64 x.cal.off, .slice A x.cal.wk.length k, .slice B' x.cal.cl.length m, .int .i64 x.tm.cal, .slice D x.tm.lv.length n, .int .i64 x.tm.rt, .int .i64 x.tm.bk, .int .i64 r.code, .int .i64 r.time, .int .u64 r.t.id, .int .i64 r.t.contract, .int .i64 r.t.state, .int .i64 r.t.level, .int .u64 r.t.gen, .int .i64 r.t.from_, .int .i64 r.t.left, .int .i64 r.t.due, .int .i64 r.t.told, .slice (some ⟨g3, 0, none⟩) r.fired.length r.fired.length, .int .u64 r.notice, .int .i64 r.dead] 56)))
  have HV := Lib.hid hV
  clear hV hVa
  refine plan_a1 rfl (by rfl) (fun Kc hKc => ?_)
  go_simp
  refine hKc _ _ ⟨(Touch.refl _ _).alloc _, ?_⟩
  clear hKc Kc
  refine plan_a1 rfl (by rfl) (fun Kc hKc => ?_)
  refine wp_own_append _ _ 53 53 rfl 56 i0 _ 27 280 Try.underlying53 hi hz0 hz1 hz2 rfl M.dv M.q c.done.length (M.xs.flatMap ResV.cells) rfl (by exact HA6.out.own) (.slice (some ⟨w5.heap.size, 0, none⟩) 1 1) 1 V.cells rfl (by exact Src.lit Try.underlying53 w5.heap.size 1 1 56 V.arr HBn.out V.len V.one_mem) (by simp only [maxLen]; omega) (by omega) ?_
  intro v8 r8 w8 ho8 t8 hr8
  refine hKc _ _ ⟨t8, ?_⟩
  clear hKc Kc
  have HO8 := Lib.hid ho8
  have HT8 := Lib.hid t8
  have HR8 := Lib.hid hr8
  obtain ⟨A8, c8, hv8, -⟩ := ho8.form
  have hb8 := t8.blk HA6.out.blk (fun e => (HQn.out _ e).1 rfl)
  have HB8 := Lib.hid hb8
  have q19 := (hb8.cell 19).trans HDv.out
  have f19 := hb8.frozen 19
  subst hv8
  clear ho8 t8 hr8 hb8
  go_simp
  iterate 2
    refine plan_s1 rfl (by rfl) (fun Kc hKc => ?_)
    go_simp
    first
      | (refine hKc _ ?_)
    clear hKc Kc
  refine plan_b1 rfl (by rfl) (fun Kc hKc => ?_)
  go_simp
  refine hKc _ _ ?_
  clear hKc Kc
  refine plan_done ?_
  obtain ⟨v8, hv8⟩ : ∃ v8, v8 = Value.slice A8 (c.done.length + 1) c8 := ⟨_, rfl⟩
  obtain ⟨w9, hw9⟩ : ∃ w9, w9 = w8.setCell ⟨g, 19, none⟩ v8 := ⟨_, rfl⟩
  rw [← hv8] at HO8 ⊢
  rw [← hw9]
  have hB9 : Blk w9 g 68 (clC c { M with dv := v8 }) := hw9 ▸ (clC_setdv c M v8 HA6.out.dn ▸ HB8.out.set_ 19 v8)
  have HT9 := Lib.hid (show Touch (fun q => q = g) w8 w9 from hw9 ▸ (Touch.refl (fun q => q = g) w8).set (b := g) (o := 19) (fun _ => rfl) v8)
  have q5 := hB9.cell 5
  rw [clC_lo c _ (by omega)] at q5
  simp at q5
  have f5 := hB9.frozen 5
  obtain ⟨M9, hM9⟩ : ∃ M9 : ClM, M9 = { M with dv := v8, ent := .slice none 0 0 } := ⟨_, rfl⟩
  have HBb := Lib.hid (show Blk (w9.setCell ⟨g, 5, none⟩ (.slice none 0 0)) g 68 (clC c M9) from (clC_set c c { M with dv := v8 } M9 5 (.slice none 0 0) (by rw [hM9]) (by rw [hM9]) (by rw [hM9]; rfl) (by omega)) ▸ hB9.set_ 5 (.slice none 0 0))
  have HTb := Lib.hid ((Touch.refl (fun q => q = g) w9).set (b := g) (o := 5) (fun _ => rfl) (.slice none 0 0))
  have HMn := Lib.hid (show M9.DC.size = 13 from hM9 ▸ HA6.out.dn)
  have HM9 := Lib.hid hM9
  have HSz := Lib.hid (show 6 + 13 ≤ (clC c M9).size by rw [clC_size HMn.out]; omega)
  have HZn := Lib.hid (show cmZA.size = 13 from rfl)
  have HZ1 := Lib.hid (show cmZA.all (·.oneCell') = true from cmA_one _ _ _ _ _ _ _)
  clear hB9 hM9 hw9 q19 f19
  go_wp2_with (first
    | (refine buildZ builtCm rfl rfl ?_)
    | ((with_reducible apply HBb.out.stp (k := 6) rowCm HSz.out HZn.out HZ1.out); exact rfl; exact rfl; exact rfl; exact rfl
       intro w10 hb10 t10
       have HB10 := Lib.hid (clC_setDC c M9 cmZA HMn.out rfl ▸ hb10)
       have HT10 := Lib.hid t10
       clear hb10 t10))
  go_ret
  have hgo : Touch (fun q => q = g) w8 w10 := (HT9.out.trans HTb.out (fun _ _ e => e)).trans HT10.out (fun _ _ e => e)
  have hw5 : w.heap.size < w5.heap.size := by have := HB3.out.lt; have : W1.drew.heap.size = W1.heap.size := rfl; omega
  have z6 : w5.heap.size ≤ w8.heap.size := by have := HT8.out.size; simp at this; omega
  have z10 := hgo.size
  have hF := HF.out
  have hr8 : ∀ q, r8 = some q → q ≠ g ∧ ¬ F q ∧ (q < w.heap.size ∨ w5.heap.size ≤ q) := by
    intro q hq
    rcases HR8.out with e | ⟨q', e, hq'⟩
    · rw [e] at hq
      exact ⟨(HQn.out q hq).1, (HA6.out.q q hq).2, .inl (HQn.out q hq).2⟩
    · rw [e] at hq
      injection hq with hq
      subst hq
      simp at hq'
      exact ⟨by omega, fun h => by have := hF _ h; omega, .inr (by omega)⟩
  have hT8 : Touch (fun q => M.q = some q) w5 w8 := ((Touch.refl (fun q => M.q = some q) w5).alloc _).trans HT8.out (fun _ _ e => e)
  refine ⟨⟨.slice none 0 0, cmZA, v8, r8, M.xs ++ [V]⟩, fun q => F q ∨ (w.heap.size < q ∧ q < w5.heap.size), rfl, ⟨?_, rfl, cmA_one _ _ _ _ _ _ _, ?_, ?_, ?_, ?_, ?_, ?_, HOk.out⟩, ?_, ?_, ?_, ?_⟩
  · have := HB10.out
    rw [HM9.out] at this
    rw [HC.out]
    exact this
  · rw [HC.out]; exact ⟨rfl, rfl⟩
  · rw [HC.out]
    have := HO8.out.touch hgo (fun q hq e => (hr8 q hq).1 e)
    simpa [ResV.cells] using this
  · rw [HC.out, List.map_append, HA6.out.xs, HV.out]; rfl
  · intro z hz
    rcases List.mem_append.1 hz with hz | hz
    · exact (((HA5.out.xr z hz).touch hT8 (fun q hq e => (HA5.out.q q e).2 hq)).touch hgo (fun q hq e => HA5.out.nF (e ▸ hq))).mono (fun q hq => .inl hq)
    · obtain rfl : z = V := by simpa using hz
      have hrw := (((HRow.out.touch (Touch.refl (fun _ => False) W1).drew (fun _ _ e => e)).touch HT5.out (fun _ _ e => e)).touch hT8 (fun q hq e => (HA5.out.q q e).2 hq)).touch hgo (fun q hq e => HA5.out.nF (e ▸ hq))
      have hW5 : W1.drew.heap.size = W1.heap.size := rfl
      have hl3 := HB3.out.lt
      have hb3 := hgo.blk (hT8.blk HB3.out (fun e => by have := (HQn.out _ e).2; omega)) (by omega)
      have hl10 := hb3.lt
      have e := HV.out
      subst e
      exact ⟨hrw.mono (fun q hq => .inl hq), ⟨by simp, fun _ => ⟨g3, 0, rfl, hl10, .inr ⟨by omega, hl3⟩, fun j u hj => by rw [Nat.zero_add]; exact (hb3.cell j).trans (by simpa using hj)⟩⟩⟩
  · rintro (e | e)
    · exact HA5.out.nF e
    · omega
  · intro q hq
    refine ⟨(hr8 q hq).1, ?_⟩
    rintro (e | e)
    · exact (hr8 q hq).2.1 e
    · rcases (hr8 q hq).2.2 with h | h <;> omega
  · rintro q (e | e)
    · have := hF q e; omega
    · omega
  · rintro q (e | e)
    · exact .inl e
    · exact .inr (by omega)
  · refine (((HTd.out.mono (fun _ _ e => e.elim)).trans HT5.out (fun _ _ e => e.elim)).trans hT8 (fun q hq e => .inr e)).trans hgo (fun q hq e => .inl e)
  · rcases HR8.out with e | ⟨q', e, hq'⟩
    · exact .inl e
    · simp at hq'; exact .inr ⟨q', e, by omega⟩
end Go.Proofs.Ytlcefchbfjfifaa
end

section
namespace Go.Proofs.Ytlcefchbfjfifaa
open Go.RowKit Cal
set_option maxHeartbeats 4000000
set_option maxRecDepth 100000
set_option linter.unusedVariables false
attribute [local irreducible] wpPlan

theorem clhear_any {w : World} {g : Nat} {c : Cl} {M : ClM} {F : Nat → Prop} (h : ClAt w g c M F) (hF : ∀ k, F k → k < w.heap.size) (AC : Array Value) (r : RpV) (RA : Option Addr) (rn ac ar : Nat) (code : Int) (hA : AnC AC (rpA r RA rn) ac ar code) (G : Nat → Prop) (hr : Rd w G RA r.fired.length (r.fired.map U64)) (hG : ∀ k, G k → k < w.heap.size) (hfl : r.fired.length ≤ 1000) (hdl : c.done.length ≤ 100000) :
    Calls Try.prog 18 #[.pointer (some ⟨g, 0, none⟩), .agg AC] w (ClP (.bool (c.hearB ac ar code)) g (c.hear ac ar code r) M F w) := by
  cases hm : c.mine ac ar
  · have e1 : c.hearB ac ar code = false := by rw [Cl.hearB, hm]; rfl
    have e2 : c.hear ac ar code r = c := by
      unfold Cl.hear
      split
      · rfl
      · rw [if_neg (by rw [hm]; simp)]
    rw [e1, e2]
    exact clhear_no h hF AC _ ac ar code hA hm
  obtain ⟨x, hb⟩ : ∃ x, c.busy = some x := by
    unfold Cl.mine at hm
    cases hb : c.busy with
    | none => rw [hb] at hm; cases hm
    | some x => exact ⟨x, rfl⟩
  obtain ⟨hac, har⟩ : ac = c.number ∧ ar = c.req := by
    unfold Cl.mine at hm
    simp only [Bool.and_eq_true, decide_eq_true_eq] at hm
    exact hm.2
  have e1 : c.hearB ac ar code = decide (code = 0) := by rw [Cl.hearB, hm, Bool.true_and]
  have e2 : c.hear ac ar code r = if code = 0 then { c with busy := none, done := c.done ++ [(x, r)] } else c.nxt := by
    unfold Cl.hear
    rw [hb]
    simp only
    rw [if_pos hm]
  have hok' := h.ok.hear ac ar code r hfl
  obtain ⟨B, hB⟩ : ∃ B, B = c.hearB ac ar code := ⟨_, rfl⟩
  obtain ⟨c', hc'⟩ : ∃ c', c' = c.hear ac ar code r := ⟨_, rfl⟩
  rw [← hB, ← hc']
  rw [← hB] at e1
  rw [← hc'] at e2 hok'
  obtain ⟨W0, hW0⟩ : ∃ W0, W0 = w.alloc (.cells AC 47) := ⟨_, rfl⟩
  have hT0 : Touch (fun _ => False) w W0 := hW0 ▸ (Touch.refl _ w).alloc _
  have hBx : Blk W0 w.heap.size 47 AC := hW0 ▸ Blk.new w _ _
  have HW0 := Lib.hid hW0
  have hAt := h.far hT0
  have hBu := clbusy_any (hAt.far (Touch.refl _ W0).drew)
  rw [hb] at hBu
  have HB := Lib.hid hBu
  have q3 := hAt.blk.cell 3
  have q4 := hAt.blk.cell 4
  rw [clC_lo c M (by omega)] at q3 q4
  simp at q3 q4
  have x0 := hBx.cell 0
  have x1 := hBx.cell 1
  have x2 := hBx.cell 2
  rw [hA.k0, hac] at x0
  rw [hA.k1, har] at x1
  rw [hA.k2] at x2
  have HF := Lib.hid hF
  have hgl := h.blk.lt
  have hwl : w.heap.size < W0.heap.size := by rw [hW0]; simp
  have HqL := Lib.hid (fun k (hk : M.q = some k) => h.own.lt k hk)
  by_cases hcd : code = 0
  · have hB1 : B = true := by rw [e1]; simp [hcd]
    have hC1 : c' = { c with busy := none, done := c.done ++ [(x, r)] } := by rw [e2, if_pos hcd]
    subst hcd hac har
    rw [hB1, hC1]
    exact clhear_yes h hF AC r RA rn hA G hr hG hfl hdl x hb
  · have HE := Lib.hid (show B = false by rw [e1]; simp [hcd])
    have HC := Lib.hid (show c' = c.nxt by rw [e2, if_neg hcd])
    have hcb : (code != 0) = true := by simp [hcd]
    have HN := Lib.hid (next_blk c M g W0.drew ((Touch.refl (fun _ => False) W0).drew.blk hAt.blk (fun e => e)) h.ok.at_ h.ok.se.2)
    have HAd := Lib.hid (hAt.far (Touch.refl _ W0).drew)
    have HTd := Lib.hid hT0.drew
    have HOk := Lib.hid (show c.nxt.Ok from h.ok.nxt)
    clear h hF hA hr hG hm hb hac har e1 e2 hok' hB hc' hW0 hT0 hBx hAt hBu hcd
    generalize c.number = nu at *
    generalize c.req = rq at *
    go_enter Try.func18, Try.ntmps18
    go_wp2_with fail
    rw [← HW0.out]
    refine wp_region_plan [(0, 0), (0, 1), (0, 2), (0, 3), (0, 4), (0, 5), (0, 6), (0, 7), (0, 8), (0, 9), (0, 10), (0, 11), (0, 12), (0, 13), (0, 14), (0, 15), (0, 16), (0, 17), (0, 18), (0, 19), (0, 20)] (fun _ => False) (by kernel_rfl) (by kernel_rfl) (fun c a d v w h => by cases d <;> exact h) ?_
    iterate 21
      refine plan_s1 rfl (by rfl) (fun Kc hKc => ?_)
      go_simp
      first
        | (refine hKc _ ?_)
        | (refine ⟨_, calls_flip (HB.out), hKc _ ?_⟩)
      clear hKc Kc
    refine plan_done ?_
    go_wp2_with (go_at_call 40; go_must (refine HN.out.mono ?_); rintro e w2 ⟨rfl, hb2, t2⟩; have HB2 := Lib.hid hb2; have HT2 := Lib.hid t2; clear hb2 t2)
    go_ret
    rw [HE.out, HC.out]
    exact ClP.of (HAd.out.set HT2.out HB2.out rfl rfl HOk.out) HF.out ((HTd.out.mono (fun _ _ e => e.elim)).trans HT2.out (fun k hk e => .inl e))
end Go.Proofs.Ytlcefchbfjfifaa
end
