/- client.Done. -/
import Derived.Test.YtlcefchbfjfifaaVCnH
namespace Go.Proofs.Ytlcefchbfjfifaa
open Go.RowKit Cal
set_option maxHeartbeats 4000000
set_option maxRecDepth 100000
set_option linter.unusedVariables false
attribute [local irreducible] wpPlan

theorem rowRs : RowT 56 27 := ⟨⟨_, Try.underlying56, rfl⟩, by kernel_rfl⟩
theorem ResV.ex_c (x : ResV) : x.arr.extract 0 (0 + 13) = cmA x.c x.A x.B x.D x.k x.m x.n := by simp [ResV.arr, cmA, rpA]
theorem ResV.ex_a (x : ResV) : x.arr.extract 13 (13 + 14) = rpA x.a x.E x.e := by simp [ResV.arr, cmA, rpA]
/-- A row of results of the call's own. -/
structure OwnR (w0 w : World) (l : List (Cm × RpV)) (v : Value) (q : Option Nat) (xs : List ResV) : Prop where
  own : Own w 56 27 v q l.length (xs.flatMap ResV.cells)
  eqs : xs.map ResV.p = l
  rows : ∀ x ∈ xs, ResR w (fun k => w0.heap.size ≤ k ∧ k < w.heap.size ∧ q ≠ some k) x
  ge : ∀ k, q = some k → w0.heap.size ≤ k
theorem OwnR.far {w0 w w' : World} {l : List (Cm × RpV)} {v : Value} {q : Option Nat} {xs : List ResV} (h : OwnR w0 w l v q xs) (t : Touch (fun _ => False) w w') : OwnR w0 w' l v q xs :=
  ⟨h.own.touch t (fun _ _ e => e), h.eqs, fun x hx => ((h.rows x hx).touch t (fun _ _ e => e)).mono (fun k hk => ⟨hk.1, Nat.lt_of_lt_of_le hk.2.1 t.size, hk.2.2⟩), h.ge⟩
/-- What Done tells. -/
def DoneP (l : List (Cm × RpV)) (w : World) (e : Ending) (w' : World) : Prop :=
  ∃ v q xs, e = .returned v ∧ OwnR w w' l v q xs ∧ Touch (fun _ => False) w w'
theorem take_p {l : List (Cm × RpV)} {ys : List ResV} (h : ys.map ResV.p = l) {j : Nat} {x : ResV} (hx : ys[j]? = some x) : l.take (j + 1) = l.take j ++ [(x.c, x.a)] := by
  have : l[j]? = some (x.c, x.a) := by rw [← h, List.getElem?_map, hx]; rfl
  rw [List.take_add_one, this]; rfl
theorem Own.at27 {w : World} {A : Option Addr} {n c : Nat} {q : Option Nat} {xs : List ResV} (h : Own w 56 27 (.slice A n c) q n (xs.flatMap ResV.cells)) {j : Nat} {x : ResV} (hx : xs[j]? = some x) :
    ∃ g0, A = some ⟨g0, 0, none⟩ ∧ q = some g0 ∧ w.rangeAt g0 (j * 27) x.arr.toList := by
  have hj : j < xs.length := (List.getElem?_eq_some_iff.1 hx).1
  rcases h.2 with ⟨_, hn, _⟩ | ⟨g0, cap, cur, hq, hv, hb, hr⟩
  · have := h.1
    rw [hn] at this
    have hl : (xs.flatMap ResV.cells).length = xs.length * 27 := flat_len _ 27 xs (fun a _ => a.len)
    omega
  · injection hv with hv _ _
    refine ⟨g0, hv, hq, fun k u hk => ?_⟩
    have hk' : k < 27 := by have := (List.getElem?_eq_some_iff.1 hk).1; have h2 := x.len; unfold ResV.cells at h2; omega
    have hg := flat_get ResV.cells 27 xs (fun a _ => a.len) j x hx k hk'
    have hl : (xs.flatMap ResV.cells).length = xs.length * 27 := flat_len _ 27 xs (fun a _ => a.len)
    subst hq
    rw [Own.cellAt h (j * 27 + k) (by rw [hl]; have : (j + 1) * 27 ≤ xs.length * 27 := Nat.mul_le_mul_right _ hj; omega), hg]
    exact hk
theorem cldone_any {w : World} {g : Nat} {c : Cl} {M : ClM} {F : Nat → Prop} (h : ClAt w g c M F) (hF : ∀ k, F k → k < w.heap.size) (hdl : c.done.length ≤ 100000) : Calls Try.prog 11 #[.pointer (some ⟨g, 0, none⟩)] w (DoneP c.done w) := by
  have HN := Lib.hid (clnone_any h)
  have q19 := (h.blk.cell 19).trans (clC_dv c M h.dn)
  obtain ⟨A0, c0, hv, hn0, hm0⟩ := h.own.form
  rw [hv] at q19
  have HA := Lib.hid h
  have HF := Lib.hid hF
  have hxl : M.xs.length = c.done.length := by rw [← h.xs]; simp
  have HX := Lib.hid h.xs
  have HOwn := Lib.hid (hv ▸ h.own)
  have HqL := Lib.hid (fun k (hk : M.q = some k) => h.own.lt k hk)
  have HFit := Lib.hid (fun y (hy : y ∈ c.done) => h.ok.dn y hy)
  obtain ⟨i0, hi, hz0, hz1, hz2⟩ := info_parts infoRs
  obtain ⟨dn, hdn⟩ : ∃ dn, dn = c.done := ⟨_, rfl⟩
  rw [← hdn] at HX HOwn HFit hxl hdl q19 ⊢
  clear h hF hv hdn hn0 hm0
  go_enter Try.func11, Try.ntmps11
  go_wp2_with (go_at_call 21; go_must (refine HN.out.mono ?_); rintro e w1 ⟨rfl, rfl⟩)
  go_loopw [2, 12] (fun v i wr => ∃ j q xs, j ≤ dn.length ∧ i = .int .i64 (j : Nat) ∧ OwnR w wr (dn.take j) v q xs ∧ Touch (fun _ => False) w wr) (fun _ i _ => dn.length - (intOf i).toNat)
  case atStart => exact ⟨0, none, [], by omega, rfl, ⟨Own.nil _ _ _, rfl, (fun _ h => by cases h), (fun _ e => by cases e)⟩, Touch.refl _ _⟩
  case round =>
    obtain ⟨j, q, xs, hj, rfl, hO, hT⟩ := hrel
    have HO := Lib.hid hO
    have HT := Lib.hid hT
    obtain ⟨A1, c1, hv1, -⟩ := hO.own.form
    rw [List.length_take, Nat.min_eq_left hj] at hv1
    subst hv1
    clear hO hT
    by_cases hjk : j < dn.length
    · obtain ⟨x, hx⟩ : ∃ x, M.xs[j]? = some x := ⟨_, List.getElem?_eq_getElem (by omega)⟩
      have hxm : x ∈ M.xs := List.mem_of_getElem? hx
      have hdm : (x.c, x.a) ∈ dn := by rw [← HX.out]; exact List.mem_map.2 ⟨x, hxm, rfl⟩
      obtain ⟨hfit, hfl⟩ := HFit.out _ hdm
      simp only at hfit hfl
      obtain ⟨g0, rfl, hq0, hrg⟩ := HOwn.out.at27 hx
      have hrow := ((HA.out.xr x hxm).touch HT.out (fun _ _ e => e))
      obtain ⟨w1, hw1⟩ : ∃ w1, w1 = wr.alloc (.cells x.arr 56) := ⟨_, rfl⟩
      have HW1 := Lib.hid hw1
      have hT1 : Touch (fun _ => False) wr w1 := hw1 ▸ (Touch.refl _ wr).alloc _
      have HB1 := Lib.hid (show Blk w1.drew wr.heap.size 56 x.arr from (Touch.refl (fun _ => False) w1).drew.blk (hw1 ▸ Blk.new wr _ _) (fun e => e))
      have HO1 := Lib.hid (HO.out.far hT1.drew)
      have HT1 := Lib.hid (HT.out.trans hT1.drew (fun _ _ e => e))
      have HRow := Lib.hid (hrow.touch hT1.drew (fun _ _ e => e))
      have HRg := Lib.hid (show wr.rangeAt g0 (j * 27) x.arr.toList from fun k u hk => (HT.out.cell (p := ⟨g0, j * 27 + k, none⟩) (HqL.out g0 hq0) (fun e => e)).trans (hrg k u hk))
      have HXn := Lib.hid x.size
      have HX1 := Lib.hid x.one
      have HEc := Lib.hid x.ex_c
      have HEa := Lib.hid x.ex_a
      have HFt := Lib.hid hfit
      have hzw := HT.out.size
      have hzw1 : wr.heap.size < w1.heap.size := by rw [hw1]; simp
      have HNx := Lib.hid (take_p HX.out hx)
      have hql := HO.out.own.lt
      have HQl := Lib.hid hql
      generalize hXA : x.arr = XA at *
      clear hxm hdm hrow hw1 hT1 hrg hql hx hq0
      go_wp2_with (first
        | (refine loadC rowRs _ rfl rfl g0 (j * 27) rfl XA HXn.out HRg.out ?_)
        | (refine storeC rowRs _ _ rfl rfl wr _ XA rfl rfl rfl (by kernel_rfl) HXn.out HX1.out ?_))
      rw [← HW1.out]
      have HCp := Lib.hid (show ∀ w3, Rd w3 (fun k => k < w3.heap.size) x.E x.a.fired.length (x.a.fired.map U64) → Calls Try.prog 28 #[.agg (rpA x.a x.E x.e)] w3 fun e w' => ∃ g3, e = .returned (.agg (rpA x.a (some ⟨g3, 0, none⟩) x.a.fired.length)) ∧ Blk w' g3 27 (x.a.fired.map U64).toArray ∧ w3.heap.size ≤ g3 ∧ Touch (fun _ => False) w3 w' from fun w3 h3 => copy_any x.a x.E x.e w3 h3 hfl)
      have HCo := Lib.hid (fun w3 hr3 hG3 => copied_any F x.A x.B x.D x.k x.m x.n x.c HFt.out w3 hr3 hG3)
      have HRn := Lib.hid (rpA_size x.a x.E x.e)
      have HCn := Lib.hid (cmA_size x.c x.A x.B x.D x.k x.m x.n)
      generalize rpA x.a x.E x.e = R14 at *
      generalize cmA x.c x.A x.B x.D x.k x.m x.n = X13 at *
      have hqn : q ≠ some wr.heap.size := fun e => by have := HQl.out _ e; omega
      refine wp_region_plan [(0, 1), (1, 2), (1, 0), (1, 4), (1, 5), (2, 3), (2, 6), (0, 7), (2, 8), (2, 9), (0, 10)] (fun k => q = some k) (by kernel_rfl) (by kernel_rfl) (fun c a d v w h => by cases d <;> exact h) ?_
      iterate 1
        refine plan_s1 rfl (by rfl) (fun Kc hKc => ?_)
        go_simp
        first
          | (refine hKc _ ?_)
        clear hKc Kc
      refine plan_hC rowCm rfl _ rfl rfl wr.heap.size 0 rfl X13 HCn.out (fun wh hT => by
        have := (hT.blk HB1.out hqn).range 0 13
        rw [HEc.out] at this; exact this) ?_
      go_simp
      iterate 1
        apply plan_h
        · rfl
        · rfl
        · intro wh hT
          go_simp
          try rfl
        go_frame
      go_simp
      iterate 1
        apply plan_h
        · rfl
        · rfl
        · intro wh hT
          go_simp
          try rfl
        go_frame
      go_simp
      refine plan_hC rowRy rfl _ rfl rfl wr.heap.size 13 rfl R14 HRn.out (fun wh hT => by
        have := (hT.blk HB1.out hqn).range 13 14
        rw [HEa.out] at this; exact this) ?_
      go_simp
      refine plan_a1 rfl (by rfl) (fun Kc hKc => ?_)
      go_simp
      refine (HCo.out _ (by exact HRow.out.cm) (fun b hb => by have := HF.out b hb; have : w1.drew.heap.size = w1.heap.size := rfl; omega)).mono ?_
      rintro e w5 ⟨A5, B5, D5, k5, m5, n5, rfl, hr5, t5⟩
      refine hKc _ _ ⟨t5.mono (fun _ _ e => e.elim), ?_⟩
      clear hKc Kc
      have HR5 := Lib.hid hr5
      have HT5 := Lib.hid t5
      have hw1d : w1.drew.heap.size = w1.heap.size := rfl
      have hz5 := t5.size
      clear hr5 t5
      refine plan_a1 rfl (by rfl) (fun Kc hKc => ?_)
      go_simp
      refine (HCp.out _ (by exact (HRow.out.rp.touch HT5.out (fun _ _ e => e)).mono (fun b hb => by have := HF.out b hb; omega))).mono ?_
      rintro e w6 ⟨g3, rfl, hb3, hg3, t6⟩
      refine hKc _ _ ⟨t6.mono (fun _ _ e => e.elim), ?_⟩
      clear hKc Kc
      have HT6 := Lib.hid t6
      have HB3 := Lib.hid hb3
      have hz6 := t6.size
      have hl3 := hb3.lt
      clear hb3 t6
      simp only [cmA, rpA]
      iterate 1
        refine plan_s1 rfl (by rfl) (fun Kc hKc => ?_)
        go_simp
        first
          | (refine hKc _ ?_)
        clear hKc Kc
      obtain ⟨V, hV⟩ : ∃ V : ResV, V = ⟨x.c, x.a, A5, B5, D5, some ⟨g3, 0, none⟩, k5, m5, n5, x.a.fired.length⟩ := ⟨_, rfl⟩
      have hVa : V.arr = #[.int .i64 x.c.kind, .int .u64 x.c.client, .int .u64 x.c.req, .int .u64 x.c.id, .int .i64 x.c.con, .int .i64 x.c.at_, .int .i64 x.c.cal.off, .slice A5 x.c.cal.wk.length k5, .slice B5 x.c.cal.cl.length m5, .int .i64 x.c.tm.cal, .slice D5 x.c.tm.lv.length n5, .int .i64 x.c.tm.rt, .int .i64 x.c.tm.bk, .int .i64 x.a.code, .int .i64 x.a.time, .int .u64 x.a.t.id, .int .i64 x.a.t.contract, .int .i64 x.a.t.state, .int .i64 x.a.t.level, .int .u64 x.a.t.gen, .int .i64 x.a.t.from_, .int .i64 x.a.t.left, .int .i64 x.a.t.due, .int .i64 x.a.t.told, .slice (some ⟨g3, 0, none⟩) x.a.fired.length x.a.fired.length, .int .u64 x.a.notice, .int .i64 x.a.dead] := by rw [hV]; rfl
      have HBn := Lib.hid (show Blk (w6.alloc (.cells #[.int .i64 x.c.kind, .int .u64 x.c.client, .int .u64 x.c.req, .int .u64 x.c.id, .int .i64 x.c.con, .int .i64 x.c.at_, .int .i64 x.c.cal.off, .slice A5 x.c.cal.wk.length k5, .slice B5 x.c.cal.cl.length m5, .int .i64 x.c.tm.cal, .slice D5 x.c.tm.lv.length n5, .int .i64 x.c.tm.rt, .int .i64 x.c.tm.bk, .int .i64 x.a.code, .int .i64 x.a.time, .int .u64 x.a.t.id, .int .i64 x.a.t.contract, .int .i64 x.a.t.state, .int .i64 x.a.t.level, .int .u64 x.a.t.gen, .int .i64 x.a.t.from_, .int .i64 x.a.t.left, .int .i64 x.a.t.due, .int .i64 x.a.t.told, .slice (some ⟨g3, 0, none⟩) x.a.fired.length x.a.fired.length, .int .u64 x.a.notice, .int .i64 x.a.dead] 56)) w6.heap.size 56 V.arr from hVa ▸ Blk.new w6 56 V.arr)
      have HO6 := Lib.hid ((HO1.out.far HT5.out).far HT6.out)
      have HO7 := Lib.hid (HO6.out.far ((Touch.refl (fun _ => False) w6).alloc (.cells #[.int .i64 x.c.kind, .int .u64 x.c.client, .int .u64 x.c.req, .int .u64 x.c.id, .int .i64 x.c.con, .int .i64 x.c.at_, .int .i64 x.c.cal.off, .slice A5 x.c.cal.wk.length k5, .slice B5 x.c.cal.cl.length m5, .int .i64 x.c.tm.cal, .slice D5 x.c.tm.lv.length n5, .int .i64 x.c.tm.rt, .int .i64 x.c.tm.bk, .int .i64 x.a.code, .int .i64 x.a.time, .int .u64 x.a.t.id, .int .i64 x.a.t.contract, .int .i64 x.a.t.state, .int .i64 x.a.t.level, .int .u64 x.a.t.gen, .int .i64 x.a.t.from_, .int .i64 x.a.t.left, .int .i64 x.a.t.due, .int .i64 x.a.t.told, .slice (some ⟨g3, 0, none⟩) x.a.fired.length x.a.fired.length, .int .u64 x.a.notice, .int .i64 x.a.dead] 56)))
      have HV := Lib.hid hV
      have hlj : (dn.take j).length = j := by rw [List.length_take, Nat.min_eq_left hj]
      clear hV hVa
      refine plan_a1 rfl (by rfl) (fun Kc hKc => ?_)
      go_simp
      refine hKc _ _ ⟨(Touch.refl _ _).alloc _, ?_⟩
      clear hKc Kc
      refine plan_a1 rfl (by rfl) (fun Kc hKc => ?_)
      refine wp_own_append _ _ 53 53 rfl 56 i0 _ 27 280 Try.underlying53 hi hz0 hz1 hz2 rfl (.slice A1 j c1) q j (xs.flatMap ResV.cells) rfl (by have := HO7.out.own; rw [hlj] at this; exact this) (.slice (some ⟨w6.heap.size, 0, none⟩) 1 1) 1 V.cells rfl (by exact Src.lit Try.underlying53 w6.heap.size 1 1 56 V.arr HBn.out V.len V.one_mem) (by simp only [maxLen]; omega) (by omega) ?_
      intro v8 r8 w8 ho8 t8 hr8
      refine hKc _ _ ⟨t8, ?_⟩
      clear hKc Kc
      have HO8 := Lib.hid ho8
      have HT8 := Lib.hid t8
      have HR8 := Lib.hid hr8
      obtain ⟨A8, c8, hv8, -⟩ := ho8.form
      subst hv8
      clear ho8 t8 hr8
      go_simp
      iterate 1
        refine plan_s1 rfl (by rfl) (fun Kc hKc => ?_)
        go_simp
        first
          | (refine hKc _ ?_)
        clear hKc Kc
      refine plan_done ?_
      go_wp2_with fail
      go_roundw
      case rel =>
        refine ⟨j + 1, r8, xs ++ [V], by omega, by go_num, ?_, ?_⟩
        · have hlj1 : (dn.take (j + 1)).length = j + 1 := by rw [List.length_take, Nat.min_eq_left (by omega)]
          have hr8 : ∀ b, r8 = some b → (q = some b ∨ w6.heap.size < b + 1) := by
            intro b hb
            rcases HR8.out with e | ⟨b', e, hb'⟩
            · exact .inl (e ▸ hb)
            · rw [e] at hb; injection hb with hb; subst hb; simp at hb'; exact .inr (by omega)
          have hT68 : Touch (fun b => q = some b) w6 w8 := ((Touch.refl (fun b => q = some b) w6).alloc _).trans HT8.out (fun _ _ e => e)
          have hz8 := hT68.size
          refine ⟨by rw [hlj1, List.flatMap_append]; simpa [ResV.cells] using HO8.out, by rw [List.map_append, HO.out.eqs, HNx.out, HV.out]; rfl, ?_, ?_⟩
          · intro z hz
            rcases List.mem_append.1 hz with hz | hz
            · refine ((HO6.out.rows z hz).touch hT68 (fun b hb e => hb.2.2 e)).mono (fun b hb => ⟨hb.1, by omega, fun e => ?_⟩)
              rcases hr8 b e with h | h
              · exact hb.2.2 h
              · omega
            · obtain rfl : z = V := by simpa using hz
              have hlast : ∀ b, wr.heap.size < b → b < w6.heap.size → ¬ q = some b ∧ r8 ≠ some b := by
                intro b h1 h2
                have hq' : ¬ q = some b := fun e => by have := HQl.out b e; omega
                refine ⟨hq', fun e => ?_⟩
                rcases hr8 b e with h | h
                · exact hq' h
                · omega
              have hc := ((HR5.out.touch HT6.out (fun _ _ e => e)).touch hT68 (fun b hb e => (hlast b (by omega) (by omega)).1 e))
              have hb3 := hT68.blk HB3.out (fun e => (hlast g3 (by omega) hl3).1 e)
              have hl8 := hb3.lt
              have e := HV.out
              subst e
              exact ⟨hc.mono (fun b hb => ⟨by omega, by omega, (hlast b (by omega) (by omega)).2⟩), ⟨by simp, fun _ => ⟨g3, 0, rfl, hl8, ⟨by omega, by omega, (hlast g3 (by omega) hl3).2⟩, fun k u hk => by rw [Nat.zero_add]; exact (hb3.cell k).trans (by simpa using hk)⟩⟩⟩
          · intro b hb
            rcases hr8 b hb with h | h
            · exact HO.out.ge b h
            · omega
        · exact ((HT1.out.trans HT5.out (fun _ _ e => e)).trans HT6.out (fun _ _ e => e)).trans (((Touch.refl (fun b => q = some b) w6).alloc _).trans HT8.out (fun _ _ e => e)) (fun b hb e => by have := HO.out.ge b e; omega)
      case measure => simp [intOf]; omega
    · obtain rfl : j = dn.length := by omega
      go_wp2_with fail
      go_ret
      exact ⟨_, q, xs, rfl, by have := HO.out; rw [List.take_length] at this; exact this, HT.out⟩
end Go.Proofs.Ytlcefchbfjfifaa
