/- The reference's client: Hear, all of it; Same. law38.results. Both clients in a law; law38.do. law38.do: Tick, Want. -/
import Derived.Test.YtlcefchbfjfifaaVCnW
import Derived.Test.YtlcefchbfjfifaaVCnN
section
namespace Go.Proofs.Ytlcefchbfjfifaa
open Go.RowKit Cal
set_option maxHeartbeats 4000000
set_option maxRecDepth 100000
set_option linter.unusedVariables false
attribute [local irreducible] wpPlan

theorem fhear_any {w : World} {c : Cl} {M : RfM} {F : Nat → Prop} (h : RfR w F c M) (ok : c.Ok) (AC : Array Value) (r : RpV) (RA : Option Addr) (rn ac ar : Nat) (code : Int) (hA : AnC AC (rpA r RA rn) ac ar code) (G : Nat → Prop) (hr : Rd w G RA r.fired.length (r.fired.map U64)) (hdl : c.done.length ≤ 100000) (hFl : ∀ q, F q → q < w.heap.size) :
    Calls Try.prog 25 #[.agg (rfC c M), .agg AC] w (FhP (c.hearB ac ar code) (c.hear ac ar code r) F G w) := by
  cases hm : c.mine ac ar
  · have e1 : c.hearB ac ar code = false := by rw [Cl.hearB, hm]; rfl
    have e2 : c.hear ac ar code r = c := by
      unfold Cl.hear
      split
      · rfl
      · rw [if_neg (by rw [hm]; simp)]
    rw [e1, e2]
    exact fhear_no h AC _ ac ar code hA G hm
  obtain ⟨x, hb⟩ : ∃ x, c.busy = some x := by
    unfold Cl.mine at hm
    cases hb : c.busy with
    | none => rw [hb] at hm; cases hm
    | some x => exact ⟨x, rfl⟩
  obtain ⟨hac, har⟩ : ac = c.number ∧ ar = c.req := by
    unfold Cl.mine at hm
    simp only [Bool.and_eq_true, decide_eq_true_eq] at hm
    exact hm.2
  have e1 : c.hearB ac ar code = decide (code = 0) := by rw [Cl.hearB, hm, Bool.true_and]
  have e2 : c.hear ac ar code r = if code = 0 then { c with busy := none, done := c.done ++ [(x, r)] } else c.nxt := by
    unfold Cl.hear
    rw [hb]
    simp only
    rw [if_pos hm]
  rw [e1, e2]
  subst hac har
  by_cases hcd : code = 0
  · subst hcd
    rw [if_pos rfl]
    exact PF.fhear_yes h AC r RA rn hA G hr hdl hFl x hb
  · rw [if_neg hcd, show decide (code = 0) = false by simp [hcd]]
    exact fhear_err h ok AC _ code hA G (by rw [hb]; rfl) hcd
theorem range_app {w : World} {b o n : Nat} {l p q : List Value} (h : w.rangeAt b o l) (e : l = p ++ q) (hp : p.length = n) : w.rangeAt b o p ∧ w.rangeAt b (o + n) q := by
  subst e hp
  refine ⟨fun k u hk => h k u ?_, fun k u hk => ?_⟩
  · rw [List.getElem?_append_left (List.getElem?_eq_some_iff.1 hk).1]; exact hk
  · rw [Nat.add_assoc]
    exact h (p.length + k) u (by rw [List.getElem?_append_right (by omega), Nat.add_sub_cancel_left]; exact hk)
theorem ResV.split (x : ResV) : x.arr.toList = (cmA x.c x.A x.B x.D x.k x.m x.n).toList ++ (rpA x.a x.E x.e).toList := by simp [ResV.arr]
/-- A row of results whose parts are small. -/
def SmallR (xs : List ResV) : Prop := ∀ x ∈ xs, x.c.cal.wk.length ≤ 1000000 ∧ x.c.cal.cl.length ≤ 1000000 ∧ x.c.tm.lv.length ≤ 1000000 ∧ (-9223372036854775808 ≤ x.c.at_ ∧ x.c.at_ ≤ 9223372036854775807) ∧ x.a.fired.length ≤ 1000000
theorem rpSame_self (a : RpV) : rpSame a a = true := by simp [rpSame, rpPlain, tkEq]
theorem fsame38_yes (F F' F2 F2' : Nat → Prop) (A A' : Option Addr) (c c' : Nat) (xs ys : List ResV) (w : World) (hr : RdZ w F 27 A xs.length (xs.flatMap ResV.cells)) (hr' : RdZ w F' 27 A' ys.length (ys.flatMap ResV.cells)) (hx : ∀ x ∈ xs, ResR w F2 x) (hy : ∀ y ∈ ys, ResR w F2' y) (he : xs.map ResV.p = ys.map ResV.p) (hs : SmallR xs) (hl : xs.length ≤ 1000000) :
    Calls Try.prog 37 #[.slice A xs.length c, .slice A' ys.length c'] w fun e w' => e = .returned (.bool true) ∧ Touch (fun _ => False) w w' := by
  have hly : ys.length = xs.length := by have := congrArg List.length he; simpa using this.symm
  rw [hly] at hr' ⊢
  have HR := Lib.hid hr
  have HR' := Lib.hid hr'
  have HX := Lib.hid hx
  have HY := Lib.hid hy
  have HE := Lib.hid he
  have HS := Lib.hid hs
  clear hr hr' hx hy he hs
  obtain ⟨N, hN⟩ : ∃ N, N = xs.length := ⟨_, rfl⟩
  rw [← hN] at HR HR' hl ⊢
  go_enter Try.func37, Try.ntmps37
  go_wp2_with fail
  go_loopw [5] (fun i wr => ∃ j : Nat, j ≤ N ∧ i = .int .i64 j ∧ Touch (fun _ => False) w wr) (fun i _ => N - (intOf i).toNat)
  case atStart => exact ⟨0, by omega, rfl, Touch.refl _ _⟩
  case round =>
    obtain ⟨j, hj, rfl, hT⟩ := hrel
    have HT := Lib.hid hT
    by_cases hjk : j < N
    · obtain ⟨x, hx⟩ : ∃ x, xs[j]? = some x := ⟨_, List.getElem?_eq_getElem (by omega)⟩
      obtain ⟨y, hy⟩ : ∃ y, ys[j]? = some y := ⟨_, List.getElem?_eq_getElem (by omega)⟩
      have hxm := List.mem_of_getElem? hx
      have hym := List.mem_of_getElem? hy
      have hp : (x.c, x.a) = (y.c, y.a) := by
        have h1 : (xs.map ResV.p)[j]? = some (x.c, x.a) := by rw [List.getElem?_map, hx]; rfl
        have h2 : (ys.map ResV.p)[j]? = some (y.c, y.a) := by rw [List.getElem?_map, hy]; rfl
        rw [HE.out, h2] at h1
        injection h1 with h1
        exact h1.symm
      obtain ⟨hpc, hpa⟩ := Prod.mk.injEq .. ▸ hp
      obtain ⟨s1, s2, s3, s4, s5⟩ := HS.out x hxm
      obtain ⟨a, off, rfl, hal, -, hc⟩ := (HR.out.touch hT (fun _ _ e => e)).at_ (fun a _ => a.len) hN.symm hx
      obtain ⟨a', off', rfl, hal', -, hc'⟩ := (HR'.out.touch hT (fun _ _ e => e)).at_ (fun a _ => a.len) (hly.trans hN.symm) hy
      have hrx := (HX.out x hxm).touch hT (fun _ _ e => e)
      have hry := (HY.out y hym).touch hT (fun _ _ e => e)
      have HSc := Lib.hid (fun w1 (t : Touch (fun _ => False) wr w1) => (show Calls Try.prog 12 #[.agg (cmA x.c x.A x.B x.D x.k x.m x.n), .agg (cmA y.c y.A y.B y.D y.k y.m y.n)] w1 fun e w' => e = .returned (.bool true) ∧ Touch (fun _ => False) w1 w' from by
        have := fcmsame_any F2 F2' x.A x.B x.D y.A y.B y.D x.k x.m x.n y.k y.m y.n x.c y.c w1 (hrx.cm.touch t (fun _ _ e => e)) (hry.cm.touch t (fun _ _ e => e)) s1 s2 s3 s4 (hpc ▸ s4)
        rw [show sameCm x.c y.c = true from hpc ▸ sameCm_self _] at this
        exact this))
      have HSa := Lib.hid (fun w1 (t : Touch (fun _ => False) wr w1) => (show Calls Try.prog 59 #[.agg (rpA x.a x.E x.e), .agg (rpA y.a y.E y.e)] w1 fun e w' => e = .returned (.bool true) ∧ Touch (fun _ => False) w1 w' from by
        have := rsameR_any F2 F2' x.E y.E x.e y.e x.a y.a w1 (hrx.rp.touch t (fun _ _ e => e)) (hry.rp.touch t (fun _ _ e => e)) s5
        rw [show rpSame x.a y.a = true from hpa ▸ rpSame_self _] at this
        exact this))
      have HRg := Lib.hid (show ∀ w1, Touch (fun _ => False) wr w1 → w1.rangeAt a (off + j * 27) x.arr.toList from fun w1 t k u hk => by rw [Nat.add_assoc]; exact (t.cell (p := ⟨a, off + (j * 27 + k), none⟩) hal (fun e => e)).trans (hc k u hk))
      have HRg' := Lib.hid (show ∀ w1, Touch (fun _ => False) wr w1 → w1.rangeAt a' (off' + j * 27) y.arr.toList from fun w1 t k u hk => by rw [Nat.add_assoc]; exact (t.cell (p := ⟨a', off' + (j * 27 + k), none⟩) hal' (fun e => e)).trans (hc' k u hk))
      have HCx := Lib.hid (show ∀ w1, Touch (fun _ => False) wr w1 → w1.rangeAt a (off + j * 27) (cmA x.c x.A x.B x.D x.k x.m x.n).toList from fun w1 t => (range_app (HRg.out w1 t) x.split (n := 13) (by rw [Array.length_toList, cmA_size])).1)
      have HCy := Lib.hid (show ∀ w1, Touch (fun _ => False) wr w1 → w1.rangeAt a' (off' + j * 27) (cmA y.c y.A y.B y.D y.k y.m y.n).toList from fun w1 t => (range_app (HRg'.out w1 t) y.split (n := 13) (by rw [Array.length_toList, cmA_size])).1)
      have HAx := Lib.hid (show ∀ w1, Touch (fun _ => False) wr w1 → w1.rangeAt a (off + j * 27 + 13) (rpA x.a x.E x.e).toList from fun w1 t => (range_app (HRg.out w1 t) x.split (n := 13) (by rw [Array.length_toList, cmA_size])).2)
      have HAy := Lib.hid (show ∀ w1, Touch (fun _ => False) wr w1 → w1.rangeAt a' (off' + j * 27 + 13) (rpA y.a y.E y.e).toList from fun w1 t => (range_app (HRg'.out w1 t) y.split (n := 13) (by rw [Array.length_toList, cmA_size])).2)
      have HCn := Lib.hid (cmA_size x.c x.A x.B x.D x.k x.m x.n)
      have HCn' := Lib.hid (cmA_size y.c y.A y.B y.D y.k y.m y.n)
      have HRn := Lib.hid (rpA_size x.a x.E x.e)
      have HRn' := Lib.hid (rpA_size y.a y.E y.e)
      generalize cmA x.c x.A x.B x.D x.k x.m x.n = X13 at *
      generalize cmA y.c y.A y.B y.D y.k y.m y.n = Y13 at *
      generalize rpA x.a x.E x.e = X14 at *
      generalize rpA y.a y.E y.e = Y14 at *
      have HTd := Lib.hid ((Touch.refl (fun _ => False) wr).drew)
      clear hx hy hxm hym hp hpc hpa s1 s2 s3 s4 s5 hc hc' hrx hry hT hN HRg HRg'
      go_wp2_with fail
      refine wp_region_plan [(0, 0), (0, 1), (0, 2), (0, 3), (1, 4), (0, 5), (0, 6), (0, 7), (0, 8), (1, 9), (2, 10), (0, 11), (0, 12), (0, 13), (0, 14), (0, 15), (0, 16), (1, 17), (0, 18), (0, 19), (0, 20), (0, 21), (1, 22), (2, 23), (0, 24), (0, 25)] (fun _ => False) (by kernel_rfl) (by kernel_rfl) (fun c a d v w h => by cases d <;> exact h) ?_
      iterate 4
        refine plan_s1 rfl (by rfl) (fun Kc hKc => ?_)
        go_simp
        first
          | (refine hKc _ ?_)
        clear hKc Kc
      refine plan_hC rowCm rfl _ rfl rfl a (off + j * 27) rfl X13 HCn.out (fun wh hT => HCx.out wh (HTd.out.trans hT (fun _ _ e => e))) ?_
      go_simp
      iterate 4
        refine plan_s1 rfl (by rfl) (fun Kc hKc => ?_)
        go_simp
        first
          | (refine hKc _ ?_)
        clear hKc Kc
      refine plan_hC rowCm rfl _ rfl rfl a' (off' + j * 27) rfl Y13 HCn'.out (fun wh hT => HCy.out wh (HTd.out.trans hT (fun _ _ e => e))) ?_
      go_simp
      refine plan_a1 rfl (by rfl) (fun Kc hKc => ?_)
      go_simp
      refine (HSc.out _ (by exact HTd.out)).mono ?_
      rintro e w2 ⟨rfl, t2⟩
      refine hKc _ _ ⟨t2, ?_⟩
      clear hKc Kc
      have HT2 := Lib.hid (HTd.out.trans t2 (fun _ _ e => e))
      clear t2
      iterate 6
        refine plan_s1 rfl (by rfl) (fun Kc hKc => ?_)
        go_simp
        first
          | (refine hKc _ ?_)
        clear hKc Kc
      refine plan_hC rowRy rfl _ rfl rfl a (off + j * 27 + 13) rfl X14 HRn.out (fun wh hT => HAx.out wh (HT2.out.trans hT (fun _ _ e => e))) ?_
      go_simp
      iterate 4
        refine plan_s1 rfl (by rfl) (fun Kc hKc => ?_)
        go_simp
        first
          | (refine hKc _ ?_)
        clear hKc Kc
      refine plan_hC rowRy rfl _ rfl rfl a' (off' + j * 27 + 13) rfl Y14 HRn'.out (fun wh hT => HAy.out wh (HT2.out.trans hT (fun _ _ e => e))) ?_
      go_simp
      refine plan_a1 rfl (by rfl) (fun Kc hKc => ?_)
      go_simp
      refine (HSa.out _ (by exact HT2.out)).mono ?_
      rintro e w3 ⟨rfl, t3⟩
      refine hKc _ _ ⟨t3, ?_⟩
      clear hKc Kc
      have HT3 := Lib.hid (HT2.out.trans t3 (fun _ _ e => e))
      clear t3
      iterate 2
        refine plan_s1 rfl (by rfl) (fun Kc hKc => ?_)
        go_simp
        first
          | (refine hKc _ ?_)
        clear hKc Kc
      refine plan_done ?_
      go_wp2_with fail
      go_roundw
      case rel => exact ⟨j + 1, by omega, by go_num, HT.out.trans HT3.out (fun _ _ e => e)⟩
      case measure => simp [intOf]; omega
    · obtain rfl : j = N := by omega
      go_wp2_with fail
      go_ret
      exact ⟨rfl, HT.out⟩
end Go.Proofs.Ytlcefchbfjfifaa
end

section
namespace Go.Proofs.Ytlcefchbfjfifaa
open Go.RowKit Cal
set_option maxHeartbeats 4000000
set_option maxRecDepth 100000
set_option linter.unusedVariables false
attribute [local irreducible] wpPlan

theorem rowRfR : RowT 117 27 := ⟨⟨_, Try.underlying117, rfl⟩, by kernel_rfl⟩
theorem foldR (x : ResV) : Array.foldl (fun cs x => cs.setIfInBounds x.snd x.fst) #[.int .i64 0, .int .u64 0, .int .u64 0, .int .u64 0, .int .i64 0, .int .i64 0, .int .i64 0, .slice none 0 0, .slice none 0 0, .int .i64 0, .slice none 0 0, .int .i64 0, .int .i64 0, .int .i64 0, .int .i64 0, .int .u64 0, .int .i64 0, .int .i64 0, .int .i64 0, .int .u64 0, .int .i64 0, .int .i64 0, .int .i64 0, .int .i64 0, .slice none 0 0, .int .u64 0, .int .i64 0] x.arr.zipIdx 0 27 = x.arr := by
  simp [ResV.arr, cmA, rpA]
/-- The same results as the reference's: a row of the call's own with the same cells. -/
theorem results38_any (F : Nat → Prop) (A : Option Addr) (c : Nat) (xs : List ResV) (w : World) (hr : RdZ w F 27 A xs.length (xs.flatMap ResV.cells)) (hl : xs.length ≤ 100000) :
    Calls Try.prog 38 #[.slice A xs.length c] w fun e w' => ∃ A' c', e = .returned (.slice A' xs.length c') ∧ RdZ w' (fun k => w.heap.size ≤ k) 27 A' xs.length (xs.flatMap ResV.cells) ∧ Touch (fun _ => False) w w' := by
  have HR := Lib.hid hr
  obtain ⟨i0, hi, hz0, hz1, hz2⟩ := info_parts infoRf
  clear hr
  go_enter Try.func38, Try.ntmps38
  go_wp2_with fail
  go_loopw [3, 8] (fun v i wr => ∃ j q, j ≤ xs.length ∧ i = .int .i64 (j : Nat) ∧ Own wr 117 27 v q j ((xs.take j).flatMap ResV.cells) ∧ (∀ k, q = some k → w.heap.size ≤ k) ∧ Touch (fun _ => False) w wr) (fun _ i _ => xs.length - (intOf i).toNat)
  case atStart => exact ⟨0, none, by omega, rfl, Own.nil _ _ _, (fun _ e => by cases e), Touch.refl _ _⟩
  case round =>
    obtain ⟨j, q, hj, rfl, hO, hq, hT⟩ := hrel
    have HO := Lib.hid hO
    have HT := Lib.hid hT
    have HQ := Lib.hid hq
    obtain ⟨A1, c1, hv1, -⟩ := hO.form
    subst hv1
    clear hO hq
    by_cases hjk : j < xs.length
    · obtain ⟨x, hx⟩ : ∃ x, xs[j]? = some x := ⟨_, List.getElem?_eq_getElem (by omega)⟩
      obtain ⟨a, off, rfl, hal, -, hc⟩ := (HR.out.touch hT (fun _ _ e => e)).at_ (fun a _ => a.len) rfl hx
      have HRg := Lib.hid (show wr.rangeAt a (off + j * 27) x.arr.toList from fun k u hk => by rw [Nat.add_assoc]; exact hc k u hk)
      have HNx := Lib.hid (show (xs.take (j + 1)).flatMap ResV.cells = (xs.take j).flatMap ResV.cells ++ x.cells by
        rw [List.take_add_one, hx, List.flatMap_append]; simp)
      have HXn := Lib.hid x.size
      have HX1 := Lib.hid x.one
      have HXl := Lib.hid x.len
      have HXm := Lib.hid x.one_mem
      have HXc := Lib.hid (show x.cells = x.arr.toList from rfl)
      have HXj := Lib.hid hx
      have HFo := Lib.hid (foldR x)
      have hxn := x.size
      clear hc hx hT
      generalize x.arr = XA at *
      generalize x.cells = XL at *
      have HQl := Lib.hid HO.out.lt
      have ta := (Touch.refl (fun _ => False) wr).alloc (.cells XA 56)
      have tb := ta.alloc (.cells XA 117)
      have HB := Lib.hid (Blk.new wr 56 XA)
      have HB2 := Lib.hid (show Blk ((wr.alloc (.cells XA 56)).alloc (.cells XA 117)) (wr.heap.size + 1) 117 XA by
        have := Blk.new (wr.alloc (.cells XA 56)) 117 XA
        simpa using this)
      have HO2 := Lib.hid (HO.out.touch tb (fun _ _ e => e))
      have HTb := Lib.hid tb
      clear ta tb
      go_wp2_with (first
        | (refine loadC rowRs _ rfl rfl a (off + j * 27) rfl XA HXn.out HRg.out ?_)
        | (refine storeC rowRs _ _ rfl rfl wr _ XA rfl rfl rfl (by kernel_rfl) HXn.out HX1.out ?_)
        | ((with_reducible apply HB.out.ld rowRs HXn.out); exact rfl; exact rfl; exact rfl)
        | (at_builtin
           rw [HFo.out]
           go_must (refine wpList_own_append rfl _ _ 36 36 rfl 117 i0 _ 27 280 Try.underlying36 hi hz0 hz1 hz2 rfl _ q j ((xs.take j).flatMap ResV.cells) rfl (by exact HO2.out) _ 1 XL rfl (by rw [HXc.out]; exact Src.lit Try.underlying36 (wr.heap.size + 1) 1 1 117 XA HB2.out (by rw [← HXc.out]; exact HXl.out) HXm.out) (by simp only [maxLen]; omega) (by omega) ?_)
           intro v8 r8 w8 ho8 t8 hr8
           have HO8 := Lib.hid ho8
           have HT8 := Lib.hid t8
           have HR8 := Lib.hid hr8
           obtain ⟨A8, c8, hv8, -⟩ := ho8.form
           subst hv8
           clear ho8 t8 hr8))
      go_roundw
      case rel =>
        refine ⟨j + 1, r8, by omega, by go_num, by rw [HNx.out]; exact HO8.out, fun k hk => ?_, (HT.out.trans HTb.out (fun _ _ e => e)).trans HT8.out (fun k hk e => by have := HQ.out k e; omega)⟩
        rcases HR8.out with e | ⟨k', e, hk'⟩
        · exact HQ.out k (e ▸ hk)
        · rw [e] at hk; injection hk with hk; subst hk
          have := HT.out.size
          have := HTb.out.size
          omega
      case measure => simp [intOf]; omega
    · obtain rfl : j = xs.length := by omega
      go_wp2_with fail
      go_ret
      refine ⟨A1, c1, rfl, ?_, HT.out⟩
      obtain ⟨A', c', hv, -, -, -, hz⟩ := HO.out.full
      injection hv with e1 e2 e3
      subst e1
      rw [List.take_length] at hz
      exact hz.mono' (fun k hk => HQ.out k hk)
end Go.Proofs.Ytlcefchbfjfifaa
end

section
namespace Go.Proofs.Ytlcefchbfjfifaa
open Go.RowKit Cal
set_option maxHeartbeats 4000000
set_option maxRecDepth 100000
set_option linter.unusedVariables false
attribute [local irreducible] wpPlan

/-- The client and the document's, in a law; Z: blocks of the law's own that neither has. -/
structure BoL (w0 w : World) (g : Nat) (c : Cl) (M : ClM) (F : Nat → Prop) (cr : Cl) (Mr : RfM) (Fr : Nat → Prop) (Z : Nat → Prop) : Prop where
  cv : CvL w0 w g c M F
  rf : RfR w Fr cr Mr
  fr : ∀ k, Fr k → k < w.heap.size ∧ k ≠ g ∧ M.q ≠ some k ∧ ¬ Z k
  z : ∀ k, Z k → k < w.heap.size ∧ w0.heap.size ≤ k ∧ k ≠ g ∧ M.q ≠ some k ∧ ¬ F k
theorem BoL.far {w0 w w' : World} {g : Nat} {c cr : Cl} {M : ClM} {F : Nat → Prop} {Mr : RfM} {Fr Z : Nat → Prop} (h : BoL w0 w g c M F cr Mr Fr Z) (t : Touch (fun _ => False) w w') : BoL w0 w' g c M F cr Mr Fr Z :=
  ⟨h.cv.far t, h.rf.touch t (fun _ _ e => e), fun k hk => ⟨Nat.lt_of_lt_of_le (h.fr k hk).1 t.size, (h.fr k hk).2⟩, fun k hk => ⟨Nat.lt_of_lt_of_le (h.z k hk).1 t.size, (h.z k hk).2⟩⟩
/-- A step: the document's client has stepped to w1, the client steps from there. -/
theorem BoL.go {w0 w w1 w2 : World} {g : Nat} {c c' cr cr' : Cl} {M : ClM} {F : Nat → Prop} {Mr Mr' : RfM} {Fr Fr' Z : Nat → Prop} {v : Value} {e : Ending} (h : BoL w0 w g c M F cr Mr Fr Z) (t1 : Touch (fun _ => False) w w1) (hR : RfR w1 Fr' cr' Mr') (hf : ∀ k, Fr' k → k < w1.heap.size ∧ (Fr k ∨ k < w0.heap.size ∨ w.heap.size ≤ k)) (hp : ClP v g c' M F w1 e w2) :
    ∃ M' F', e = .returned v ∧ BoL w0 w2 g c' M' F' cr' Mr' Fr' Z ∧ Touch (fun k => k = g ∨ M.q = some k) w1 w2 := by
  obtain ⟨M', F', he, ha, hl, hF, t, hq⟩ := hp
  have h1 := h.cv.far t1
  obtain ⟨M'', F'', he'', hc⟩ := h1.step ⟨M', F', he, ha, hl, hF, t, hq⟩
  have hz1 := t1.size
  have hz2 := t.size
  have hw0 := h.cv.t.size
  have hqn : ∀ k, M'.q = some k → M.q = some k ∨ w1.heap.size ≤ k := by
    intro k hk
    rcases hq with e | ⟨k', e, hk'⟩
    · exact .inl (e ▸ hk)
    · rw [e] at hk; injection hk with hk; subst hk; exact .inr hk'
  have hgl := h.cv.at_.blk.lt
  have hql : ∀ k, M.q = some k → k < w.heap.size := fun k hk => h.cv.at_.own.lt k hk
  have hd : ∀ k, Fr' k → k ≠ g ∧ M.q ≠ some k ∧ ¬ Z k := by
    intro k hk
    rcases (hf k hk).2 with h2 | h2 | h2
    · exact (h.fr k h2).2
    · refine ⟨by have := h.cv.ge; omega, fun e => by have := h.cv.fq k e; omega, fun e => by have := (h.z k e).2.1; omega⟩
    · refine ⟨by omega, fun e => by have := hql k e; omega, fun e => by have := (h.z k e).1; omega⟩
  refine ⟨M', F', he, ⟨⟨ha, hl, h.cv.ge, fun k hk => ?_, (h.cv.t.trans t1 (fun _ _ e => e)).trans t (fun k hk e => ?_)⟩, hR.touch t (fun k hk e => ?_), fun k hk => ⟨Nat.lt_of_lt_of_le (hf k hk).1 hz2, (hd k hk).1, fun e => ?_, (hd k hk).2.2⟩, fun k hk => ?_⟩, t⟩
  · rcases hqn k hk with e | e
    · exact h.cv.fq k e
    · omega
  · rcases e with e | e
    · have := h.cv.ge; omega
    · have := h.cv.fq k e; omega
  · rcases e with e | e
    · exact (hd k hk).1 e
    · exact (hd k hk).2.1 e
  · rcases hqn k e with e | e
    · exact (hd k hk).2.1 e
    · have := (hf k hk).1; omega
  · have hz := h.z k hk
    refine ⟨by omega, hz.2.1, hz.2.2.1, fun e => ?_, fun e => ?_⟩
    · rcases hqn k e with e | e
      · exact hz.2.2.2.1 e
      · omega
    · rcases hF k e with e | e
      · exact hz.2.2.2.2 e
      · omega
/-- A tick. -/
theorem BoL.tick {w0 w w1 : World} {g : Nat} {c cr : Cl} {M : ClM} {F : Nat → Prop} {Mr : RfM} {Fr Z : Nat → Prop} (h : BoL w0 w g c M F cr Mr Fr Z) (ha : ClAt w1 g c.tick M F) (t : Touch (fun k => k = g) w w1) : BoL w0 w1 g c.tick M F cr Mr Fr Z :=
  ⟨h.cv.tick ha t, h.rf.touch t (fun k hk e => (h.fr k hk).2.1 e), fun k hk => ⟨Nat.lt_of_lt_of_le (h.fr k hk).1 t.size, (h.fr k hk).2⟩, fun k hk => ⟨Nat.lt_of_lt_of_le (h.z k hk).1 t.size, (h.z k hk).2⟩⟩
theorem BoL.no {w0 w w' : World} {g : Nat} {c cr : Cl} {M : ClM} {F : Nat → Prop} {Mr : RfM} {Fr Z : Nat → Prop} {S : Nat → Prop} (h : BoL w0 w g c M F cr Mr Fr Z) (t : Touch S w w') (hS : ∀ k, S k → w0.heap.size ≤ k ∧ k ≠ g ∧ M.q ≠ some k ∧ ¬ F k ∧ ¬ Fr k) : BoL w0 w' g c M F cr Mr Fr Z :=
  ⟨⟨h.cv.at_.touch t (fun e => (hS _ e).2.1 rfl) (fun k hk e => (hS k e).2.2.1 hk) (fun k hk e => (hS k e).2.2.2.1 hk), fun k hk => Nat.lt_of_lt_of_le (h.cv.lt k hk) t.size, h.cv.ge, h.cv.fq, h.cv.t.trans t (fun k hk e => by have := (hS k e).1; omega)⟩, h.rf.touch t (fun k hk e => (hS k e).2.2.2.2 hk), fun k hk => ⟨Nat.lt_of_lt_of_le (h.fr k hk).1 t.size, (h.fr k hk).2⟩, fun k hk => ⟨Nat.lt_of_lt_of_le (h.z k hk).1 t.size, (h.z k hk).2⟩⟩
theorem BoL.addZ {w0 w w' : World} {g : Nat} {c cr : Cl} {M : ClM} {F : Nat → Prop} {Mr : RfM} {Fr Z Z' : Nat → Prop} (h : BoL w0 w g c M F cr Mr Fr Z) (t : Touch (fun _ => False) w w') (hz : ∀ k, Z' k → Z k ∨ (w.heap.size ≤ k ∧ k < w'.heap.size)) : BoL w0 w' g c M F cr Mr Fr Z' := by
  have h1 := h.far t
  have hgl := h.cv.at_.blk.lt
  have hw0 := h.cv.t.size
  refine ⟨h1.cv, h1.rf, fun k hk => ⟨(h1.fr k hk).1, (h1.fr k hk).2.1, (h1.fr k hk).2.2.1, fun e => ?_⟩, fun k hk => ?_⟩
  · rcases hz k e with e | e
    · exact (h1.fr k hk).2.2.2 e
    · have := (h.fr k hk).1; omega
  · rcases hz k hk with e | e
    · exact h1.z k e
    · exact ⟨e.2, by omega, by omega, fun e2 => (by have := h.cv.at_.own.lt k e2; omega), fun e2 => (by have := h.cv.lt k e2; omega)⟩
theorem BoL.subZ {w0 w : World} {g : Nat} {c cr : Cl} {M : ClM} {F : Nat → Prop} {Mr : RfM} {Fr Z Z' : Nat → Prop} (h : BoL w0 w g c M F cr Mr Fr Z') (hz : ∀ k, Z k → Z' k) : BoL w0 w g c M F cr Mr Fr Z :=
  ⟨h.cv, h.rf, fun k hk => ⟨(h.fr k hk).1, (h.fr k hk).2.1, (h.fr k hk).2.2.1, fun e => (h.fr k hk).2.2.2 (hz k e)⟩, fun k hk => h.z k (hz k hk)⟩
theorem BoL.zset {w0 w w' : World} {g : Nat} {c cr : Cl} {M : ClM} {F : Nat → Prop} {Mr : RfM} {Fr Z : Nat → Prop} {S : Nat → Prop} (h : BoL w0 w g c M F cr Mr Fr Z) (t : Touch S w w') (hS : ∀ k, S k → Z k) : BoL w0 w' g c M F cr Mr Fr Z :=
  h.no t (fun k hk => ⟨(h.z k (hS k hk)).2.1, (h.z k (hS k hk)).2.2.1, (h.z k (hS k hk)).2.2.2.1, (h.z k (hS k hk)).2.2.2.2, fun e => (h.fr k e).2.2.2 (hS k hk)⟩)
theorem BoL.rtick {w0 w : World} {g : Nat} {c cr : Cl} {M : ClM} {F : Nat → Prop} {Mr : RfM} {Fr Z : Nat → Prop} (h : BoL w0 w g c M F cr Mr Fr Z) : BoL w0 w g c M F cr.tick Mr Fr Z := ⟨h.cv, h.rf.tick, h.fr, h.z⟩
/-- A call on a client. -/
def opC (o : COpV) (c : Cl) : COpV := if o.own = true then { o with ac := c.number, ar := c.req } else o
def stepC (o : COpV) (c cr : Cl) : Cl := if o.kind = 1 then c.hear (opC o cr).ac (opC o cr).ar o.code o.r else if o.kind = 2 then c.tick else c.want o.x
/-- Do both tell the same? -/
def tellB (o : COpV) (c cr : Cl) : Bool := if o.kind = 1 then (c.hearB (opC o cr).ac (opC o cr).ar o.code == cr.hearB (opC o cr).ac (opC o cr).ar o.code) else if o.kind = 2 then true else (c.wantE o.x == cr.wantE o.x)
/-- What do hands back. -/
def DoP38 (w0 : World) (g : Nat) (c' cr' : Cl) (b : Bool) (Z : Nat → Prop) (w : World) (e : Ending) (w' : World) : Prop :=
  ∃ M' F' Mr' Fr', e = .returned (.tuple #[.agg (rfC cr' Mr'), .bool b]) ∧ BoL w0 w' g c' M' F' cr' Mr' Fr' Z ∧ Touch (fun k => w0.heap.size ≤ k ∧ ¬ Z k) w w'
theorem BoL.zt {w0 w w1 w2 : World} {g : Nat} {c cr : Cl} {M : ClM} {F : Nat → Prop} {Mr : RfM} {Fr Z : Nat → Prop} (h : BoL w0 w g c M F cr Mr Fr Z) (t : Touch (fun k => k = g ∨ M.q = some k) w1 w2) : Touch (fun k => w0.heap.size ≤ k ∧ ¬ Z k) w1 w2 := by
  refine t.mono (fun k _ e => ?_)
  rcases e with e | e
  · exact ⟨by have := h.cv.ge; omega, fun hz => (h.z k hz).2.2.1 e⟩
  · exact ⟨h.cv.fq k e, fun hz => (h.z k hz).2.2.2.1 e⟩
/-- Answers, from a call on. -/
def ansA (o : COpV) : Array Value := #[.int .u64 o.ac, .int .u64 o.ar, .int .i64 o.code, .int .i64 o.r.code, .int .i64 o.r.time, .int .u64 o.r.t.id, .int .i64 o.r.t.contract, .int .i64 o.r.t.state, .int .i64 o.r.t.level, .int .u64 o.r.t.gen, .int .i64 o.r.t.from_, .int .i64 o.r.t.left, .int .i64 o.r.t.due, .int .i64 o.r.t.told, .slice o.E o.r.fired.length o.e, .int .u64 o.r.notice, .int .i64 o.r.dead]
theorem ansA_eq (o : COpV) : ansA o = o.ans := by simp [ansA, COpV.ans, rpA]
theorem ansA_c (o : COpV) : AnC (ansA o) (rpA o.r o.E o.e) o.ac o.ar o.code := ⟨rfl, rfl, rfl, rfl, by rw [ansA_eq]; exact o.ans_r, rfl⟩
theorem COpV.set_own (o : COpV) (n m : Nat) : (o.arr.setIfInBounds 14 (.int .u64 n)).setIfInBounds 15 (.int .u64 m) = ({ o with ac := n, ar := m } : COpV).arr := by
  simp [COpV.arr, COpV.ans, cmA, rpA]
theorem COpV.k0 (o : COpV) : o.arr[0]? = some (.int .i64 o.kind) := by simp [COpV.arr, COpV.ans, cmA, rpA]
theorem COpV.k14 (o : COpV) : o.arr[14]? = some (.int .u64 o.ac) := by simp [COpV.arr, COpV.ans, cmA, rpA]
theorem COpV.k15 (o : COpV) : o.arr[15]? = some (.int .u64 o.ar) := by simp [COpV.arr, COpV.ans, cmA, rpA]
theorem COpV.k16 (o : COpV) : o.arr[16]? = some (.int .i64 o.code) := by simp [COpV.arr, COpV.ans, cmA, rpA]
theorem COpV.k31 (o : COpV) : o.arr[31]? = some (.bool o.own) := by simp [COpV.arr, COpV.ans, cmA, rpA]
end Go.Proofs.Ytlcefchbfjfifaa
end

section
namespace Go.Proofs.Ytlcefchbfjfifaa
open Go.RowKit Cal
set_option maxHeartbeats 4000000
set_option maxRecDepth 100000
set_option linter.unusedVariables false
attribute [local irreducible] wpPlan

/-- The end of do: the store to the result's cell. -/
theorem BoL.fin {w0 w w2 w3 : World} {g : Nat} {c cr : Cl} {M : ClM} {F : Nat → Prop} {Mr : RfM} {Fr Z Z' : Nat → Prop} (hz : ∀ k, Z k → k < w.heap.size) (hw0 : w0.heap.size ≤ w.heap.size) (hZ : ∀ k, Z k → Z' k) (hs : Z' (w.heap.size + 2)) (h : BoL w0 w2 g c M F cr Mr Fr Z') (t1 : Touch (fun k => w0.heap.size ≤ k ∧ ¬ Z k) w w2) (t2 : Touch (fun k => k = w.heap.size + 2) w2 w3) :
    BoL w0 w3 g c M F cr Mr Fr Z ∧ Touch (fun k => w0.heap.size ≤ k ∧ ¬ Z k) w w3 :=
  ⟨(h.zset t2 (fun k e => e ▸ hs)).subZ hZ, t1.trans t2 (fun k hk e => by omega)⟩
theorem do38_tick {w0 w : World} {g : Nat} {c cr : Cl} {M : ClM} {F : Nat → Prop} {Mr : RfM} {Fr Z : Nat → Prop} (h : BoL w0 w g c M F cr Mr Fr Z) (okr : cr.Ok) (o : COpV) (hk : o.kind = 2) :
    Calls Try.prog 10 #[.pointer (some ⟨g, 0, none⟩), .agg (rfC cr Mr), .agg o.arr] w (DoP38 w0 g c.tick cr.tick true Z w) := by
  have HZn := Lib.hid (show (#[.int .u64 0, .int .i64 0, .int .u64 0, .int .i64 0, .int .i64 0, .bool false, .int .i64 0, .int .u64 0, .int .u64 0, .int .u64 0, .int .i64 0, .int .i64 0, .int .i64 0, .slice none 0 0, .slice none 0 0, .int .i64 0, .slice none 0 0, .int .i64 0, .int .i64 0, .slice none 0 0] : Array Value).size = 20 from rfl)
  have HXn := Lib.hid (rfC_size (c := cr) h.rf.dn)
  have HTn := Lib.hid (rfC_size (c := cr.tick) h.rf.dn)
  have HT1 := Lib.hid (rfC_one (c := cr.tick) h.rf.d1 h.rf.dv1)
  have k0 := (by3Y w (rfC cr Mr) o.arr 49).cell 0
  rw [o.k0, hk] at k0
  have HT := Lib.hid (by3T w (rfC cr Mr) o.arr 49)
  have HB := Lib.hid (by3X w (rfC cr Mr) o.arr 49)
  have HR := Lib.hid (by3Z w (rfC cr Mr) o.arr 49)
  obtain ⟨Z', hZ'⟩ : ∃ Z' : Nat → Prop, Z' = fun k => Z k ∨ (w.heap.size ≤ k ∧ k < w.heap.size + 3) := ⟨_, rfl⟩
  have HA := Lib.hid (h.addZ (Z' := Z') HT.out (fun k hk => by rw [hZ'] at hk; rcases hk with hk | hk; exact .inl hk; exact .inr (by simpa using hk)))
  have HTk := Lib.hid (cltick_any HA.out.cv.at_)
  have hok := okr
  have HF := Lib.hid (fun w1 => ftick_any cr Mr h.rf.dn h.rf.d1 h.rf.dv1 hok.at_ hok.se.2 hok.wa w1)
  have hgl := h.cv.at_.blk.lt
  have hz0 := h.cv.t.size
  have hge := h.cv.ge
  have HZl := Lib.hid (fun k hk => (h.z k hk).1)
  have HZg := Lib.hid (fun k hk => (h.z k hk).2.2.1)
  have HZZ := Lib.hid (show ∀ k, Z k → Z' k from fun k hk => by rw [hZ']; exact .inl hk)
  have HZs := Lib.hid (show Z' (w.heap.size + 2) from by rw [hZ']; exact .inr (by omega))
  have HFin := Lib.hid (fun (w2 w3 : World) (hb : BoL w0 w2 g c.tick M F cr Mr Fr Z') (t1 : Touch (fun k => w0.heap.size ≤ k ∧ ¬ Z k) w w2) (t2 : Touch (fun k => k = w.heap.size + 2) w2 w3) => (show DoP38 w0 g c.tick cr.tick true Z w (.returned (.tuple #[.agg (rfC cr.tick Mr), .bool true])) w3 from
    ⟨M, F, Mr, Fr, rfl, (BoL.fin HZl.out hz0 HZZ.out HZs.out hb.rtick t1 t2).1, (BoL.fin HZl.out hz0 HZZ.out HZs.out hb.rtick t1 t2).2⟩))
  generalize rfC cr Mr = X0 at *
  generalize rfC cr.tick Mr = X1 at *
  generalize o.arr = OC at *
  clear h hok hZ' hk okr
  go_enter Try.func10, Try.ntmps10
  go_wp2_with (first
    | (go_at_call 16; go_must (refine HTk.out.mono ?_); rintro e w1 ⟨rfl, h1, t1⟩
       have HA1 := Lib.hid (HA.out.tick h1 t1)
       have HB1 := Lib.hid (t1.blk HB.out (by omega))
       have HR1 := Lib.hid (t1.blk HR.out (by omega))
       have HTw := Lib.hid ((HT.out.mono (S' := fun k => w0.heap.size ≤ k ∧ ¬ Z k) (fun _ _ e => e.elim)).trans t1 (fun k hk e => by subst e; exact ⟨hge, fun hz => HZg.out _ hz rfl⟩))
       clear h1 t1)
    | ((with_reducible apply HB1.out.ld rowRf HXn.out); exact rfl; exact rfl; exact rfl)
    | (go_at_call 26; go_must (refine (HF.out _).mono ?_); rintro e w2 ⟨rfl, t2⟩
       have HA2 := Lib.hid (HA1.out.far t2)
       have HR2 := Lib.hid (t2.blk HR1.out (fun e => e))
       have HTw2 := Lib.hid (HTw.out.trans t2 (fun _ _ e => e.elim))
       clear t2)
    | ((with_reducible apply HR2.out.st rowRf HZn.out HTn.out HT1.out); exact rfl; exact rfl; exact rfl; exact rfl
       intro w4 hb4 t4
       have HB4 := Lib.hid hb4
       have HT4 := Lib.hid t4
       clear hb4 t4))
  refine bodyPost_ret (results_cell2 6 7 rowRf HTn.out (HB4.out.whole) rfl rfl) rfl ?_
  exact HFin.out _ _ HA2.out HTw2.out HT4.out
end Go.Proofs.Ytlcefchbfjfifaa
end
