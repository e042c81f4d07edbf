/- law38.Light. The walk of ClientNobody. -/
import Derived.Test.YtlcefchbfjfifaaVArgsQ
import Derived.Test.YtlcefchbfjfifaaVRdY
section
namespace Go.Proofs.Ytlcefchbfjfifaa
open Go.RowKit Cal
set_option maxHeartbeats 4000000
set_option maxRecDepth 100000
set_option linter.unusedVariables false
attribute [local irreducible] wpPlan

theorem light10n_any (A B : Option Addr) (k m n n2 : Nat) (o : Int) (w : World) :
    Calls Try.prog 41 #[.agg #[.int .i64 o, .slice A n k, .slice B n2 m]] w fun e w' => e = .returned (.bool (decide (n ≤ 60) && decide (n2 ≤ 60))) ∧ Touch (fun _ => False) w w' := by
  have HT := Lib.hid ((Touch.refl (fun _ => False) w).alloc (.cells #[.int .i64 o, .slice A n k, .slice B n2 m] 30))
  have HV := Lib.hid (show decide (n ≤ 60) = decide ((n : Int) ≤ 60) by simp; omega)
  have HV2 := Lib.hid (show decide (n2 ≤ 60) = decide ((n2 : Int) ≤ 60) by simp; omega)
  by_cases h1 : (n : Int) ≤ 60
  · by_cases h2 : (n2 : Int) ≤ 60
    · go_enter Try.func41, Try.ntmps41
      go_wp2
      go_ret
      exact ⟨by rw [HV.out, HV2.out]; simp [h1, h2], HT.out⟩
    · go_enter Try.func41, Try.ntmps41
      go_wp2
      go_ret
      exact ⟨by rw [HV.out, HV2.out]; simp [h1, h2], HT.out⟩
  · go_enter Try.func41, Try.ntmps41
    go_wp2
    go_ret
    exact ⟨by rw [HV.out, HV2.out]; simp; omega, HT.out⟩
/-- Not more than is looked at here. -/
def lightN (c : Cm) : Bool := (decide (c.cal.wk.length ≤ 60) && decide (c.cal.cl.length ≤ 60)) && decide (c.tm.lv.length ≤ 60)
theorem lightN_in {c : Cm} (h : lightN c = true) : c.cal.wk.length ≤ 60 ∧ c.cal.cl.length ≤ 60 ∧ c.tm.lv.length ≤ 60 := by
  simp only [lightN, Bool.and_eq_true, decide_eq_true_eq] at h; exact ⟨h.1.1, h.1.2, h.2⟩
theorem light18n_any (A B D : Option Addr) (k m n : Nat) (c : Cm) (w : World) : Calls Try.prog 19 #[.agg #[.int .i64 c.kind, .int .u64 c.client, .int .u64 c.req, .int .u64 c.id, .int .i64 c.con, .int .i64 c.at_, .int .i64 c.cal.off, .slice A c.cal.wk.length k, .slice B c.cal.cl.length m, .int .i64 c.tm.cal, .slice D c.tm.lv.length n, .int .i64 c.tm.rt, .int .i64 c.tm.bk]] w fun e w' => e = .returned (.bool (lightN c)) ∧ Touch (fun _ => False) w w' := by
  have HT0 := Lib.hid ((Touch.refl (fun _ => False) w).alloc (.cells #[.int .i64 c.kind, .int .u64 c.client, .int .u64 c.req, .int .u64 c.id, .int .i64 c.con, .int .i64 c.at_, .int .i64 c.cal.off, .slice A c.cal.wk.length k, .slice B c.cal.cl.length m, .int .i64 c.tm.cal, .slice D c.tm.lv.length n, .int .i64 c.tm.rt, .int .i64 c.tm.bk] 35))
  have HB0 := Lib.hid (Blk.new w 35 #[.int .i64 c.kind, .int .u64 c.client, .int .u64 c.req, .int .u64 c.id, .int .i64 c.con, .int .i64 c.at_, .int .i64 c.cal.off, .slice A c.cal.wk.length k, .slice B c.cal.cl.length m, .int .i64 c.tm.cal, .slice D c.tm.lv.length n, .int .i64 c.tm.rt, .int .i64 c.tm.bk])
  have HL := Lib.hid (fun w1 => light10n_any A B k m c.cal.wk.length c.cal.cl.length c.cal.off w1)
  have HV := Lib.hid (show lightN c = ((decide (c.cal.wk.length ≤ 60) && decide (c.cal.cl.length ≤ 60)) && decide ((c.tm.lv.length : Int) ≤ 60)) by unfold lightN; congr 1; simp; omega)
  generalize lightN c = v at *
  generalize (decide (c.cal.wk.length ≤ 60) && decide (c.cal.cl.length ≤ 60)) = v1 at *
  cases v1
  · go_enter Try.func19, Try.ntmps19
    go_wp2_with (go_at_call 41; go_must (refine (HL.out _).mono ?_); rintro e w1 ⟨rfl, t1⟩; have HT1 := Lib.hid (HT0.out.trans t1 (fun _ _ e => e)); clear t1)
    go_ret
    exact ⟨ret_bool (by rw [HV.out]; rfl), HT1.out⟩
  · go_enter Try.func19, Try.ntmps19
    go_wp2_with (go_at_call 41; go_must (refine (HL.out _).mono ?_); rintro e w1 ⟨rfl, t1⟩; have HT1 := Lib.hid (HT0.out.trans t1 (fun _ _ e => e)); have hb := t1.blk HB0.out (fun e => e); have q10 := hb.cell 10; simp at q10; clear t1 hb)
    go_ret
    exact ⟨ret_bool (by rw [HV.out, Bool.true_and]), HT1.out⟩

theorem rowOpC : RowT 49 32 := ⟨⟨_, Try.underlying49, rfl⟩, by kernel_rfl⟩
theorem COpV.one (o : COpV) : o.arr.all (·.oneCell') = true := by rw [COpV.arr, COpV.ans, Array.all_append, Array.all_append, Array.all_append, Array.all_append, cmA_one, rpA_one]; simp [Value.oneCell']
theorem COpV.list (o : COpV) : o.arr.toList = [.int .i64 o.kind] ++ ((cmA o.x o.A o.B o.D o.k o.m o.n).toList ++ (o.ans.toList ++ [.bool o.own])) := by simp [COpV.arr]
theorem COpV.ex_c (o : COpV) : o.arr.extract 1 (1 + 13) = cmA o.x o.A o.B o.D o.k o.m o.n := by
  apply Array.ext'
  rw [Array.toList_extract, o.list]
  have := cmA_size o.x o.A o.B o.D o.k o.m o.n
  simp [List.extract, this]
theorem COpV.ex_a (o : COpV) : o.arr.extract 14 (14 + 17) = o.ans := by
  apply Array.ext'
  rw [Array.toList_extract, o.list]
  have := cmA_size o.x o.A o.B o.D o.k o.m o.n
  have := o.asize
  simp [List.extract, *]
theorem COpV.ans_r (o : COpV) : o.ans.extract 3 (3 + 14) = rpA o.r o.E o.e := by
  apply Array.ext'
  have h := rpA_size o.r o.E o.e
  rw [Array.toList_extract]
  simp only [COpV.ans, Array.toList_append, List.extract]
  rw [List.drop_append_of_le_length (by simp)]
  simp only [List.drop, List.nil_append]
  exact List.take_of_length_le (by rw [Array.length_toList, h]; omega)
theorem COpV.ex_r (o : COpV) : o.arr.extract 17 (17 + 14) = rpA o.r o.E o.e := by
  rw [← o.ans_r, ← o.ex_a, Array.extract_extract]; rfl
def lightK (o : COpV) : Bool := lightN o.x && decide (o.r.fired.length ≤ 200)
def light38B (l : List COpV) : Bool := l.all lightK && decide (l.length ≤ 80)
theorem light38_any (F : Nat → Prop) (A : Option Addr) (c : Nat) (l : List COpV) (w : World) (hr : RdZ w F 32 A l.length (l.flatMap COpV.cells)) (hsm : l.length ≤ 9223372036854775807) :
    Calls Try.prog 6 #[.slice A l.length c] w fun e w' => e = .returned (.bool (light38B l)) ∧ Touch (fun _ => False) w w' := by
  have HR := Lib.hid hr
  obtain ⟨v, hv⟩ : ∃ v, v = light38B l := ⟨_, rfl⟩
  rw [← hv]
  have HV := Lib.hid hv
  clear hr hv
  go_enter Try.func6, Try.ntmps6
  go_wp2_with fail
  go_loopw [7] (fun i wr => ∃ j : Nat, j ≤ l.length ∧ i = .int .i64 j ∧ (l.take j).all lightK = true ∧ Touch (fun _ => False) w wr) (fun i _ => l.length - (intOf i).toNat)
  case atStart => exact ⟨0, by omega, rfl, by simp, Touch.refl _ _⟩
  case round =>
    obtain ⟨j, hj, rfl, hA, hT⟩ := hrel
    have HA := Lib.hid hA
    have HT := Lib.hid hT
    clear hA
    by_cases hjk : j < l.length
    · have ha : l[j]? = some (l[j]'hjk) := List.getElem?_eq_getElem _
      obtain ⟨a, off, rfl, -, -, hc⟩ := (HR.out.touch hT (fun _ _ e => e)).at_ (fun a _ => a.len) rfl ha
      have HX := Lib.hid (show (l.take (j + 1)).all lightK = ((l.take j).all lightK && lightK (l[j]'hjk)) by
        rw [List.take_succ_eq_append_getElem hjk, List.all_append]; simp)
      have HXm := Lib.hid (List.getElem_mem hjk)
      generalize l[j]'hjk = o at *
      have HRg := Lib.hid (show wr.rangeAt a (off + j * 32) o.arr.toList from fun k u hk => by rw [Nat.add_assoc]; exact hc k u hk)
      have HOn := Lib.hid o.size
      have HO1 := Lib.hid o.one
      have HEc := Lib.hid o.ex_c
      have HEr := Lib.hid o.ex_r
      have HCn := Lib.hid (cmA_size o.x o.A o.B o.D o.k o.m o.n)
      have HRn := Lib.hid (rpA_size o.r o.E o.e)
      have HL1 := Lib.hid (show ∀ w1, Calls Try.prog 19 #[.agg (cmA o.x o.A o.B o.D o.k o.m o.n)] w1 fun e w' => e = .returned (.bool (lightN o.x)) ∧ Touch (fun _ => False) w1 w' from fun w1 => light18n_any o.A o.B o.D o.k o.m o.n o.x w1)
      have HL2 := Lib.hid (show ∀ w1, Calls Try.prog 20 #[.agg (rpA o.r o.E o.e)] w1 fun e w' => e = .returned (.bool (decide (o.r.fired.length ≤ 200))) ∧ Touch (fun _ => False) w1 w' from fun w1 => light_any o.r o.E o.r.fired.length o.e w1)
      generalize cmA o.x o.A o.B o.D o.k o.m o.n = X13 at *
      generalize rpA o.r o.E o.e = R14 at *
      generalize ho : o.arr = OC at *
      have HB := Lib.hid (Blk.new wr 49 OC)
      have HTA := Lib.hid (HT.out.trans ((Touch.refl (fun _ => False) wr).alloc (.cells OC 49)) (fun _ _ e => e))
      have HK := Lib.hid (show lightK o = (lightN o.x && decide (o.r.fired.length ≤ 200)) from rfl)
      clear hc ha hT ho
      generalize lightN o.x = b1 at *
      generalize decide (o.r.fired.length ≤ 200) = b2 at *
      cases b1
      · have HE := Lib.hid (show v = false by
          rw [HV.out, light38B, Bool.and_eq_false_iff]; left
          rw [List.all_eq_false]
          exact ⟨o, HXm.out, by rw [HK.out]; simp⟩)
        go_wp2_with (first
          | (refine loadC rowOpC _ rfl rfl a (off + j * 32) rfl OC HOn.out HRg.out ?_)
          | (refine storeC rowOpC _ _ rfl rfl wr _ OC rfl rfl rfl (by kernel_rfl) HOn.out HO1.out ?_)
          | ((with_reducible apply HB.out.lp (k := 1) rowCm HCn.out HEc.out); exact rfl; exact rfl; exact rfl)
          | (go_at_call 19; go_must (refine (HL1.out _).mono ?_); rintro e w1 ⟨rfl, t1⟩; have HT1 := Lib.hid (HTA.out.trans t1 (fun _ _ e => e)); clear t1))
        go_ret
        exact ⟨by rw [HE.out]; rfl, HT1.out⟩
      cases b2
      · have HE := Lib.hid (show v = false by
          rw [HV.out, light38B, Bool.and_eq_false_iff]; left
          rw [List.all_eq_false]
          exact ⟨o, HXm.out, by rw [HK.out]; simp⟩)
        go_wp2_with (first
          | (refine loadC rowOpC _ rfl rfl a (off + j * 32) rfl OC HOn.out HRg.out ?_)
          | (refine storeC rowOpC _ _ rfl rfl wr _ OC rfl rfl rfl (by kernel_rfl) HOn.out HO1.out ?_)
          | ((with_reducible apply HB.out.lp (k := 1) rowCm HCn.out HEc.out); exact rfl; exact rfl; exact rfl)
          | (go_at_call 19; go_must (refine (HL1.out _).mono ?_); rintro e w1 ⟨rfl, t1⟩; have HT1 := Lib.hid (HTA.out.trans t1 (fun _ _ e => e)); have HB1 := Lib.hid (t1.blk HB.out (fun e => e)); clear t1)
          | ((with_reducible apply HB1.out.lp (k := 17) rowRy HRn.out HEr.out); exact rfl; exact rfl; exact rfl)
          | (go_at_call 20; go_must (refine (HL2.out _).mono ?_); rintro e w2 ⟨rfl, t2⟩; have HT2 := Lib.hid (HT1.out.trans t2 (fun _ _ e => e)); clear t2))
        go_ret
        exact ⟨by rw [HE.out]; rfl, HT2.out⟩
      · have HE := Lib.hid (show (l.take (j + 1)).all lightK = true by rw [HX.out, HA.out, HK.out]; rfl)
        go_wp2_with (first
          | (refine loadC rowOpC _ rfl rfl a (off + j * 32) rfl OC HOn.out HRg.out ?_)
          | (refine storeC rowOpC _ _ rfl rfl wr _ OC rfl rfl rfl (by kernel_rfl) HOn.out HO1.out ?_)
          | ((with_reducible apply HB.out.lp (k := 1) rowCm HCn.out HEc.out); exact rfl; exact rfl; exact rfl)
          | (go_at_call 19; go_must (refine (HL1.out _).mono ?_); rintro e w1 ⟨rfl, t1⟩; have HT1 := Lib.hid (HTA.out.trans t1 (fun _ _ e => e)); have HB1 := Lib.hid (t1.blk HB.out (fun e => e)); clear t1)
          | ((with_reducible apply HB1.out.lp (k := 17) rowRy HRn.out HEr.out); exact rfl; exact rfl; exact rfl)
          | (go_at_call 20; go_must (refine (HL2.out _).mono ?_); rintro e w2 ⟨rfl, t2⟩; have HT2 := Lib.hid (HT1.out.trans t2 (fun _ _ e => e)); clear t2))
        go_roundw
        case rel => exact ⟨j + 1, by omega, by go_num, HE.out, HT2.out⟩
        case measure => simp [intOf]; omega
    · obtain rfl : j = l.length := by omega
      have HE := Lib.hid (show v = decide (l.length ≤ 80) by
        have := HA.out
        rw [List.take_length] at this
        rw [HV.out, light38B, this, Bool.true_and])
      go_wp2
      go_ret
      refine ⟨ret_bool ?_, HT.out⟩
      rw [HE.out]
      simp; omega
end Go.Proofs.Ytlcefchbfjfifaa
end

section
namespace Go.Proofs.Ytlcefchbfjfifaa
open Go.RowKit Cal
set_option maxHeartbeats 4000000
set_option maxRecDepth 100000
set_option linter.unusedVariables false
attribute [local irreducible] wpPlan

theorem rowAns : RowT 47 17 := ⟨⟨_, Try.underlying47, rfl⟩, by kernel_rfl⟩
theorem foldC (o : COpV) : Array.foldl (fun cs x => cs.setIfInBounds x.snd x.fst) #[.int .i64 0, .int .i64 0, .int .u64 0, .int .u64 0, .int .u64 0, .int .i64 0, .int .i64 0, .int .i64 0, .slice none 0 0, .slice none 0 0, .int .i64 0, .slice none 0 0, .int .i64 0, .int .i64 0, .int .u64 0, .int .u64 0, .int .i64 0, .int .i64 0, .int .i64 0, .int .u64 0, .int .i64 0, .int .i64 0, .int .i64 0, .int .u64 0, .int .i64 0, .int .i64 0, .int .i64 0, .int .i64 0, .slice none 0 0, .int .u64 0, .int .i64 0, .bool false] o.arr.zipIdx 0 32 = o.arr := by
  simp [COpV.arr, COpV.ans, cmA, rpA]
theorem oneC (w : World) (o : COpV) : RdZ (w.alloc (.cells o.arr 49)) (fun _ => True) 32 (some ⟨w.heap.size, 0, none⟩) 1 ([o].flatMap COpV.cells) := by
  have hb := Blk.new w 49 o.arr
  refine ⟨by simp [o.len], fun _ => ⟨w.heap.size, 0, rfl, hb.lt, trivial, fun j u hj => ?_⟩⟩
  rw [Nat.zero_add]
  refine (hb.cell j).trans ?_
  simpa [COpV.cells] using hj
theorem walk_ClientNobody {w : World} (o : COpV) (oo : o.ok w) :
    Calls Try.prog 5 #[.agg o.cells.toArray] w fun e w' => e = .returned (.bool true) ∧ Below w.heap.size w w' := by
  rw [show o.cells.toArray = o.arr from by simp [COpV.cells]]
  have HFo := Lib.hid (foldC o)
  have HLo := Lib.hid (fun (w1 : World) => light38_any (fun _ => True) _ 1 [o] _ (oneC w1 o) (by simp))
  have HEc := Lib.hid o.ex_c
  have HEa := Lib.hid o.ex_a
  have HOn := Lib.hid o.size
  have HO1 := Lib.hid o.one
  have HCn := Lib.hid (cmA_size o.x o.A o.B o.D o.k o.m o.n)
  have HAn := Lib.hid o.asize
  obtain ⟨OC, hOC⟩ : ∃ OC, OC = o.arr := ⟨_, rfl⟩
  rw [← hOC] at HFo HLo HEc HEa HOn HO1 ⊢
  have hcn := HOn.out
  obtain ⟨W, hW⟩ : ∃ W, W = w.alloc (.cells OC 49) := ⟨_, rfl⟩
  have HT0 := Lib.hid (show Touch (fun _ => False) w W from hW ▸ (Touch.refl _ w).alloc _)
  have HB0 := Lib.hid (show Blk W w.heap.size 49 OC from hW ▸ Blk.new w _ _)
  have HBl := Lib.hid (Blk.new w 49 OC)
  have HW := Lib.hid hW
  generalize light38B [o] = lb at *
  clear hOC hW oo
  go_enter Try.func5, Try.ntmps5
  go_wp2_with (first
    | ((with_reducible apply HBl.out.ld rowOpC HOn.out); exact rfl; exact rfl; exact rfl))
  rw [HFo.out, ← HW.out]
  have hz : W.heap.size = w.heap.size + 1 := by rw [HW.out]; simp
  have hL := HLo.out W
  rw [hz] at hL
  refine hL.mono ?_
  rintro e w1 ⟨rfl, t1⟩
  have HT1 := Lib.hid ((HT0.out.alloc _).trans t1 (fun _ _ e => e))
  have HB1 := Lib.hid (((Touch.refl (fun _ => False) W).alloc _ |>.trans t1 (fun _ _ e => e)).blk HB0.out (fun e => e))
  clear hL t1 HLo
  cases lb
  · go_wp2_with (go_at_call 7; go_must (refine (lives38_any _).mono ?_); rintro e w2 ⟨rfl, t2⟩; have HT := Lib.hid (HT1.out.trans t2 (fun _ _ e => e)); clear t2)
    go_ret
    exact ⟨rfl, HT.out.below⟩
  go_wp2_with fail
  obtain ⟨w2, hw2⟩ : ∃ w2, w2 = w1.alloc (.cells #[.int .i64 0, .int .i64 0, .int .i64 0, .int .u64 0, .int .u64 0, .slice none 0 0, .int .i64 0, .int .u64 0, .int .u64 0, .int .u64 0, .int .i64 0, .int .i64 0, .int .i64 0, .slice none 0 0, .slice none 0 0, .int .i64 0, .slice none 0 0, .int .i64 0, .int .i64 0, .slice none 0 0] 68) := ⟨_, rfl⟩
  rw [← hw2]
  have HT2 := Lib.hid (show Touch (fun _ => False) w w2 from hw2 ▸ HT1.out.alloc _)
  have HB2 := Lib.hid (show Blk w2 w.heap.size 49 OC from hw2 ▸ HB1.out.alloc _)
  have HN2 := Lib.hid (show NoCl w2 (.pointer (some ⟨w1.heap.size, 0, none⟩)) from .inr ⟨w1.heap.size, rfl, by rw [hw2]; exact (Blk.new w1 68 #[.int .i64 0, .int .i64 0, .int .i64 0, .int .u64 0, .int .u64 0, .slice none 0 0, .int .i64 0, .int .u64 0, .int .u64 0, .int .u64 0, .int .i64 0, .int .i64 0, .int .i64 0, .slice none 0 0, .slice none 0 0, .int .i64 0, .slice none 0 0, .int .i64 0, .int .i64 0, .slice none 0 0]).cell 3, by rw [hw2]; simp⟩)
  have hz2 : w2.heap.size = w1.heap.size + 1 := by rw [hw2]; simp
  obtain ⟨ps, hps⟩ : ∃ ps : List (Option Addr), ps = [none, some ⟨w1.heap.size, 0, none⟩] := ⟨_, rfl⟩
  have hpl : ps.length = 2 := by rw [hps]; rfl
  have HPs := Lib.hid (show ∀ p ∈ ps, NoCl w2 (.pointer p) from fun p hp => by
    rw [hps] at hp
    simp only [List.mem_cons, List.not_mem_nil, or_false] at hp
    rcases hp with rfl | rfl
    · exact .inl rfl
    · exact HN2.out)
  have HBs := Lib.hid (show Blk (w2.alloc (.cells #[.pointer none, .pointer (some ⟨w1.heap.size, 0, none⟩)] 25)) (w1.heap.size + 1) 25 (ps.map Value.pointer).toArray from by rw [hps, ← hz2]; exact Blk.new w2 _ _)
  have HA2 := Lib.hid ((Touch.refl (fun _ => False) w2).alloc (.cells #[.pointer none, .pointer (some ⟨w1.heap.size, 0, none⟩)] 25))
  clear hps hw2 hz2
  go_loopw [21] (fun i wq => ∃ j : Nat, j ≤ 2 ∧ i = .int .i64 j ∧ Touch (fun _ => False) w2 wq ∧ Blk wq (w1.heap.size + 1) 25 (ps.map Value.pointer).toArray) (fun i _ => 2 - (intOf i).toNat)
  case atStart => exact ⟨0, by omega, rfl, HA2.out, HBs.out⟩
  case round =>
    clear HA2 HBs
    obtain ⟨j, hj, rfl, hT, hB⟩ := hrel
    have HT := Lib.hid hT
    have HB := Lib.hid hB
    clear hT hB
    by_cases hj2 : j < 2
    · obtain ⟨p, hp⟩ : ∃ p, ps[j]? = some p := ⟨_, List.getElem?_eq_getElem (by omega)⟩
      have cj := HB.out.cell j
      rw [show ((ps.map Value.pointer).toArray)[j]? = some (.pointer p) by simp [hp]] at cj
      have HNp := Lib.hid ((HPs.out p (List.mem_of_getElem? hp)).far HT.out)
      have HOq := Lib.hid (HT.out.blk HB2.out (fun e => e))
      have hj2' : (j : Int) < 2 := by omega
      generalize cmA o.x o.A o.B o.D o.k o.m o.n = X13 at *
      generalize o.ans = AN at *
      clear hp
      go_wp2_with (first
        | (go_at_call 16; go_must (refine (ntickC HNp.out).mono ?_); rintro e u1 ⟨rfl, rfl⟩)
        | (go_at_call 13; go_must (refine (nsendC HNp.out).mono ?_); rintro e u1 ⟨rfl, rfl⟩)
        | (go_at_call 17; go_must (refine (ndoingC HNp.out).mono ?_); rintro e u1 ⟨rfl, t1⟩
           have HTa := Lib.hid (t1.alloc (.cells cmZA 35))
           have HOa := Lib.hid (HTa.out.blk HOq.out (fun e => e))
           have HNa := Lib.hid (HNp.out.far HTa.out)
           have HZn := Lib.hid (show cmZA.size = 13 from rfl)
           have HZ1 := Lib.hid (show cmZA.all (·.oneCell') = true from cmA_one _ _ _ _ _ _ _)
           clear t1)
        | (refine storeC rowCm _ _ rfl rfl u1 _ cmZA rfl rfl rfl rfl HZn.out HZ1.out ?_)
        | ((with_reducible apply HOa.out.lp (k := 1) rowCm HCn.out HEc.out); exact rfl; exact rfl; exact rfl)
        | (go_at_call 9; go_must (refine (nwantC HNa.out X13).mono ?_); rintro e u2 ⟨rfl, t2⟩
           have HTb := Lib.hid (HTa.out.trans t2 (fun _ _ e => e))
           have HOb := Lib.hid (t2.blk HOa.out (fun e => e))
           have HNb := Lib.hid (HNa.out.far t2)
           clear t2)
        | ((with_reducible apply HOb.out.lp (k := 14) rowAns HAn.out HEa.out); exact rfl; exact rfl; exact rfl)
        | (go_at_call 18; go_must (refine (nhearC HNb.out AN).mono ?_); rintro e u3 ⟨rfl, t3⟩
           have HTc := Lib.hid (HTb.out.trans t3 (fun _ _ e => e))
           have HNc := Lib.hid (HNb.out.far t3)
           clear t3)
        | (go_at_call 11; go_must (refine (ndoneC HNc.out).mono ?_); rintro e u4 ⟨rfl, rfl⟩))
      go_roundw
      case rel => exact ⟨j + 1, by omega, by go_num, HT.out.trans HTc.out (fun _ _ e => e), HTc.out.blk HB.out (fun e => e)⟩
      case measure => simp [intOf]; omega
    · obtain rfl : j = 2 := by omega
      go_wp2_with (go_at_call 7; go_must (refine (lives38_any _).mono ?_); rintro e u2 ⟨rfl, t2⟩; have HTz := Lib.hid ((HT2.out.trans HT.out (fun _ _ e => e)).trans t2 (fun _ _ e => e)); clear t2)
      go_ret
      exact ⟨rfl, HTz.out.below⟩
end Go.Proofs.Ytlcefchbfjfifaa
end
