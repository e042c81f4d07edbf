/- The walk of ClientOnce. -/
import Derived.Test.YtlcefchbfjfifaaVCoE
namespace Go.Proofs.Ytlcefchbfjfifaa
open Go.RowKit Cal
set_option maxHeartbeats 8000000
set_option maxRecDepth 100000
set_option linter.unusedVariables false
attribute [local irreducible] wpPlan

theorem walk_ClientOnce {w : World} (A2 : Option Addr) (n2 c2 : Nat) (l2 : List COpV) (e2 : l2.length = n2) (o2 : ∀ x ∈ l2, x.ok w) (z2 : ∀ a ∈ l2, a.cells.length = 32) (g2 : A2 = none → c2 = 0) (u2 : n2 ≤ c2) (m2 : c2 ≤ maxLen) (s2 : RdZ w (fun k => k < w.heap.size) 32 A2 n2 (l2.flatMap COpV.cells)) :
    Calls Try.prog 3 #[.slice A2 n2 c2] w fun e w' => e = .returned (.bool true) ∧ Below w.heap.size w w' := by
  subst e2
  unfold maxLen at m2
  have HS2 := Lib.hid s2
  have HO2 := Lib.hid o2
  have HLi := Lib.hid (light38_any _ A2 c2 l2 w s2 (by omega))
  clear o2 z2 g2 s2 u2
  cases hl : light38B l2
  · rw [hl] at HLi
    clear hl
    go_enter Try.func3, Try.ntmps3
    go_wp2_with (first
      | (go_at_call 6; go_must (refine HLi.out.mono ?_); rintro e w1 ⟨rfl, t1⟩; have HT := Lib.hid t1; clear t1)
      | (go_at_call 7; go_must (refine (lives38_any _).mono ?_); rintro e w2 ⟨rfl, t2⟩; have HT := Lib.hid (HT.out.trans t2 (fun _ _ e => e)); clear t2))
    go_ret
    exact ⟨rfl, HT.out.below⟩
  rw [hl] at HLi
  have HLk := Lib.hid (light38_in hl).1
  have hln := (light38_in hl).2
  clear hl
  have HNew := Lib.hid (fun w1 => clnew_yes 2 3 (by omega) (by omega) w1)
  have HX0 := Lib.hid (show (#[.int .u64 2, .int .i64 3, .int .u64 0, .int .i64 0, .int .i64 0, .bool false, .int .i64 0, .int .u64 0, .int .u64 0, .int .u64 0, .int .i64 0, .int .i64 0, .int .i64 0, .slice none 0 0, .slice none 0 0, .int .i64 0, .slice none 0 0, .int .i64 0, .int .i64 0, .slice none 0 0] : Array Value) = rfC (crO 0) RfM.nil from rfC_nil 0)
  have HL0 := Lib.hid (show (#[.int .u64 2, .int .i64 3, .int .u64 0, .int .i64 0, .int .i64 0, .bool false, .int .i64 0, .int .u64 0, .int .u64 0, .int .u64 0, .int .i64 0, .int .i64 0, .int .i64 0, .slice none 0 0, .slice none 0 0, .int .i64 0, .slice none 0 0, .int .i64 0, .int .i64 0, .slice none 0 0] : Array Value).size = 20 from rfl)
  have HL1 := Lib.hid (show (#[.int .u64 2, .int .i64 3, .int .u64 0, .int .i64 0, .int .i64 0, .bool false, .int .i64 0, .int .u64 0, .int .u64 0, .int .u64 0, .int .i64 0, .int .i64 0, .int .i64 0, .slice none 0 0, .slice none 0 0, .int .i64 0, .slice none 0 0, .int .i64 0, .int .i64 0, .slice none 0 0] : Array Value).all (·.oneCell') = true by simp [Value.oneCell'])
  obtain ⟨i0, hi, hz0, hz1, hz2⟩ := info_parts infoCm
  go_enter Try.func3, Try.ntmps3
  go_wp2_with (first
    | (go_at_call 6; go_must (refine HLi.out.mono ?_); rintro e w1 ⟨rfl, t1⟩; have HT1 := Lib.hid t1; clear t1)
    | (go_at_call 8; go_must (refine (HNew.out _).mono ?_); rintro e w2 ⟨rfl, ha, t2⟩
       have HC2 := Lib.hid ha
       have HT2 := Lib.hid t2
       clear ha t2)
    | (refine storeC rowRf _ _ rfl rfl w2 _ #[.int .u64 2, .int .i64 3, .int .u64 0, .int .i64 0, .int .i64 0, .bool false, .int .i64 0, .int .u64 0, .int .u64 0, .int .u64 0, .int .i64 0, .int .i64 0, .int .i64 0, .slice none 0 0, .slice none 0 0, .int .i64 0, .slice none 0 0, .int .i64 0, .int .i64 0, .slice none 0 0] rfl rfl rfl (by kernel_rfl) HL0.out HL1.out ?_))
  obtain ⟨g, hg⟩ : ∃ g, g = w1.heap.size := ⟨_, rfl⟩
  rw [← hg] at HC2
  have hsz1 := HT1.out.size
  have hsz2 := HT2.out.size
  have hgl := HC2.out.blk.lt
  have HCv := Lib.hid (show CvL w w2 g (Cl.new 2 3) ClM.zero (fun _ => False) from ⟨HC2.out, (fun _ h => h.elim), by omega, (fun _ e => by cases e), HT1.out.trans HT2.out (fun _ _ e => e)⟩)
  have HBo := Lib.hid (show BoL w w2 g (Cl.new 2 3) ClM.zero (fun _ => False) (crO 0) RfM.nil (fun _ => False) (fun _ => False) from ⟨HCv.out, RfR.nil _ _ _, (fun _ h => h.elim), (fun _ h => h.elim)⟩)
  clear HC2 HT2
  rw [HX0.out]
  obtain ⟨tb, htb⟩ : ∃ tb, tb = w2.heap.size := ⟨_, rfl⟩
  have HB3 := Lib.hid (HBo.out.addZ (Z' := fun k => k = tb ∨ (none : Option Nat) = some k) ((Touch.refl (fun _ => False) w2).alloc (.cells (rfC (crO 0) RfM.nil) 38)) (fun k hk => .inr (by rcases hk with hk | hk; rw [hk, htb]; simp; cases hk)))
  have HT3 := Lib.hid (show Blk (w2.alloc (.cells (rfC (crO 0) RfM.nil) 38)) tb 38 (rfC (crO 0) RfM.nil) from htb ▸ Blk.new w2 _ _)
  rw [← hg]
  rw [← htb]
  clear htb hg
  go_loopw [5, 25] (fun v i wr => ∃ j : Nat, j ≤ l2.length ∧ i = .int .i64 j ∧ ∃ ws c M F q, BoL w wr g c M F (crO 0) RfM.nil (fun _ => False) (fun k => k = tb ∨ q = some k) ∧ OnceI c (ws.map CmV.x) ∧ ws.length ≤ j ∧ Own wr 35 13 v q ws.length (ws.flatMap CmV.cells) ∧ (∀ k, q = some k → k ≠ tb) ∧ WsOk w ws ∧ Blk wr tb 38 (rfC (crO ws.length) RfM.nil)) (fun _ i _ => l2.length - (intOf i).toNat)
  case atStart => exact ⟨0, by omega, rfl, [], Cl.new 2 3, ClM.zero, _, none, HB3.out, OnceI.new, by simp, Own.nil _ _ _, (fun _ e => by cases e), (fun _ h => by cases h), HT3.out⟩
  case round =>
    clear HB3 HT3 HBo HCv HX0 HL0 HL1 HNew HLi HT1
    obtain ⟨j, hj, rfl, ws, c, M, F, q, hB, hI, hwl, hO, hZq, hWs, hTb⟩ := hrel
    obtain ⟨Aw, cw, hv, -, -, -, -⟩ := hO.full
    subst hv
    have HB := Lib.hid hB
    have HI := Lib.hid hI
    have HO := Lib.hid hO
    have HWs := Lib.hid hWs
    have HTb := Lib.hid hTb
    have HZq := Lib.hid hZq
    clear hB hI hO hWs hTb hZq
    by_cases hjk : j < l2.length
    · have ha : l2[j]? = some (l2[j]'hjk) := List.getElem?_eq_getElem _
      have hoo := HO2.out _ (List.getElem_mem hjk)
      have hlk := HLk.out _ (List.getElem_mem hjk)
      obtain ⟨a, off, rfl, -, -, hc⟩ := (HS2.out.touch HB.out.cv.t (fun _ _ e => e)).at_ (fun a _ => a.len) rfl ha
      generalize l2[j]'hjk = o at *
      have HRg := Lib.hid (show wr.rangeAt a (off + j * 32) o.arr.toList from fun k u hk => by rw [Nat.add_assoc]; exact hc k u hk)
      have HOn := Lib.hid o.size
      have HO1 := Lib.hid o.one
      have HEc := Lib.hid o.ex_c
      have HTA := Lib.hid ((Touch.refl (fun _ => False) wr).alloc (.cells o.arr 49))
      have HBA := Lib.hid (HB.out.far HTA.out)
      have hba0 := Blk.new wr 49 o.arr
      have k0 := hba0.cell 0
      rw [o.k0] at k0
      have HBo := Lib.hid hba0
      have HK0 := Lib.hid o.k0
      have hZn : tb < wr.heap.size := HTb.out.lt
      have HLen := Lib.hid HI.out.len
      rw [List.length_map] at HLen
      have hdw : c.done.length ≤ ws.length := by have := HLen.out; omega
      have hne1 : ¬ tb = wr.heap.size := by omega
      have hne2 : ¬ wr.heap.size = tb := by omega
      have HQl := Lib.hid (fun k (hk : q = some k) => HO.out.lt k hk)
      have hgw : g < wr.heap.size := HB.out.cv.at_.blk.lt
      have HqA := Lib.hid (fun k (hk : M.q = some k) => HB.out.cv.at_.own.lt k hk)
      have HZn := Lib.hid (show (#[.int .u64 0, .int .i64 0, .int .u64 0, .int .i64 0, .int .i64 0, .bool false, .int .i64 0, .int .u64 0, .int .u64 0, .int .u64 0, .int .i64 0, .int .i64 0, .int .i64 0, .slice none 0 0, .slice none 0 0, .int .i64 0, .slice none 0 0, .int .i64 0, .int .i64 0, .slice none 0 0] : Array Value).size = 20 from rfl)
      have HOo := Lib.hid hoo
      have HLk1 := Lib.hid hlk
      obtain ⟨OC, hOC⟩ : ∃ OC, OC = o.arr := ⟨_, rfl⟩
      rw [← hOC] at HRg HOn HO1 HEc HTA HBA hba0 k0 HBo HK0
      have HOC := Lib.hid hOC
      obtain ⟨WA, hWA⟩ : ∃ WA, WA = wr.alloc (.cells OC 49) := ⟨_, rfl⟩
      rw [← hWA] at HTA HBA k0 HBo
      have HWA := Lib.hid hWA
      have hzA : wr.heap.size < WA.heap.size := by rw [hWA]; simp
      have HTbA := Lib.hid (HTA.out.blk HTb.out (fun e => e))
      have HOA := Lib.hid (HO.out.touch HTA.out (fun _ _ e => e))
      have HX2 := Lib.hid (show (rfC (crO ws.length) RfM.nil)[2]? = some (.int .u64 ws.length) by rw [rfC_lo (crO ws.length) RfM.nil (by omega)]; rfl)
      clear hc ha hoo hlk hba0 hOC hWA HB
      by_cases hk : o.kind = 1
      ·
        as_aux_lemma =>
          have HI3 := Lib.hid (HI.out.hear (opC o (crO ws.length)).ac (opC o (crO ws.length)).ar o.code o.r)
          have HWs3 := Lib.hid HWs.out
          have hw3 : ws.length ≤ j + 1 := by omega
          have HZq3 := Lib.hid HZq.out
          have HTbX := Lib.hid HTbA.out
          have HBoX := Lib.hid HBo.out
          have HBX := Lib.hid HBA.out
          have HOX := Lib.hid HOA.out

          have hwn0 : IntKind.u64.wrap (ws.length : Int) = (ws.length : Int) := IntWalk.u64_in _ (by omega)
          have x2 := HTbX.out.cell 2
          have f2 := HTbX.out.frozen 2
          rw [HX2.out] at x2
          have ts := (Touch.refl (fun k => k = tb) WA).set (b := tb) (o := 2) (fun _ => rfl) (.int .u64 (ws.length : Nat))
          have hbs := HTbX.out.set_ 2 (.int .u64 (ws.length : Nat))
          rw [rfC_set (crO ws.length) (crO ws.length) RfM.nil RfM.nil 2 (.int .u64 (ws.length : Nat)) rfl rfl (by simp [crO]) (by omega)] at hbs
          have HBS := Lib.hid ((HBX.out.zset ts (fun k e => .inl e)).reref ws.length)
          have HTbS := Lib.hid hbs
          have HBoS := Lib.hid (ts.blk HBoX.out (by omega))
          have k0s := HBoS.out.cell 0
          rw [HK0.out] at k0s
          have HOS := Lib.hid (HOX.out.touch ts (fun k hk e => HZq3.out k hk e))
          obtain ⟨wS, hwS⟩ : ∃ wS, wS = (WA).setCell ⟨tb, 2, none⟩ (.int .u64 (ws.length : Nat)) := ⟨_, rfl⟩
          rw [← hwS] at HBS HTbS HBoS HOS k0s
          have HwS := Lib.hid hwS
          clear ts hbs hwS

          have HDo := Lib.hid (do38_any HBS.out (crO_ok (by omega)) o HOo.out HLk1.out (by omega) (by simp [crO]))
          unfold DoP38 at HDo
          rw [← HOC.out] at HDo
          have HSt := Lib.hid (show stepC o c (crO ws.length) = c.hear (opC o (crO ws.length)).ac (opC o (crO ws.length)).ar o.code o.r by rw [stepC, if_pos hk])
          rw [HSt.out] at HDo
          rw [hk] at k0 k0s
          have HRn := Lib.hid (rfC_size (c := crO ws.length) (M := RfM.nil) rfl)
          obtain ⟨X0, hX0⟩ : ∃ X0, X0 = rfC (crO ws.length) RfM.nil := ⟨_, rfl⟩
          rw [← hX0] at HDo HTbS HRn
          have HX0 := Lib.hid hX0
          obtain ⟨c3, hc3⟩ : ∃ c3, c3 = c.hear (opC o (crO ws.length)).ac (opC o (crO ws.length)).ar o.code o.r := ⟨_, rfl⟩
          rw [← hc3] at HDo HI3
          generalize tellB o c (crO ws.length) = tbl at *
          clear hc3 hk HSt hX0
          go_upto_region 12 with (first
            | (refine loadC rowOpC _ rfl rfl a (off + j * 32) rfl OC HOn.out HRg.out ?_)
            | (refine storeC rowOpC _ _ rfl rfl wr _ OC rfl rfl rfl (by kernel_rfl) HOn.out HO1.out ?_; rw [← HWA.out]))
          rw [← HwS.out]
          go_wp2_with (first
            | ((with_reducible apply HTbS.out.ld rowRf HRn.out); exact rfl; exact rfl; exact rfl)
            | ((with_reducible apply HBoS.out.ld rowOpC HOn.out); exact rfl; exact rfl; exact rfl)
            | (go_at_call 10; go_must (refine HDo.out.mono ?_); rintro e wT ⟨M3, F3, Mr3, Fr3, rfl, hb3, t3⟩
               have HB3 := Lib.hid (hb3.reref 0)
               have HTb3 := Lib.hid (t3.blk HTbS.out (fun e => e.2 (.inl rfl)))
               have HO3 := Lib.hid (HOS.out.touch t3 (fun k hk e => e.2 (.inr hk)))
               clear hb3 t3))
          rw [HX0.out] at HTb3
          have HLen3 := Lib.hid HI3.out.len
          rw [List.length_map] at HLen3
          have hdw3 : c3.done.length ≤ ws.length := by have := HLen3.out; omega
          have HDn := Lib.hid (cldone_any HB3.out.cv.at_ HB3.out.cv.lt (by omega))
          unfold DoneP at HDn
          have HOk3 := Lib.hid HB3.out.cv.at_.ok
          obtain ⟨n, hn⟩ : ∃ n, n = ws.length := ⟨_, rfl⟩
          obtain ⟨dl, hdl⟩ : ∃ dl, dl = c3.done.length := ⟨_, rfl⟩
          have HN := Lib.hid hn
          have HDl := Lib.hid hdl
          rw [← hdl] at HLen3 hdw3
          rw [← hn] at HLen3 hdw3 hw3 HTb3 HO3 ⊢
          have e1 : decide ((n : Int) < (dl : Int)) = false := decide_eq_false (by omega)
          have e2 : decide (n < dl) = false := decide_eq_false (by omega)
          have hdn : n ≤ dl + 1 := by have := HLen3.out; split at this <;> omega
          have e3 : decide ((dl : Int) + 1 < (n : Int)) = false := decide_eq_false (by omega)
          have e4 : decide (dl + 1 < n) = false := decide_eq_false (by omega)
          have hwd : IntKind.i64.wrap ((dl : Int) + 1) = (dl : Int) + 1 := IntWalk.i64_in _ (by omega)
          clear hn hdl
          go_wp2_with (go_at_call 11; go_must (refine HDn.out.mono ?_); rintro e wD ⟨vD, qD, xs, rfl, hoD, tD⟩
                       obtain ⟨AD, cD, hvD, -, -, -, hrz⟩ := hoD.own.full
                       rw [← HDl.out] at hvD hrz
                       subst hvD
                       have HOD := Lib.hid hoD
                       have HRz := Lib.hid hrz
                       have HTD := Lib.hid tD
                       clear hoD tD hrz)
          have HBD := Lib.hid (HB3.out.far HTD.out)
          have HOw := Lib.hid (HO3.out.touch HTD.out (fun _ _ e => e))
          have HTbD := Lib.hid (HTD.out.blk HTb3.out (fun e => e))
          have hxl : xs.length = dl := by rw [HDl.out, ← HOD.out.eqs]; simp
          have HXl := Lib.hid hxl
          have HSm := Lib.hid (SmallR.of HOk3.out HOD.out.eqs)
          clear e1 e2 e3 e4 hwd hxl
          go_loopw [82] (fun i wq => ∃ p : Nat, p ≤ dl ∧ i = .int .i64 p ∧ Touch (fun _ => False) wD wq) (fun i _ => dl - (intOf i).toNat)
          case atStart => exact ⟨0, by omega, rfl, Touch.refl _ _⟩
          case round =>
            obtain ⟨p, hp, rfl, hTq⟩ := hrel
            have HTq := Lib.hid hTq
            clear hTq
            by_cases hpd : p < dl
            · obtain ⟨x, hx⟩ : ∃ x, xs[p]? = some x := ⟨_, List.getElem?_eq_getElem (by have := HXl.out; omega)⟩
              obtain ⟨V, hV⟩ : ∃ V, ws[p]? = some V := ⟨_, List.getElem?_eq_getElem (by have := HN.out; omega)⟩
              have hxm := List.mem_of_getElem? hx
              have hvm := List.mem_of_getElem? hV
              have hrow : x.c = tag p V.x := by
                have h1 : c3.done[p]? = some (x.c, x.a) := by rw [← HOD.out.eqs, List.getElem?_map, hx]; rfl
                have h2 : (ws.map CmV.x)[p]? = some V.x := by rw [List.getElem?_map, hV]; rfl
                exact HI3.out.row h1 h2
              obtain ⟨aD, oD, rfl, haD, -, hcx⟩ := (HRz.out.touch HTq.out (fun _ _ e => e)).at_ (fun a _ => a.len) HXl.out hx
              obtain ⟨A4, c4, hv4, -, -, -, hrv⟩ := (HOw.out.touch HTq.out (fun _ _ e => e)).full
              injection hv4 with ev1 ev2 ev3
              subst ev1 ev3
              obtain ⟨aW, oW, rfl, haW, -, hcv⟩ := hrv.at_ (fun a _ => a.len) HN.out.symm hV
              have HRx := Lib.hid (show wr.rangeAt aD (oD + p * 27) x.arr.toList from fun k u hk => by rw [Nat.add_assoc]; exact hcx k u hk)
              have ta := (Touch.refl (fun _ => False) wr).alloc (.cells x.arr 56)
              have HRv := Lib.hid (show (wr.alloc (.cells x.arr 56)).rangeAt aW (oW + p * 13) V.arr.toList from fun k u hk => by rw [Nat.add_assoc]; exact (ta.cell (p := ⟨aW, oW + (p * 13 + k), none⟩) haW (fun e => e)).trans (hcv k u hk))
              have hwsv := HWs3.out V hvm
              have e1 : V.arr.setIfInBounds 1 (.int .u64 2) = cmA { V.x with client := 2 } V.A V.B V.D V.k V.m V.n := by simp [CmV.arr, cmA]
              have e2 : (cmA { V.x with client := 2 } V.A V.B V.D V.k V.m V.n).setIfInBounds 2 (.int .u64 ((p : Int) + 1)) = cmA (tag p V.x) V.A V.B V.D V.k V.m V.n := by simp [cmA, tag]
              have hw1 : IntKind.i64.wrap ((p : Int) + 1) = (p : Int) + 1 := IntWalk.i64_in _ (by omega)
              have hw2 : IntKind.u64.wrap ((p : Int) + 1) = (p : Int) + 1 := IntWalk.u64_in _ (by omega)
              have HE1 := Lib.hid e1
              have HE2 := Lib.hid e2
              have HZv := Lib.hid (show Blk ((wr.alloc (.cells x.arr 56)).alloc (.cells #[.int .i64 0, .int .u64 0, .int .u64 0, .int .u64 0, .int .i64 0, .int .i64 0, .int .i64 0, .slice none 0 0, .slice none 0 0, .int .i64 0, .slice none 0 0, .int .i64 0, .int .i64 0] 35)) (wr.heap.size + 1) 35 #[.int .i64 0, .int .u64 0, .int .u64 0, .int .u64 0, .int .i64 0, .int .i64 0, .int .i64 0, .slice none 0 0, .slice none 0 0, .int .i64 0, .slice none 0 0, .int .i64 0, .int .i64 0] from by
                have := Blk.new (wr.alloc (.cells x.arr 56)) 35 #[.int .i64 0, .int .u64 0, .int .u64 0, .int .u64 0, .int .i64 0, .int .i64 0, .int .i64 0, .slice none 0 0, .slice none 0 0, .int .i64 0, .slice none 0 0, .int .i64 0, .int .i64 0]
                simpa using this)
              have HXw := Lib.hid (show Blk ((wr.alloc (.cells x.arr 56)).alloc (.cells #[.int .i64 0, .int .u64 0, .int .u64 0, .int .u64 0, .int .i64 0, .int .i64 0, .int .i64 0, .slice none 0 0, .slice none 0 0, .int .i64 0, .slice none 0 0, .int .i64 0, .int .i64 0] 35)) wr.heap.size 56 x.arr from (Blk.new wr _ _).alloc _)
              have HT0 := Lib.hid (ta.alloc (.cells #[.int .i64 0, .int .u64 0, .int .u64 0, .int .u64 0, .int .i64 0, .int .i64 0, .int .i64 0, .slice none 0 0, .slice none 0 0, .int .i64 0, .slice none 0 0, .int .i64 0, .int .i64 0] 35))
              have HCZ := Lib.hid (show (#[.int .i64 0, .int .u64 0, .int .u64 0, .int .u64 0, .int .i64 0, .int .i64 0, .int .i64 0, .slice none 0 0, .slice none 0 0, .int .i64 0, .slice none 0 0, .int .i64 0, .int .i64 0] : Array Value).size = 13 from rfl)
              have HV1c := Lib.hid (show V.arr[1]? = some (.int .u64 V.x.client) ∧ V.arr[2]? = some (.int .u64 V.x.req) from ⟨rfl, rfl⟩)
              have HTw := Lib.hid (HBD.out.cv.t.trans HTq.out (fun _ _ e => e))
              have hsx := HSm.out x hxm
              have hcm2 : CmR w (fun k => k < w.heap.size) (tag p V.x) V.A V.B V.D := ⟨hwsv.1.cal, hwsv.1.tm⟩
              have HSc := Lib.hid (fun w1 (t : Touch (fun _ => False) w w1) (hr : CmR w1 (fun k => wT.heap.size ≤ k ∧ k < wD.heap.size ∧ qD ≠ some k) x.c x.A x.B x.D) => (show Calls Try.prog 12 #[.agg (cmA x.c x.A x.B x.D x.k x.m x.n), .agg (cmA (tag p V.x) V.A V.B V.D V.k V.m V.n)] w1 fun e w' => e = .returned (.bool true) ∧ Touch (fun _ => False) w1 w' from by
                have := fcmsame_any _ (fun k => k < w.heap.size) x.A x.B x.D V.A V.B V.D x.k x.m x.n V.k V.m V.n x.c (tag p V.x) w1 hr (hcm2.touch t (fun _ _ e => e)) hsx.1 hsx.2.1 hsx.2.2.1 hsx.2.2.2.1 hwsv.2.2.1
                rw [show sameCm x.c (tag p V.x) = true from hrow ▸ sameCm_self _] at this
                exact this))
              have HRr := Lib.hid ((HOD.out.rows x hxm).cm.touch HTq.out (fun _ _ e => e))
              have HXn := Lib.hid x.size
              have HX1 := Lib.hid x.one
              have HVn := Lib.hid V.size
              have HV1 := Lib.hid V.one
              have HEx := Lib.hid x.ex_c
              have HCn := Lib.hid (cmA_size x.c x.A x.B x.D x.k x.m x.n)
              have HTn := Lib.hid (cmA_size (tag p V.x) V.A V.B V.D V.k V.m V.n)
              generalize cmA x.c x.A x.B x.D x.k x.m x.n = X13 at *
              generalize cmA { V.x with client := 2 } V.A V.B V.D V.k V.m V.n = Y13 at *
              generalize cmA (tag p V.x) V.A V.B V.D V.k V.m V.n = T13 at *
              generalize x.arr = XA at *
              generalize V.arr = VA at *
              clear hx hV hxm hvm hrow hcx hrv hcv ta hwsv hsx hcm2 e1 e2
              go_wp2_with (first
                | (refine loadC rowRs _ rfl rfl aD (oD + p * 27) rfl XA HXn.out HRx.out ?_)
                | (refine storeC rowRs _ _ rfl rfl wr _ XA rfl rfl rfl (by kernel_rfl) HXn.out HX1.out ?_)
                | (refine loadC rowCm _ rfl rfl aW (oW + p * 13) rfl VA HVn.out HRv.out ?_)
                | ((with_reducible apply HZv.out.st rowCm HCZ.out HVn.out HV1.out); exact rfl; exact rfl; exact rfl; exact rfl
                   intro w4 hb4 t4
                   have v1 := hb4.cell 1
                   have g1 := hb4.frozen 1
                   have v2 := hb4.cell 2
                   have g2 := hb4.frozen 2
                   rw [HV1c.out.1] at v1
                   rw [HV1c.out.2] at v2
                   have hbv := (hb4.set_ 1 (.int .u64 2)).set_ 2 (.int .u64 ((p : Int) + 1))
                   rw [HE1.out, HE2.out] at hbv
                   have tt := (t4.set (b := wr.heap.size + 1) (o := 1) (fun _ => rfl) (.int .u64 2)).set (b := wr.heap.size + 1) (o := 2) (fun _ => rfl) (.int .u64 ((p : Int) + 1))
                   have HBv := Lib.hid hbv
                   have HBx := Lib.hid (tt.blk HXw.out (by omega))
                   have HTa := Lib.hid (HT0.out.trans tt (S := fun _ => False) (fun k hk e => by omega))
                   clear hb4 t4 hbv tt)
                | ((with_reducible apply HBx.out.lp (k := 0) rowCm HCn.out HEx.out); exact rfl; exact rfl; exact rfl)
                | ((with_reducible apply HBv.out.ld rowCm HTn.out); exact rfl; exact rfl; exact rfl)
                | (go_at_call 12; go_must (refine (HSc.out _ (by exact HTw.out.trans HTa.out (fun _ _ e => e)) (by exact HRr.out.touch HTa.out (fun _ _ e => e))).mono ?_); rintro e w8 ⟨rfl, t8⟩; have HT8 := Lib.hid (HTa.out.trans t8 (fun _ _ e => e)); clear t8))
              go_roundw
              case rel => exact ⟨p + 1, by omega, by go_num, HTq.out.trans HT8.out (fun _ _ e => e)⟩
              case measure => simp [intOf]; omega
            · obtain rfl : p = dl := by omega
              have HBq := Lib.hid (HBD.out.far HTq.out)
              have HOq := Lib.hid (HOw.out.touch HTq.out (fun _ _ e => e))
              have HTbq := Lib.hid (HTq.out.blk HTbD.out (fun e => e))
              have HSe := Lib.hid (clsend_any HBq.out.cv.at_ HBq.out.cv.lt)
              unfold SendP at HSe
              have hwn : IntKind.u64.wrap (n : Int) = (n : Int) := IntWalk.u64_in _ (by omega)
              have hb : c3.busy = none ∨ ∃ y, c3.busy = some y := by cases c3.busy; exact .inl rfl; exact .inr ⟨_, rfl⟩
              rcases hb with hb | ⟨y, hb⟩
              · have hlt : p = n := by have := HLen3.out; rw [hb] at this; simpa using this
                have f1 : decide ((p : Int) < (n : Int)) = false := decide_eq_false (by omega)
                have f2 : decide (p < n) = false := decide_eq_false (by omega)
                rw [hb] at HSe
                simp only [Option.isSome_none, Bool.false_eq_true, if_false] at HSe
                clear hb hlt
                go_wp2_with (first
                  | (go_at_call 13; go_must (refine HSe.out.mono ?_)
                     rintro e w9 ⟨A9, n9, c9, l9, rfl, hl9, hn9, hr9, hc9, hm9, t9⟩
                     have hl9 : l9 = [] := hl9
                     have HRd := Lib.hid (fcmread_any (fun k => wr.heap.size ≤ k ∧ k < w9.heap.size) A9 c9 l9 w9 ⟨hr9.1, fun hn => by obtain ⟨g', o', h1, h2, h3, h4⟩ := hr9.2 hn; exact ⟨g', o', h1, h2, ⟨h3, h2⟩, h4⟩⟩ (fun k hk => hk.2) (hn9 ▸ hc9) hm9)
                     unfold CmPost at HRd
                     rw [← hn9] at HRd
                     have HB9 := Lib.hid (HBq.out.far t9)
                     have HO9 := Lib.hid (HOq.out.touch t9 (fun _ _ e => e))
                     have HTb9 := Lib.hid (t9.blk HTbq.out (fun e => e))
                     rw [show ((0 : Nat) : Int) = 0 from rfl]
                     clear hl9 hn9 hr9 hc9 hm9 t9)
                  | (go_at_call 14; go_must (refine HRd.out.mono ?_)
                     rintro e w10 ⟨A0, B0, D0, k0, m0, n0, rfl, hr0, t0⟩
                     rw [show (#[.int .i64 (rdAns l9).1.kind, .int .u64 (rdAns l9).1.client, .int .u64 (rdAns l9).1.req, .int .u64 (rdAns l9).1.id, .int .i64 (rdAns l9).1.con, .int .i64 (rdAns l9).1.at_, .int .i64 (rdAns l9).1.cal.off, .slice A0 (rdAns l9).1.cal.wk.length k0, .slice B0 (rdAns l9).1.cal.cl.length m0, .int .i64 (rdAns l9).1.tm.cal, .slice D0 (rdAns l9).1.tm.lv.length n0, .int .i64 (rdAns l9).1.tm.rt, .int .i64 (rdAns l9).1.tm.bk] : Array Value) = cmA (rdAns l9).1 A0 B0 D0 k0 m0 n0 from rfl]
                     have HCn := Lib.hid (cmA_size (rdAns l9).1 A0 B0 D0 k0 m0 n0)
                     have HC1 := Lib.hid (cmA_one (rdAns l9).1 A0 B0 D0 k0 m0 n0)
                     generalize cmA (rdAns l9).1 A0 B0 D0 k0 m0 n0 = X13 at *
                     generalize (rdAns l9).2 = e10 at *
                     have HB10 := Lib.hid ((HB9.out.far t0).far ((Touch.refl (fun _ => False) w10).alloc (.cells X13 35)))
                     have HO10 := Lib.hid ((HO9.out.touch t0 (fun _ _ e => e)).touch ((Touch.refl (fun _ => False) w10).alloc (.cells X13 35)) (fun _ _ e => e))
                     have HTb10 := Lib.hid ((t0.blk HTb9.out (fun e => e)).alloc (.cells X13 35))
                     clear hr0 t0)
                  | (refine storeC rowCm _ _ rfl rfl w10 _ X13 rfl rfl rfl (by kernel_rfl) HCn.out HC1.out ?_))
                go_roundw
                case rel => exact ⟨j + 1, by omega, by go_num, ws, c3, M3, F3, q, HB10.out, HI3.out, HN.out ▸ hw3, HN.out ▸ HO10.out, HZq3.out, HWs3.out, HN.out ▸ HTb10.out⟩
                case measure => simp [intOf]; omega
              · have hlt : p + 1 = n := by have := HLen3.out; rw [hb] at this; simpa using this
                have f1 : decide ((p : Int) < (n : Int)) = true := decide_eq_true (by omega)
                have f2 : decide (p < n) = true := decide_eq_true (by omega)
                have HLa := Lib.hid (HI3.out.last hb)
                rw [List.length_map, ← HN.out] at HLa
                have HFt := Lib.hid (HOk3.out.bu y hb)
                rw [hb] at HSe
                simp only [Option.isSome_some, if_true] at HSe
                have HRb := Lib.hid (cmFit_back HFt.out)
                generalize c3.at_ = at3 at *
                obtain ⟨L, hL⟩ : ∃ L, L = encC y := ⟨_, rfl⟩
                rw [← hL] at HSe HRb
                clear hb hlt hL
                go_wp2_with (first
                  | (go_at_call 13; go_must (refine HSe.out.mono ?_)
                     rintro e w9 ⟨A9, n9, c9, l9, rfl, hl9, hn9, hr9, hc9, hm9, t9⟩
                     have hl9 : l9 = L := hl9
                     rw [hl9] at hn9 hr9
                     have HRd := Lib.hid (fcmread_any (fun k => wr.heap.size ≤ k ∧ k < w9.heap.size) A9 c9 L w9 ⟨hr9.1, fun hn => by obtain ⟨g', o', h1, h2, h3, h4⟩ := hr9.2 hn; exact ⟨g', o', h1, h2, ⟨h3, h2⟩, h4⟩⟩ (fun k hk => hk.2) (hn9 ▸ hc9) hm9)
                     unfold CmPost at HRd
                     rw [HRb.out] at HRd
                     subst hn9
                     have HB9 := Lib.hid (HBq.out.far t9)
                     have HO9 := Lib.hid (HOq.out.touch t9 (fun _ _ e => e))
                     have HTb9 := Lib.hid (t9.blk HTbq.out (fun e => e))
                     clear hl9 hr9 hc9 hm9 t9)
                  | (go_at_call 14; go_must (refine HRd.out.mono ?_)
                     rintro e w10 ⟨A0, B0, D0, k0, m0, n0, rfl, hr0, t0⟩
                     rw [show (#[.int .i64 (y, (0 : Int)).1.kind, .int .u64 (y, (0 : Int)).1.client, .int .u64 (y, (0 : Int)).1.req, .int .u64 (y, (0 : Int)).1.id, .int .i64 (y, (0 : Int)).1.con, .int .i64 (y, (0 : Int)).1.at_, .int .i64 (y, (0 : Int)).1.cal.off, .slice A0 (y, (0 : Int)).1.cal.wk.length k0, .slice B0 (y, (0 : Int)).1.cal.cl.length m0, .int .i64 (y, (0 : Int)).1.tm.cal, .slice D0 (y, (0 : Int)).1.tm.lv.length n0, .int .i64 (y, (0 : Int)).1.tm.rt, .int .i64 (y, (0 : Int)).1.tm.bk] : Array Value) = cmA y A0 B0 D0 k0 m0 n0 from rfl]
                     have HCn := Lib.hid (cmA_size y A0 B0 D0 k0 m0 n0)
                     have HC1 := Lib.hid (cmA_one y A0 B0 D0 k0 m0 n0)
                     have hq1 : (cmA y A0 B0 D0 k0 m0 n0)[1]? = some (.int .u64 2) := by rw [show (cmA y A0 B0 D0 k0 m0 n0)[1]? = some (.int .u64 y.client) from rfl, HLa.out.2]; rfl
                     have hq2 : (cmA y A0 B0 D0 k0 m0 n0)[2]? = some (.int .u64 n) := by rw [show (cmA y A0 B0 D0 k0 m0 n0)[2]? = some (.int .u64 y.req) from rfl, HLa.out.1]
                     obtain ⟨X13, hX13⟩ : ∃ X, X = cmA y A0 B0 D0 k0 m0 n0 := ⟨_, rfl⟩
                     rw [← hX13] at HCn HC1 hq1 hq2 ⊢
                     have r1 := (Blk.new w10 35 X13).cell 1
                     have r2 := (Blk.new w10 35 X13).cell 2
                     rw [hq1] at r1
                     rw [hq2] at r2
                     have HB10 := Lib.hid ((HB9.out.far t0).far ((Touch.refl (fun _ => False) w10).alloc (.cells X13 35)))
                     have HO10 := Lib.hid ((HO9.out.touch t0 (fun _ _ e => e)).touch ((Touch.refl (fun _ => False) w10).alloc (.cells X13 35)) (fun _ _ e => e))
                     have HTb10 := Lib.hid ((t0.blk HTb9.out (fun e => e)).alloc (.cells X13 35))
                     clear hr0 t0 hX13 hq1 hq2)
                  | (refine storeC rowCm _ _ rfl rfl w10 _ X13 rfl rfl rfl (by kernel_rfl) HCn.out HC1.out ?_))
                go_roundw
                case rel => exact ⟨j + 1, by omega, by go_num, ws, c3, M3, F3, q, HB10.out, HI3.out, HN.out ▸ hw3, HN.out ▸ HO10.out, HZq3.out, HWs3.out, HN.out ▸ HTb10.out⟩
                case measure => simp [intOf]; omega
      by_cases hk' : o.kind = 2
      ·
        as_aux_lemma =>
          have hk1 := hk
          have hk := hk'
          clear hk'

          have HI3 := Lib.hid (HI.out.tick)
          have HWs3 := Lib.hid HWs.out
          have hw3 : ws.length ≤ j + 1 := by omega
          have HZq3 := Lib.hid HZq.out
          have HTbX := Lib.hid HTbA.out
          have HBoX := Lib.hid HBo.out
          have HBX := Lib.hid HBA.out
          have HOX := Lib.hid HOA.out

          have hwn0 : IntKind.u64.wrap (ws.length : Int) = (ws.length : Int) := IntWalk.u64_in _ (by omega)
          have x2 := HTbX.out.cell 2
          have f2 := HTbX.out.frozen 2
          rw [HX2.out] at x2
          have ts := (Touch.refl (fun k => k = tb) WA).set (b := tb) (o := 2) (fun _ => rfl) (.int .u64 (ws.length : Nat))
          have hbs := HTbX.out.set_ 2 (.int .u64 (ws.length : Nat))
          rw [rfC_set (crO ws.length) (crO ws.length) RfM.nil RfM.nil 2 (.int .u64 (ws.length : Nat)) rfl rfl (by simp [crO]) (by omega)] at hbs
          have HBS := Lib.hid ((HBX.out.zset ts (fun k e => .inl e)).reref ws.length)
          have HTbS := Lib.hid hbs
          have HBoS := Lib.hid (ts.blk HBoX.out (by omega))
          have k0s := HBoS.out.cell 0
          rw [HK0.out] at k0s
          have HOS := Lib.hid (HOX.out.touch ts (fun k hk e => HZq3.out k hk e))
          obtain ⟨wS, hwS⟩ : ∃ wS, wS = (WA).setCell ⟨tb, 2, none⟩ (.int .u64 (ws.length : Nat)) := ⟨_, rfl⟩
          rw [← hwS] at HBS HTbS HBoS HOS k0s
          have HwS := Lib.hid hwS
          clear ts hbs hwS

          have HDo := Lib.hid (do38_any HBS.out (crO_ok (by omega)) o HOo.out HLk1.out (by omega) (by simp [crO]))
          unfold DoP38 at HDo
          rw [← HOC.out] at HDo
          have HSt := Lib.hid (show stepC o c (crO ws.length) = c.tick by rw [stepC, if_neg hk1, if_pos hk])
          rw [HSt.out] at HDo
          rw [hk] at k0 k0s
          have HRn := Lib.hid (rfC_size (c := crO ws.length) (M := RfM.nil) rfl)
          obtain ⟨X0, hX0⟩ : ∃ X0, X0 = rfC (crO ws.length) RfM.nil := ⟨_, rfl⟩
          rw [← hX0] at HDo HTbS HRn
          have HX0 := Lib.hid hX0
          obtain ⟨c3, hc3⟩ : ∃ c3, c3 = c.tick := ⟨_, rfl⟩
          rw [← hc3] at HDo HI3
          generalize tellB o c (crO ws.length) = tbl at *
          clear hc3 hk hk1 HSt hX0
          go_upto_region 12 with (first
            | (refine loadC rowOpC _ rfl rfl a (off + j * 32) rfl OC HOn.out HRg.out ?_)
            | (refine storeC rowOpC _ _ rfl rfl wr _ OC rfl rfl rfl (by kernel_rfl) HOn.out HO1.out ?_; rw [← HWA.out]))
          rw [← HwS.out]
          go_wp2_with (first
            | ((with_reducible apply HTbS.out.ld rowRf HRn.out); exact rfl; exact rfl; exact rfl)
            | ((with_reducible apply HBoS.out.ld rowOpC HOn.out); exact rfl; exact rfl; exact rfl)
            | (go_at_call 10; go_must (refine HDo.out.mono ?_); rintro e wT ⟨M3, F3, Mr3, Fr3, rfl, hb3, t3⟩
               have HB3 := Lib.hid (hb3.reref 0)
               have HTb3 := Lib.hid (t3.blk HTbS.out (fun e => e.2 (.inl rfl)))
               have HO3 := Lib.hid (HOS.out.touch t3 (fun k hk e => e.2 (.inr hk)))
               clear hb3 t3))
          rw [HX0.out] at HTb3
          have HLen3 := Lib.hid HI3.out.len
          rw [List.length_map] at HLen3
          have hdw3 : c3.done.length ≤ ws.length := by have := HLen3.out; omega
          have HDn := Lib.hid (cldone_any HB3.out.cv.at_ HB3.out.cv.lt (by omega))
          unfold DoneP at HDn
          have HOk3 := Lib.hid HB3.out.cv.at_.ok
          obtain ⟨n, hn⟩ : ∃ n, n = ws.length := ⟨_, rfl⟩
          obtain ⟨dl, hdl⟩ : ∃ dl, dl = c3.done.length := ⟨_, rfl⟩
          have HN := Lib.hid hn
          have HDl := Lib.hid hdl
          rw [← hdl] at HLen3 hdw3
          rw [← hn] at HLen3 hdw3 hw3 HTb3 HO3 ⊢
          have e1 : decide ((n : Int) < (dl : Int)) = false := decide_eq_false (by omega)
          have e2 : decide (n < dl) = false := decide_eq_false (by omega)
          have hdn : n ≤ dl + 1 := by have := HLen3.out; split at this <;> omega
          have e3 : decide ((dl : Int) + 1 < (n : Int)) = false := decide_eq_false (by omega)
          have e4 : decide (dl + 1 < n) = false := decide_eq_false (by omega)
          have hwd : IntKind.i64.wrap ((dl : Int) + 1) = (dl : Int) + 1 := IntWalk.i64_in _ (by omega)
          clear hn hdl
          go_wp2_with (go_at_call 11; go_must (refine HDn.out.mono ?_); rintro e wD ⟨vD, qD, xs, rfl, hoD, tD⟩
                       obtain ⟨AD, cD, hvD, -, -, -, hrz⟩ := hoD.own.full
                       rw [← HDl.out] at hvD hrz
                       subst hvD
                       have HOD := Lib.hid hoD
                       have HRz := Lib.hid hrz
                       have HTD := Lib.hid tD
                       clear hoD tD hrz)
          have HBD := Lib.hid (HB3.out.far HTD.out)
          have HOw := Lib.hid (HO3.out.touch HTD.out (fun _ _ e => e))
          have HTbD := Lib.hid (HTD.out.blk HTb3.out (fun e => e))
          have hxl : xs.length = dl := by rw [HDl.out, ← HOD.out.eqs]; simp
          have HXl := Lib.hid hxl
          have HSm := Lib.hid (SmallR.of HOk3.out HOD.out.eqs)
          clear e1 e2 e3 e4 hwd hxl
          go_loopw [82] (fun i wq => ∃ p : Nat, p ≤ dl ∧ i = .int .i64 p ∧ Touch (fun _ => False) wD wq) (fun i _ => dl - (intOf i).toNat)
          case atStart => exact ⟨0, by omega, rfl, Touch.refl _ _⟩
          case round =>
            obtain ⟨p, hp, rfl, hTq⟩ := hrel
            have HTq := Lib.hid hTq
            clear hTq
            by_cases hpd : p < dl
            · obtain ⟨x, hx⟩ : ∃ x, xs[p]? = some x := ⟨_, List.getElem?_eq_getElem (by have := HXl.out; omega)⟩
              obtain ⟨V, hV⟩ : ∃ V, ws[p]? = some V := ⟨_, List.getElem?_eq_getElem (by have := HN.out; omega)⟩
              have hxm := List.mem_of_getElem? hx
              have hvm := List.mem_of_getElem? hV
              have hrow : x.c = tag p V.x := by
                have h1 : c3.done[p]? = some (x.c, x.a) := by rw [← HOD.out.eqs, List.getElem?_map, hx]; rfl
                have h2 : (ws.map CmV.x)[p]? = some V.x := by rw [List.getElem?_map, hV]; rfl
                exact HI3.out.row h1 h2
              obtain ⟨aD, oD, rfl, haD, -, hcx⟩ := (HRz.out.touch HTq.out (fun _ _ e => e)).at_ (fun a _ => a.len) HXl.out hx
              obtain ⟨A4, c4, hv4, -, -, -, hrv⟩ := (HOw.out.touch HTq.out (fun _ _ e => e)).full
              injection hv4 with ev1 ev2 ev3
              subst ev1 ev3
              obtain ⟨aW, oW, rfl, haW, -, hcv⟩ := hrv.at_ (fun a _ => a.len) HN.out.symm hV
              have HRx := Lib.hid (show wr.rangeAt aD (oD + p * 27) x.arr.toList from fun k u hk => by rw [Nat.add_assoc]; exact hcx k u hk)
              have ta := (Touch.refl (fun _ => False) wr).alloc (.cells x.arr 56)
              have HRv := Lib.hid (show (wr.alloc (.cells x.arr 56)).rangeAt aW (oW + p * 13) V.arr.toList from fun k u hk => by rw [Nat.add_assoc]; exact (ta.cell (p := ⟨aW, oW + (p * 13 + k), none⟩) haW (fun e => e)).trans (hcv k u hk))
              have hwsv := HWs3.out V hvm
              have e1 : V.arr.setIfInBounds 1 (.int .u64 2) = cmA { V.x with client := 2 } V.A V.B V.D V.k V.m V.n := by simp [CmV.arr, cmA]
              have e2 : (cmA { V.x with client := 2 } V.A V.B V.D V.k V.m V.n).setIfInBounds 2 (.int .u64 ((p : Int) + 1)) = cmA (tag p V.x) V.A V.B V.D V.k V.m V.n := by simp [cmA, tag]
              have hw1 : IntKind.i64.wrap ((p : Int) + 1) = (p : Int) + 1 := IntWalk.i64_in _ (by omega)
              have hw2 : IntKind.u64.wrap ((p : Int) + 1) = (p : Int) + 1 := IntWalk.u64_in _ (by omega)
              have HE1 := Lib.hid e1
              have HE2 := Lib.hid e2
              have HZv := Lib.hid (show Blk ((wr.alloc (.cells x.arr 56)).alloc (.cells #[.int .i64 0, .int .u64 0, .int .u64 0, .int .u64 0, .int .i64 0, .int .i64 0, .int .i64 0, .slice none 0 0, .slice none 0 0, .int .i64 0, .slice none 0 0, .int .i64 0, .int .i64 0] 35)) (wr.heap.size + 1) 35 #[.int .i64 0, .int .u64 0, .int .u64 0, .int .u64 0, .int .i64 0, .int .i64 0, .int .i64 0, .slice none 0 0, .slice none 0 0, .int .i64 0, .slice none 0 0, .int .i64 0, .int .i64 0] from by
                have := Blk.new (wr.alloc (.cells x.arr 56)) 35 #[.int .i64 0, .int .u64 0, .int .u64 0, .int .u64 0, .int .i64 0, .int .i64 0, .int .i64 0, .slice none 0 0, .slice none 0 0, .int .i64 0, .slice none 0 0, .int .i64 0, .int .i64 0]
                simpa using this)
              have HXw := Lib.hid (show Blk ((wr.alloc (.cells x.arr 56)).alloc (.cells #[.int .i64 0, .int .u64 0, .int .u64 0, .int .u64 0, .int .i64 0, .int .i64 0, .int .i64 0, .slice none 0 0, .slice none 0 0, .int .i64 0, .slice none 0 0, .int .i64 0, .int .i64 0] 35)) wr.heap.size 56 x.arr from (Blk.new wr _ _).alloc _)
              have HT0 := Lib.hid (ta.alloc (.cells #[.int .i64 0, .int .u64 0, .int .u64 0, .int .u64 0, .int .i64 0, .int .i64 0, .int .i64 0, .slice none 0 0, .slice none 0 0, .int .i64 0, .slice none 0 0, .int .i64 0, .int .i64 0] 35))
              have HCZ := Lib.hid (show (#[.int .i64 0, .int .u64 0, .int .u64 0, .int .u64 0, .int .i64 0, .int .i64 0, .int .i64 0, .slice none 0 0, .slice none 0 0, .int .i64 0, .slice none 0 0, .int .i64 0, .int .i64 0] : Array Value).size = 13 from rfl)
              have HV1c := Lib.hid (show V.arr[1]? = some (.int .u64 V.x.client) ∧ V.arr[2]? = some (.int .u64 V.x.req) from ⟨rfl, rfl⟩)
              have HTw := Lib.hid (HBD.out.cv.t.trans HTq.out (fun _ _ e => e))
              have hsx := HSm.out x hxm
              have hcm2 : CmR w (fun k => k < w.heap.size) (tag p V.x) V.A V.B V.D := ⟨hwsv.1.cal, hwsv.1.tm⟩
              have HSc := Lib.hid (fun w1 (t : Touch (fun _ => False) w w1) (hr : CmR w1 (fun k => wT.heap.size ≤ k ∧ k < wD.heap.size ∧ qD ≠ some k) x.c x.A x.B x.D) => (show Calls Try.prog 12 #[.agg (cmA x.c x.A x.B x.D x.k x.m x.n), .agg (cmA (tag p V.x) V.A V.B V.D V.k V.m V.n)] w1 fun e w' => e = .returned (.bool true) ∧ Touch (fun _ => False) w1 w' from by
                have := fcmsame_any _ (fun k => k < w.heap.size) x.A x.B x.D V.A V.B V.D x.k x.m x.n V.k V.m V.n x.c (tag p V.x) w1 hr (hcm2.touch t (fun _ _ e => e)) hsx.1 hsx.2.1 hsx.2.2.1 hsx.2.2.2.1 hwsv.2.2.1
                rw [show sameCm x.c (tag p V.x) = true from hrow ▸ sameCm_self _] at this
                exact this))
              have HRr := Lib.hid ((HOD.out.rows x hxm).cm.touch HTq.out (fun _ _ e => e))
              have HXn := Lib.hid x.size
              have HX1 := Lib.hid x.one
              have HVn := Lib.hid V.size
              have HV1 := Lib.hid V.one
              have HEx := Lib.hid x.ex_c
              have HCn := Lib.hid (cmA_size x.c x.A x.B x.D x.k x.m x.n)
              have HTn := Lib.hid (cmA_size (tag p V.x) V.A V.B V.D V.k V.m V.n)
              generalize cmA x.c x.A x.B x.D x.k x.m x.n = X13 at *
              generalize cmA { V.x with client := 2 } V.A V.B V.D V.k V.m V.n = Y13 at *
              generalize cmA (tag p V.x) V.A V.B V.D V.k V.m V.n = T13 at *
              generalize x.arr = XA at *
              generalize V.arr = VA at *
              clear hx hV hxm hvm hrow hcx hrv hcv ta hwsv hsx hcm2 e1 e2
              go_wp2_with (first
                | (refine loadC rowRs _ rfl rfl aD (oD + p * 27) rfl XA HXn.out HRx.out ?_)
                | (refine storeC rowRs _ _ rfl rfl wr _ XA rfl rfl rfl (by kernel_rfl) HXn.out HX1.out ?_)
                | (refine loadC rowCm _ rfl rfl aW (oW + p * 13) rfl VA HVn.out HRv.out ?_)
                | ((with_reducible apply HZv.out.st rowCm HCZ.out HVn.out HV1.out); exact rfl; exact rfl; exact rfl; exact rfl
                   intro w4 hb4 t4
                   have v1 := hb4.cell 1
                   have g1 := hb4.frozen 1
                   have v2 := hb4.cell 2
                   have g2 := hb4.frozen 2
                   rw [HV1c.out.1] at v1
                   rw [HV1c.out.2] at v2
                   have hbv := (hb4.set_ 1 (.int .u64 2)).set_ 2 (.int .u64 ((p : Int) + 1))
                   rw [HE1.out, HE2.out] at hbv
                   have tt := (t4.set (b := wr.heap.size + 1) (o := 1) (fun _ => rfl) (.int .u64 2)).set (b := wr.heap.size + 1) (o := 2) (fun _ => rfl) (.int .u64 ((p : Int) + 1))
                   have HBv := Lib.hid hbv
                   have HBx := Lib.hid (tt.blk HXw.out (by omega))
                   have HTa := Lib.hid (HT0.out.trans tt (S := fun _ => False) (fun k hk e => by omega))
                   clear hb4 t4 hbv tt)
                | ((with_reducible apply HBx.out.lp (k := 0) rowCm HCn.out HEx.out); exact rfl; exact rfl; exact rfl)
                | ((with_reducible apply HBv.out.ld rowCm HTn.out); exact rfl; exact rfl; exact rfl)
                | (go_at_call 12; go_must (refine (HSc.out _ (by exact HTw.out.trans HTa.out (fun _ _ e => e)) (by exact HRr.out.touch HTa.out (fun _ _ e => e))).mono ?_); rintro e w8 ⟨rfl, t8⟩; have HT8 := Lib.hid (HTa.out.trans t8 (fun _ _ e => e)); clear t8))
              go_roundw
              case rel => exact ⟨p + 1, by omega, by go_num, HTq.out.trans HT8.out (fun _ _ e => e)⟩
              case measure => simp [intOf]; omega
            · obtain rfl : p = dl := by omega
              have HBq := Lib.hid (HBD.out.far HTq.out)
              have HOq := Lib.hid (HOw.out.touch HTq.out (fun _ _ e => e))
              have HTbq := Lib.hid (HTq.out.blk HTbD.out (fun e => e))
              have HSe := Lib.hid (clsend_any HBq.out.cv.at_ HBq.out.cv.lt)
              unfold SendP at HSe
              have hwn : IntKind.u64.wrap (n : Int) = (n : Int) := IntWalk.u64_in _ (by omega)
              have hb : c3.busy = none ∨ ∃ y, c3.busy = some y := by cases c3.busy; exact .inl rfl; exact .inr ⟨_, rfl⟩
              rcases hb with hb | ⟨y, hb⟩
              · have hlt : p = n := by have := HLen3.out; rw [hb] at this; simpa using this
                have f1 : decide ((p : Int) < (n : Int)) = false := decide_eq_false (by omega)
                have f2 : decide (p < n) = false := decide_eq_false (by omega)
                rw [hb] at HSe
                simp only [Option.isSome_none, Bool.false_eq_true, if_false] at HSe
                clear hb hlt
                go_wp2_with (first
                  | (go_at_call 13; go_must (refine HSe.out.mono ?_)
                     rintro e w9 ⟨A9, n9, c9, l9, rfl, hl9, hn9, hr9, hc9, hm9, t9⟩
                     have hl9 : l9 = [] := hl9
                     have HRd := Lib.hid (fcmread_any (fun k => wr.heap.size ≤ k ∧ k < w9.heap.size) A9 c9 l9 w9 ⟨hr9.1, fun hn => by obtain ⟨g', o', h1, h2, h3, h4⟩ := hr9.2 hn; exact ⟨g', o', h1, h2, ⟨h3, h2⟩, h4⟩⟩ (fun k hk => hk.2) (hn9 ▸ hc9) hm9)
                     unfold CmPost at HRd
                     rw [← hn9] at HRd
                     have HB9 := Lib.hid (HBq.out.far t9)
                     have HO9 := Lib.hid (HOq.out.touch t9 (fun _ _ e => e))
                     have HTb9 := Lib.hid (t9.blk HTbq.out (fun e => e))
                     rw [show ((0 : Nat) : Int) = 0 from rfl]
                     clear hl9 hn9 hr9 hc9 hm9 t9)
                  | (go_at_call 14; go_must (refine HRd.out.mono ?_)
                     rintro e w10 ⟨A0, B0, D0, k0, m0, n0, rfl, hr0, t0⟩
                     rw [show (#[.int .i64 (rdAns l9).1.kind, .int .u64 (rdAns l9).1.client, .int .u64 (rdAns l9).1.req, .int .u64 (rdAns l9).1.id, .int .i64 (rdAns l9).1.con, .int .i64 (rdAns l9).1.at_, .int .i64 (rdAns l9).1.cal.off, .slice A0 (rdAns l9).1.cal.wk.length k0, .slice B0 (rdAns l9).1.cal.cl.length m0, .int .i64 (rdAns l9).1.tm.cal, .slice D0 (rdAns l9).1.tm.lv.length n0, .int .i64 (rdAns l9).1.tm.rt, .int .i64 (rdAns l9).1.tm.bk] : Array Value) = cmA (rdAns l9).1 A0 B0 D0 k0 m0 n0 from rfl]
                     have HCn := Lib.hid (cmA_size (rdAns l9).1 A0 B0 D0 k0 m0 n0)
                     have HC1 := Lib.hid (cmA_one (rdAns l9).1 A0 B0 D0 k0 m0 n0)
                     generalize cmA (rdAns l9).1 A0 B0 D0 k0 m0 n0 = X13 at *
                     generalize (rdAns l9).2 = e10 at *
                     have HB10 := Lib.hid ((HB9.out.far t0).far ((Touch.refl (fun _ => False) w10).alloc (.cells X13 35)))
                     have HO10 := Lib.hid ((HO9.out.touch t0 (fun _ _ e => e)).touch ((Touch.refl (fun _ => False) w10).alloc (.cells X13 35)) (fun _ _ e => e))
                     have HTb10 := Lib.hid ((t0.blk HTb9.out (fun e => e)).alloc (.cells X13 35))
                     clear hr0 t0)
                  | (refine storeC rowCm _ _ rfl rfl w10 _ X13 rfl rfl rfl (by kernel_rfl) HCn.out HC1.out ?_))
                go_roundw
                case rel => exact ⟨j + 1, by omega, by go_num, ws, c3, M3, F3, q, HB10.out, HI3.out, HN.out ▸ hw3, HN.out ▸ HO10.out, HZq3.out, HWs3.out, HN.out ▸ HTb10.out⟩
                case measure => simp [intOf]; omega
              · have hlt : p + 1 = n := by have := HLen3.out; rw [hb] at this; simpa using this
                have f1 : decide ((p : Int) < (n : Int)) = true := decide_eq_true (by omega)
                have f2 : decide (p < n) = true := decide_eq_true (by omega)
                have HLa := Lib.hid (HI3.out.last hb)
                rw [List.length_map, ← HN.out] at HLa
                have HFt := Lib.hid (HOk3.out.bu y hb)
                rw [hb] at HSe
                simp only [Option.isSome_some, if_true] at HSe
                have HRb := Lib.hid (cmFit_back HFt.out)
                generalize c3.at_ = at3 at *
                obtain ⟨L, hL⟩ : ∃ L, L = encC y := ⟨_, rfl⟩
                rw [← hL] at HSe HRb
                clear hb hlt hL
                go_wp2_with (first
                  | (go_at_call 13; go_must (refine HSe.out.mono ?_)
                     rintro e w9 ⟨A9, n9, c9, l9, rfl, hl9, hn9, hr9, hc9, hm9, t9⟩
                     have hl9 : l9 = L := hl9
                     rw [hl9] at hn9 hr9
                     have HRd := Lib.hid (fcmread_any (fun k => wr.heap.size ≤ k ∧ k < w9.heap.size) A9 c9 L w9 ⟨hr9.1, fun hn => by obtain ⟨g', o', h1, h2, h3, h4⟩ := hr9.2 hn; exact ⟨g', o', h1, h2, ⟨h3, h2⟩, h4⟩⟩ (fun k hk => hk.2) (hn9 ▸ hc9) hm9)
                     unfold CmPost at HRd
                     rw [HRb.out] at HRd
                     subst hn9
                     have HB9 := Lib.hid (HBq.out.far t9)
                     have HO9 := Lib.hid (HOq.out.touch t9 (fun _ _ e => e))
                     have HTb9 := Lib.hid (t9.blk HTbq.out (fun e => e))
                     clear hl9 hr9 hc9 hm9 t9)
                  | (go_at_call 14; go_must (refine HRd.out.mono ?_)
                     rintro e w10 ⟨A0, B0, D0, k0, m0, n0, rfl, hr0, t0⟩
                     rw [show (#[.int .i64 (y, (0 : Int)).1.kind, .int .u64 (y, (0 : Int)).1.client, .int .u64 (y, (0 : Int)).1.req, .int .u64 (y, (0 : Int)).1.id, .int .i64 (y, (0 : Int)).1.con, .int .i64 (y, (0 : Int)).1.at_, .int .i64 (y, (0 : Int)).1.cal.off, .slice A0 (y, (0 : Int)).1.cal.wk.length k0, .slice B0 (y, (0 : Int)).1.cal.cl.length m0, .int .i64 (y, (0 : Int)).1.tm.cal, .slice D0 (y, (0 : Int)).1.tm.lv.length n0, .int .i64 (y, (0 : Int)).1.tm.rt, .int .i64 (y, (0 : Int)).1.tm.bk] : Array Value) = cmA y A0 B0 D0 k0 m0 n0 from rfl]
                     have HCn := Lib.hid (cmA_size y A0 B0 D0 k0 m0 n0)
                     have HC1 := Lib.hid (cmA_one y A0 B0 D0 k0 m0 n0)
                     have hq1 : (cmA y A0 B0 D0 k0 m0 n0)[1]? = some (.int .u64 2) := by rw [show (cmA y A0 B0 D0 k0 m0 n0)[1]? = some (.int .u64 y.client) from rfl, HLa.out.2]; rfl
                     have hq2 : (cmA y A0 B0 D0 k0 m0 n0)[2]? = some (.int .u64 n) := by rw [show (cmA y A0 B0 D0 k0 m0 n0)[2]? = some (.int .u64 y.req) from rfl, HLa.out.1]
                     obtain ⟨X13, hX13⟩ : ∃ X, X = cmA y A0 B0 D0 k0 m0 n0 := ⟨_, rfl⟩
                     rw [← hX13] at HCn HC1 hq1 hq2 ⊢
                     have r1 := (Blk.new w10 35 X13).cell 1
                     have r2 := (Blk.new w10 35 X13).cell 2
                     rw [hq1] at r1
                     rw [hq2] at r2
                     have HB10 := Lib.hid ((HB9.out.far t0).far ((Touch.refl (fun _ => False) w10).alloc (.cells X13 35)))
                     have HO10 := Lib.hid ((HO9.out.touch t0 (fun _ _ e => e)).touch ((Touch.refl (fun _ => False) w10).alloc (.cells X13 35)) (fun _ _ e => e))
                     have HTb10 := Lib.hid ((t0.blk HTb9.out (fun e => e)).alloc (.cells X13 35))
                     clear hr0 t0 hX13 hq1 hq2)
                  | (refine storeC rowCm _ _ rfl rfl w10 _ X13 rfl rfl rfl (by kernel_rfl) HCn.out HC1.out ?_))
                go_roundw
                case rel => exact ⟨j + 1, by omega, by go_num, ws, c3, M3, F3, q, HB10.out, HI3.out, HN.out ▸ hw3, HN.out ▸ HO10.out, HZq3.out, HWs3.out, HN.out ▸ HTb10.out⟩
                case measure => simp [intOf]; omega
      have hk1 := hk
      have hk2 := hk'
      clear hk hk'
      by_cases hE : c.wantE o.x = 0
      ·
        as_aux_lemma =>
          obtain ⟨VN, hVN⟩ : ∃ VN : CmV, VN = ⟨o.x, o.A, o.B, o.D, o.k, o.m, o.n⟩ := ⟨_, rfl⟩
          obtain ⟨ws3, hws3⟩ : ∃ ws3, ws3 = ws ++ [VN] := ⟨_, rfl⟩
          have hl3 : ws3.length = ws.length + 1 := by rw [hws3]; simp
          have HL3 := Lib.hid hl3
          have HI3 := Lib.hid (show OnceI (c.want o.x) (ws3.map CmV.x) from by rw [hws3, List.map_append]; have := HI.out.yes hE; rw [hVN]; exact this)
          have HWs3 := Lib.hid (show WsOk w ws3 from by
            intro v hv
            rw [hws3] at hv
            rcases List.mem_append.1 hv with hv | hv
            · exact HWs.out v hv
            · obtain rfl : v = VN := by simpa using hv
              rw [hVN]
              exact ⟨HOo.out.cm, (lightK_in HLk1.out).1, HOo.out.x64⟩)
          have hw3 : ws3.length ≤ j + 1 := by omega
          have HFl := Lib.hid (show ws3.flatMap CmV.cells = ws.flatMap CmV.cells ++ VN.cells from by rw [hws3, List.flatMap_append]; simp)
          have HVa := Lib.hid (show VN.arr = cmA o.x o.A o.B o.D o.k o.m o.n by rw [hVN]; rfl)
          have HVl := Lib.hid VN.len
          have HV1 := Lib.hid VN.one_mem
          have HFo := Lib.hid (foldV VN)
          have hvn := VN.size

          have hb1 : (o.kind == 1) = false := by simpa using hk1
          have hb2 : (o.kind == 2) = false := by simpa using hk2
          have hb3 : (o.kind != 1) = true := by simp [bne, hb1]
          have hb4 : (o.kind != 2) = true := by simp [bne, hb2]
          have hli := (lightK_in HLk1.out).1
          have HCw := Lib.hid (clwant_any HBA.out.cv.at_ HBA.out.cv.lt o.x HOo.out.x64 o.A o.B o.D o.k o.m o.n (fun k => k < w.heap.size) (HOo.out.cm.touch HBA.out.cv.t (fun _ _ e => e)) (fun k hk => by have := HBA.out.cv.t.size; omega) hli)
          have HGo := Lib.hid (fun e w3 hp => HBA.out.go (cr' := crO 0) (Mr' := RfM.nil) (Fr' := fun _ => False) (c' := c.want o.x) (w2 := w3) (e := e) (v := .int .i64 (c.wantE o.x)) (Touch.refl _ WA) (RfR.nil WA (fun _ => False) 0) (fun _ e => e.elim) hp)
          have HEE := Lib.hid hE
          have HCn := Lib.hid (cmA_size o.x o.A o.B o.D o.k o.m o.n)

          rw [HEE.out] at HCw HGo
          obtain ⟨c3, hc3⟩ : ∃ c3, c3 = c.want o.x := ⟨_, rfl⟩
          rw [← hc3] at HI3 HCw HGo
          rw [← HVa.out] at HCw HEc HCn
          have HVc := Lib.hid (show VN.cells = VN.arr.toList from rfl)
          generalize VN.cells = VL at *
          generalize VN.arr = X13 at *
          clear hc3 hE hk1 hk2 hli hws3 hl3

          go_wp2_with (first
            | (refine loadC rowOpC _ rfl rfl a (off + j * 32) rfl OC HOn.out HRg.out ?_)
            | (refine storeC rowOpC _ _ rfl rfl wr _ OC rfl rfl rfl (by kernel_rfl) HOn.out HO1.out ?_; rw [← HWA.out])
            | ((with_reducible apply HBo.out.lp (k := 1) rowCm HCn.out HEc.out); exact rfl; exact rfl; exact rfl))
          refine HCw.out.mono ?_
          intro e w3 hp
          obtain ⟨M3, F3, rfl, hb3', t3⟩ := HGo.out e w3 hp
          have hgA := HBA.out.cv.at_.blk.lt
          have HB3w := Lib.hid hb3'
          have HBo3 := Lib.hid (t3.blk HBo.out (fun e => by rcases e with e | e; omega; have := HqA.out _ e; omega))
          have HTb3w := Lib.hid (t3.blk HTbA.out (fun e => by rcases e with e | e; exact (HBA.out.z tb (.inl rfl)).2.2.1 e; exact (HBA.out.z tb (.inl rfl)).2.2.2.1 e))
          have HO3w := Lib.hid (HOA.out.touch t3 (fun k hk e => by rcases e with e | e; exact (HBA.out.z k (.inr hk)).2.2.1 e; exact (HBA.out.z k (.inr hk)).2.2.2.1 e))
          have hz3 := t3.size
          clear hp hb3' t3 hgA

          go_upto_region 11 with (first
            | ((with_reducible apply HBo3.out.lp (k := 1) rowCm HCn.out HEc.out); exact rfl; exact rfl; exact rfl)
            | (at_builtin
               rw [HFo.out]
               have HBn := Lib.hid (Blk.new w3 35 X13)
               have HOn3 := Lib.hid (HO3w.out.touch ((Touch.refl (fun _ => False) w3).alloc (.cells X13 35)) (fun _ _ e => e))
               go_must (refine wpList_own_append rfl _ _ 39 39 rfl 35 i0 _ 13 152 Try.underlying39 hi hz0 hz1 hz2 rfl _ q ws.length (ws.flatMap CmV.cells) rfl (by exact HOn3.out) _ 1 VL rfl (by rw [HVc.out]; exact Src.lit Try.underlying39 w3.heap.size 1 1 35 X13 HBn.out (by rw [← HVc.out]; exact HVl.out) HV1.out) (by simp only [maxLen]; omega) (by omega) ?_)
               intro v8 r8 w8 ho8 t8 hr8
               rw [← HFl.out, ← HL3.out] at ho8
               have HO8 := Lib.hid ho8
               have ta := ((Touch.refl (fun k => q = some k) w3).alloc (.cells X13 35)).trans t8 (fun _ _ e => e)
               have HT8 := Lib.hid ta
               have HR8 := Lib.hid hr8
               obtain ⟨A8, c8, hv8, -⟩ := ho8.form
               subst hv8
               clear ho8 t8 hr8 ta))
          have hz8 := HT8.out.size
          have hrk : ∀ k, r8 = some k → q = some k ∨ w3.heap.size ≤ k := by
            intro k hk
            rcases HR8.out with e | ⟨k', e, hk'⟩
            · exact .inl (e ▸ hk)
            · rw [e] at hk; injection hk with hk; subst hk; simp at hk'; exact .inr (by omega)
          have hq3 : ∀ k, q = some k → k < wr.heap.size := HQl.out
          have HTbX := Lib.hid (HT8.out.blk HTb3w.out (fun e => HZq.out _ e rfl))
          have HBoX := Lib.hid (HT8.out.blk HBo3.out (fun e => by have := hq3 _ e; omega))
          have HOX := Lib.hid HO8.out
          have htl := HTbX.out.lt
          have HZq3 := Lib.hid (show ∀ k, r8 = some k → k ≠ tb from fun k hk => by
            rcases hrk k hk with h | h
            · exact HZq.out k h
            · omega)
          have HBX := Lib.hid (HB3w.out.grow (Z' := fun k => k = tb ∨ r8 = some k) HT8.out (fun k e => .inr e) (fun k hk => by
            rcases hk with hk | hk
            · subst hk; exact ⟨.inl (.inl rfl), htl⟩
            · refine ⟨?_, HO8.out.lt k hk⟩
              rcases hrk k hk with h | h
              · exact .inl (.inr h)
              · exact .inr h))
          clear hrk hq3

          have hwn0 : IntKind.u64.wrap (ws3.length : Int) = (ws3.length : Int) := IntWalk.u64_in _ (by omega)
          have x2 := HTbX.out.cell 2
          have f2 := HTbX.out.frozen 2
          rw [HX2.out] at x2
          have ts := (Touch.refl (fun k => k = tb) w8).set (b := tb) (o := 2) (fun _ => rfl) (.int .u64 (ws3.length : Nat))
          have hbs := HTbX.out.set_ 2 (.int .u64 (ws3.length : Nat))
          rw [rfC_set (crO ws.length) (crO ws3.length) RfM.nil RfM.nil 2 (.int .u64 (ws3.length : Nat)) rfl rfl (by simp [crO]) (by omega)] at hbs
          have HBS := Lib.hid ((HBX.out.zset ts (fun k e => .inl e)).reref ws3.length)
          have HTbS := Lib.hid hbs
          have HBoS := Lib.hid (ts.blk HBoX.out (by omega))
          have k0s := HBoS.out.cell 0
          rw [HK0.out] at k0s
          have HOS := Lib.hid (HOX.out.touch ts (fun k hk e => HZq3.out k hk e))
          obtain ⟨wS, hwS⟩ : ∃ wS, wS = (w8).setCell ⟨tb, 2, none⟩ (.int .u64 (ws3.length : Nat)) := ⟨_, rfl⟩
          rw [← hwS] at HBS HTbS HBoS HOS k0s
          have HwS := Lib.hid hwS
          clear ts hbs hwS

          try rw [← HL3.out]
          go_upto_region 12 with fail
          rw [← HwS.out]
          go_wp2_with fail
          obtain ⟨wT, hwT⟩ : ∃ wT, wT = wS := ⟨_, rfl⟩
          rw [← hwT] at HBS HTbS HOS ⊢
          have HB3 := Lib.hid (HBS.out.reref 0)
          have HTb3 := Lib.hid HTbS.out
          have HO3 := Lib.hid HOS.out
          clear hwT x2 f2 k0s k0
          have HLen3 := Lib.hid HI3.out.len
          rw [List.length_map] at HLen3
          have hdw3 : c3.done.length ≤ ws3.length := by have := HLen3.out; omega
          have HDn := Lib.hid (cldone_any HB3.out.cv.at_ HB3.out.cv.lt (by omega))
          unfold DoneP at HDn
          have HOk3 := Lib.hid HB3.out.cv.at_.ok
          obtain ⟨n, hn⟩ : ∃ n, n = ws3.length := ⟨_, rfl⟩
          obtain ⟨dl, hdl⟩ : ∃ dl, dl = c3.done.length := ⟨_, rfl⟩
          have HN := Lib.hid hn
          have HDl := Lib.hid hdl
          rw [← hdl] at HLen3 hdw3
          rw [← hn] at HLen3 hdw3 hw3 HTb3 HO3 ⊢
          have e1 : decide ((n : Int) < (dl : Int)) = false := decide_eq_false (by omega)
          have e2 : decide (n < dl) = false := decide_eq_false (by omega)
          have hdn : n ≤ dl + 1 := by have := HLen3.out; split at this <;> omega
          have e3 : decide ((dl : Int) + 1 < (n : Int)) = false := decide_eq_false (by omega)
          have e4 : decide (dl + 1 < n) = false := decide_eq_false (by omega)
          have hwd : IntKind.i64.wrap ((dl : Int) + 1) = (dl : Int) + 1 := IntWalk.i64_in _ (by omega)
          clear hn hdl
          go_wp2_with (go_at_call 11; go_must (refine HDn.out.mono ?_); rintro e wD ⟨vD, qD, xs, rfl, hoD, tD⟩
                       obtain ⟨AD, cD, hvD, -, -, -, hrz⟩ := hoD.own.full
                       rw [← HDl.out] at hvD hrz
                       subst hvD
                       have HOD := Lib.hid hoD
                       have HRz := Lib.hid hrz
                       have HTD := Lib.hid tD
                       clear hoD tD hrz)
          have HBD := Lib.hid (HB3.out.far HTD.out)
          have HOw := Lib.hid (HO3.out.touch HTD.out (fun _ _ e => e))
          have HTbD := Lib.hid (HTD.out.blk HTb3.out (fun e => e))
          have hxl : xs.length = dl := by rw [HDl.out, ← HOD.out.eqs]; simp
          have HXl := Lib.hid hxl
          have HSm := Lib.hid (SmallR.of HOk3.out HOD.out.eqs)
          clear e1 e2 e3 e4 hwd hxl
          go_loopw [82] (fun i wq => ∃ p : Nat, p ≤ dl ∧ i = .int .i64 p ∧ Touch (fun _ => False) wD wq) (fun i _ => dl - (intOf i).toNat)
          case atStart => exact ⟨0, by omega, rfl, Touch.refl _ _⟩
          case round =>
            obtain ⟨p, hp, rfl, hTq⟩ := hrel
            have HTq := Lib.hid hTq
            clear hTq
            by_cases hpd : p < dl
            · obtain ⟨x, hx⟩ : ∃ x, xs[p]? = some x := ⟨_, List.getElem?_eq_getElem (by have := HXl.out; omega)⟩
              obtain ⟨V, hV⟩ : ∃ V, ws3[p]? = some V := ⟨_, List.getElem?_eq_getElem (by have := HN.out; omega)⟩
              have hxm := List.mem_of_getElem? hx
              have hvm := List.mem_of_getElem? hV
              have hrow : x.c = tag p V.x := by
                have h1 : c3.done[p]? = some (x.c, x.a) := by rw [← HOD.out.eqs, List.getElem?_map, hx]; rfl
                have h2 : (ws3.map CmV.x)[p]? = some V.x := by rw [List.getElem?_map, hV]; rfl
                exact HI3.out.row h1 h2
              obtain ⟨aD, oD, rfl, haD, -, hcx⟩ := (HRz.out.touch HTq.out (fun _ _ e => e)).at_ (fun a _ => a.len) HXl.out hx
              obtain ⟨A4, c4, hv4, -, -, -, hrv⟩ := (HOw.out.touch HTq.out (fun _ _ e => e)).full
              injection hv4 with ev1 ev2 ev3
              subst ev1 ev3
              obtain ⟨aW, oW, rfl, haW, -, hcv⟩ := hrv.at_ (fun a _ => a.len) HN.out.symm hV
              have HRx := Lib.hid (show wr.rangeAt aD (oD + p * 27) x.arr.toList from fun k u hk => by rw [Nat.add_assoc]; exact hcx k u hk)
              have ta := (Touch.refl (fun _ => False) wr).alloc (.cells x.arr 56)
              have HRv := Lib.hid (show (wr.alloc (.cells x.arr 56)).rangeAt aW (oW + p * 13) V.arr.toList from fun k u hk => by rw [Nat.add_assoc]; exact (ta.cell (p := ⟨aW, oW + (p * 13 + k), none⟩) haW (fun e => e)).trans (hcv k u hk))
              have hwsv := HWs3.out V hvm
              have e1 : V.arr.setIfInBounds 1 (.int .u64 2) = cmA { V.x with client := 2 } V.A V.B V.D V.k V.m V.n := by simp [CmV.arr, cmA]
              have e2 : (cmA { V.x with client := 2 } V.A V.B V.D V.k V.m V.n).setIfInBounds 2 (.int .u64 ((p : Int) + 1)) = cmA (tag p V.x) V.A V.B V.D V.k V.m V.n := by simp [cmA, tag]
              have hw1 : IntKind.i64.wrap ((p : Int) + 1) = (p : Int) + 1 := IntWalk.i64_in _ (by omega)
              have hw2 : IntKind.u64.wrap ((p : Int) + 1) = (p : Int) + 1 := IntWalk.u64_in _ (by omega)
              have HE1 := Lib.hid e1
              have HE2 := Lib.hid e2
              have HZv := Lib.hid (show Blk ((wr.alloc (.cells x.arr 56)).alloc (.cells #[.int .i64 0, .int .u64 0, .int .u64 0, .int .u64 0, .int .i64 0, .int .i64 0, .int .i64 0, .slice none 0 0, .slice none 0 0, .int .i64 0, .slice none 0 0, .int .i64 0, .int .i64 0] 35)) (wr.heap.size + 1) 35 #[.int .i64 0, .int .u64 0, .int .u64 0, .int .u64 0, .int .i64 0, .int .i64 0, .int .i64 0, .slice none 0 0, .slice none 0 0, .int .i64 0, .slice none 0 0, .int .i64 0, .int .i64 0] from by
                have := Blk.new (wr.alloc (.cells x.arr 56)) 35 #[.int .i64 0, .int .u64 0, .int .u64 0, .int .u64 0, .int .i64 0, .int .i64 0, .int .i64 0, .slice none 0 0, .slice none 0 0, .int .i64 0, .slice none 0 0, .int .i64 0, .int .i64 0]
                simpa using this)
              have HXw := Lib.hid (show Blk ((wr.alloc (.cells x.arr 56)).alloc (.cells #[.int .i64 0, .int .u64 0, .int .u64 0, .int .u64 0, .int .i64 0, .int .i64 0, .int .i64 0, .slice none 0 0, .slice none 0 0, .int .i64 0, .slice none 0 0, .int .i64 0, .int .i64 0] 35)) wr.heap.size 56 x.arr from (Blk.new wr _ _).alloc _)
              have HT0 := Lib.hid (ta.alloc (.cells #[.int .i64 0, .int .u64 0, .int .u64 0, .int .u64 0, .int .i64 0, .int .i64 0, .int .i64 0, .slice none 0 0, .slice none 0 0, .int .i64 0, .slice none 0 0, .int .i64 0, .int .i64 0] 35))
              have HCZ := Lib.hid (show (#[.int .i64 0, .int .u64 0, .int .u64 0, .int .u64 0, .int .i64 0, .int .i64 0, .int .i64 0, .slice none 0 0, .slice none 0 0, .int .i64 0, .slice none 0 0, .int .i64 0, .int .i64 0] : Array Value).size = 13 from rfl)
              have HV1c := Lib.hid (show V.arr[1]? = some (.int .u64 V.x.client) ∧ V.arr[2]? = some (.int .u64 V.x.req) from ⟨rfl, rfl⟩)
              have HTw := Lib.hid (HBD.out.cv.t.trans HTq.out (fun _ _ e => e))
              have hsx := HSm.out x hxm
              have hcm2 : CmR w (fun k => k < w.heap.size) (tag p V.x) V.A V.B V.D := ⟨hwsv.1.cal, hwsv.1.tm⟩
              have HSc := Lib.hid (fun w1 (t : Touch (fun _ => False) w w1) (hr : CmR w1 (fun k => wT.heap.size ≤ k ∧ k < wD.heap.size ∧ qD ≠ some k) x.c x.A x.B x.D) => (show Calls Try.prog 12 #[.agg (cmA x.c x.A x.B x.D x.k x.m x.n), .agg (cmA (tag p V.x) V.A V.B V.D V.k V.m V.n)] w1 fun e w' => e = .returned (.bool true) ∧ Touch (fun _ => False) w1 w' from by
                have := fcmsame_any _ (fun k => k < w.heap.size) x.A x.B x.D V.A V.B V.D x.k x.m x.n V.k V.m V.n x.c (tag p V.x) w1 hr (hcm2.touch t (fun _ _ e => e)) hsx.1 hsx.2.1 hsx.2.2.1 hsx.2.2.2.1 hwsv.2.2.1
                rw [show sameCm x.c (tag p V.x) = true from hrow ▸ sameCm_self _] at this
                exact this))
              have HRr := Lib.hid ((HOD.out.rows x hxm).cm.touch HTq.out (fun _ _ e => e))
              have HXn := Lib.hid x.size
              have HX1 := Lib.hid x.one
              have HVn := Lib.hid V.size
              have HV1 := Lib.hid V.one
              have HEx := Lib.hid x.ex_c
              have HCn := Lib.hid (cmA_size x.c x.A x.B x.D x.k x.m x.n)
              have HTn := Lib.hid (cmA_size (tag p V.x) V.A V.B V.D V.k V.m V.n)
              generalize cmA x.c x.A x.B x.D x.k x.m x.n = X13 at *
              generalize cmA { V.x with client := 2 } V.A V.B V.D V.k V.m V.n = Y13 at *
              generalize cmA (tag p V.x) V.A V.B V.D V.k V.m V.n = T13 at *
              generalize x.arr = XA at *
              generalize V.arr = VA at *
              clear hx hV hxm hvm hrow hcx hrv hcv ta hwsv hsx hcm2 e1 e2
              go_wp2_with (first
                | (refine loadC rowRs _ rfl rfl aD (oD + p * 27) rfl XA HXn.out HRx.out ?_)
                | (refine storeC rowRs _ _ rfl rfl wr _ XA rfl rfl rfl (by kernel_rfl) HXn.out HX1.out ?_)
                | (refine loadC rowCm _ rfl rfl aW (oW + p * 13) rfl VA HVn.out HRv.out ?_)
                | ((with_reducible apply HZv.out.st rowCm HCZ.out HVn.out HV1.out); exact rfl; exact rfl; exact rfl; exact rfl
                   intro w4 hb4 t4
                   have v1 := hb4.cell 1
                   have g1 := hb4.frozen 1
                   have v2 := hb4.cell 2
                   have g2 := hb4.frozen 2
                   rw [HV1c.out.1] at v1
                   rw [HV1c.out.2] at v2
                   have hbv := (hb4.set_ 1 (.int .u64 2)).set_ 2 (.int .u64 ((p : Int) + 1))
                   rw [HE1.out, HE2.out] at hbv
                   have tt := (t4.set (b := wr.heap.size + 1) (o := 1) (fun _ => rfl) (.int .u64 2)).set (b := wr.heap.size + 1) (o := 2) (fun _ => rfl) (.int .u64 ((p : Int) + 1))
                   have HBv := Lib.hid hbv
                   have HBx := Lib.hid (tt.blk HXw.out (by omega))
                   have HTa := Lib.hid (HT0.out.trans tt (S := fun _ => False) (fun k hk e => by omega))
                   clear hb4 t4 hbv tt)
                | ((with_reducible apply HBx.out.lp (k := 0) rowCm HCn.out HEx.out); exact rfl; exact rfl; exact rfl)
                | ((with_reducible apply HBv.out.ld rowCm HTn.out); exact rfl; exact rfl; exact rfl)
                | (go_at_call 12; go_must (refine (HSc.out _ (by exact HTw.out.trans HTa.out (fun _ _ e => e)) (by exact HRr.out.touch HTa.out (fun _ _ e => e))).mono ?_); rintro e w8 ⟨rfl, t8⟩; have HT8 := Lib.hid (HTa.out.trans t8 (fun _ _ e => e)); clear t8))
              go_roundw
              case rel => exact ⟨p + 1, by omega, by go_num, HTq.out.trans HT8.out (fun _ _ e => e)⟩
              case measure => simp [intOf]; omega
            · obtain rfl : p = dl := by omega
              have HBq := Lib.hid (HBD.out.far HTq.out)
              have HOq := Lib.hid (HOw.out.touch HTq.out (fun _ _ e => e))
              have HTbq := Lib.hid (HTq.out.blk HTbD.out (fun e => e))
              have HSe := Lib.hid (clsend_any HBq.out.cv.at_ HBq.out.cv.lt)
              unfold SendP at HSe
              have hwn : IntKind.u64.wrap (n : Int) = (n : Int) := IntWalk.u64_in _ (by omega)
              have hb : c3.busy = none ∨ ∃ y, c3.busy = some y := by cases c3.busy; exact .inl rfl; exact .inr ⟨_, rfl⟩
              rcases hb with hb | ⟨y, hb⟩
              · have hlt : p = n := by have := HLen3.out; rw [hb] at this; simpa using this
                have f1 : decide ((p : Int) < (n : Int)) = false := decide_eq_false (by omega)
                have f2 : decide (p < n) = false := decide_eq_false (by omega)
                rw [hb] at HSe
                simp only [Option.isSome_none, Bool.false_eq_true, if_false] at HSe
                clear hb hlt
                go_wp2_with (first
                  | (go_at_call 13; go_must (refine HSe.out.mono ?_)
                     rintro e w9 ⟨A9, n9, c9, l9, rfl, hl9, hn9, hr9, hc9, hm9, t9⟩
                     have hl9 : l9 = [] := hl9
                     have HRd := Lib.hid (fcmread_any (fun k => wr.heap.size ≤ k ∧ k < w9.heap.size) A9 c9 l9 w9 ⟨hr9.1, fun hn => by obtain ⟨g', o', h1, h2, h3, h4⟩ := hr9.2 hn; exact ⟨g', o', h1, h2, ⟨h3, h2⟩, h4⟩⟩ (fun k hk => hk.2) (hn9 ▸ hc9) hm9)
                     unfold CmPost at HRd
                     rw [← hn9] at HRd
                     have HB9 := Lib.hid (HBq.out.far t9)
                     have HO9 := Lib.hid (HOq.out.touch t9 (fun _ _ e => e))
                     have HTb9 := Lib.hid (t9.blk HTbq.out (fun e => e))
                     rw [show ((0 : Nat) : Int) = 0 from rfl]
                     clear hl9 hn9 hr9 hc9 hm9 t9)
                  | (go_at_call 14; go_must (refine HRd.out.mono ?_)
                     rintro e w10 ⟨A0, B0, D0, k0, m0, n0, rfl, hr0, t0⟩
                     rw [show (#[.int .i64 (rdAns l9).1.kind, .int .u64 (rdAns l9).1.client, .int .u64 (rdAns l9).1.req, .int .u64 (rdAns l9).1.id, .int .i64 (rdAns l9).1.con, .int .i64 (rdAns l9).1.at_, .int .i64 (rdAns l9).1.cal.off, .slice A0 (rdAns l9).1.cal.wk.length k0, .slice B0 (rdAns l9).1.cal.cl.length m0, .int .i64 (rdAns l9).1.tm.cal, .slice D0 (rdAns l9).1.tm.lv.length n0, .int .i64 (rdAns l9).1.tm.rt, .int .i64 (rdAns l9).1.tm.bk] : Array Value) = cmA (rdAns l9).1 A0 B0 D0 k0 m0 n0 from rfl]
                     have HCn := Lib.hid (cmA_size (rdAns l9).1 A0 B0 D0 k0 m0 n0)
                     have HC1 := Lib.hid (cmA_one (rdAns l9).1 A0 B0 D0 k0 m0 n0)
                     generalize cmA (rdAns l9).1 A0 B0 D0 k0 m0 n0 = X13 at *
                     generalize (rdAns l9).2 = e10 at *
                     have HB10 := Lib.hid ((HB9.out.far t0).far ((Touch.refl (fun _ => False) w10).alloc (.cells X13 35)))
                     have HO10 := Lib.hid ((HO9.out.touch t0 (fun _ _ e => e)).touch ((Touch.refl (fun _ => False) w10).alloc (.cells X13 35)) (fun _ _ e => e))
                     have HTb10 := Lib.hid ((t0.blk HTb9.out (fun e => e)).alloc (.cells X13 35))
                     clear hr0 t0)
                  | (refine storeC rowCm _ _ rfl rfl w10 _ X13 rfl rfl rfl (by kernel_rfl) HCn.out HC1.out ?_))
                go_roundw
                case rel => exact ⟨j + 1, by omega, by go_num, ws3, c3, M3, F3, r8, HB10.out, HI3.out, HN.out ▸ hw3, HN.out ▸ HO10.out, HZq3.out, HWs3.out, HN.out ▸ HTb10.out⟩
                case measure => simp [intOf]; omega
              · have hlt : p + 1 = n := by have := HLen3.out; rw [hb] at this; simpa using this
                have f1 : decide ((p : Int) < (n : Int)) = true := decide_eq_true (by omega)
                have f2 : decide (p < n) = true := decide_eq_true (by omega)
                have HLa := Lib.hid (HI3.out.last hb)
                rw [List.length_map, ← HN.out] at HLa
                have HFt := Lib.hid (HOk3.out.bu y hb)
                rw [hb] at HSe
                simp only [Option.isSome_some, if_true] at HSe
                have HRb := Lib.hid (cmFit_back HFt.out)
                generalize c3.at_ = at3 at *
                obtain ⟨L, hL⟩ : ∃ L, L = encC y := ⟨_, rfl⟩
                rw [← hL] at HSe HRb
                clear hb hlt hL
                go_wp2_with (first
                  | (go_at_call 13; go_must (refine HSe.out.mono ?_)
                     rintro e w9 ⟨A9, n9, c9, l9, rfl, hl9, hn9, hr9, hc9, hm9, t9⟩
                     have hl9 : l9 = L := hl9
                     rw [hl9] at hn9 hr9
                     have HRd := Lib.hid (fcmread_any (fun k => wr.heap.size ≤ k ∧ k < w9.heap.size) A9 c9 L w9 ⟨hr9.1, fun hn => by obtain ⟨g', o', h1, h2, h3, h4⟩ := hr9.2 hn; exact ⟨g', o', h1, h2, ⟨h3, h2⟩, h4⟩⟩ (fun k hk => hk.2) (hn9 ▸ hc9) hm9)
                     unfold CmPost at HRd
                     rw [HRb.out] at HRd
                     subst hn9
                     have HB9 := Lib.hid (HBq.out.far t9)
                     have HO9 := Lib.hid (HOq.out.touch t9 (fun _ _ e => e))
                     have HTb9 := Lib.hid (t9.blk HTbq.out (fun e => e))
                     clear hl9 hr9 hc9 hm9 t9)
                  | (go_at_call 14; go_must (refine HRd.out.mono ?_)
                     rintro e w10 ⟨A0, B0, D0, k0, m0, n0, rfl, hr0, t0⟩
                     rw [show (#[.int .i64 (y, (0 : Int)).1.kind, .int .u64 (y, (0 : Int)).1.client, .int .u64 (y, (0 : Int)).1.req, .int .u64 (y, (0 : Int)).1.id, .int .i64 (y, (0 : Int)).1.con, .int .i64 (y, (0 : Int)).1.at_, .int .i64 (y, (0 : Int)).1.cal.off, .slice A0 (y, (0 : Int)).1.cal.wk.length k0, .slice B0 (y, (0 : Int)).1.cal.cl.length m0, .int .i64 (y, (0 : Int)).1.tm.cal, .slice D0 (y, (0 : Int)).1.tm.lv.length n0, .int .i64 (y, (0 : Int)).1.tm.rt, .int .i64 (y, (0 : Int)).1.tm.bk] : Array Value) = cmA y A0 B0 D0 k0 m0 n0 from rfl]
                     have HCn := Lib.hid (cmA_size y A0 B0 D0 k0 m0 n0)
                     have HC1 := Lib.hid (cmA_one y A0 B0 D0 k0 m0 n0)
                     have hq1 : (cmA y A0 B0 D0 k0 m0 n0)[1]? = some (.int .u64 2) := by rw [show (cmA y A0 B0 D0 k0 m0 n0)[1]? = some (.int .u64 y.client) from rfl, HLa.out.2]; rfl
                     have hq2 : (cmA y A0 B0 D0 k0 m0 n0)[2]? = some (.int .u64 n) := by rw [show (cmA y A0 B0 D0 k0 m0 n0)[2]? = some (.int .u64 y.req) from rfl, HLa.out.1]
                     obtain ⟨X13, hX13⟩ : ∃ X, X = cmA y A0 B0 D0 k0 m0 n0 := ⟨_, rfl⟩
                     rw [← hX13] at HCn HC1 hq1 hq2 ⊢
                     have r1 := (Blk.new w10 35 X13).cell 1
                     have r2 := (Blk.new w10 35 X13).cell 2
                     rw [hq1] at r1
                     rw [hq2] at r2
                     have HB10 := Lib.hid ((HB9.out.far t0).far ((Touch.refl (fun _ => False) w10).alloc (.cells X13 35)))
                     have HO10 := Lib.hid ((HO9.out.touch t0 (fun _ _ e => e)).touch ((Touch.refl (fun _ => False) w10).alloc (.cells X13 35)) (fun _ _ e => e))
                     have HTb10 := Lib.hid ((t0.blk HTb9.out (fun e => e)).alloc (.cells X13 35))
                     clear hr0 t0 hX13 hq1 hq2)
                  | (refine storeC rowCm _ _ rfl rfl w10 _ X13 rfl rfl rfl (by kernel_rfl) HCn.out HC1.out ?_))
                go_roundw
                case rel => exact ⟨j + 1, by omega, by go_num, ws3, c3, M3, F3, r8, HB10.out, HI3.out, HN.out ▸ hw3, HN.out ▸ HO10.out, HZq3.out, HWs3.out, HN.out ▸ HTb10.out⟩
                case measure => simp [intOf]; omega
      ·
        as_aux_lemma =>
          have HI3 := Lib.hid (HI.out.no hE)
          have HWs3 := Lib.hid HWs.out
          have hw3 : ws.length ≤ j + 1 := by omega
          have HZq3 := Lib.hid HZq.out
          have hE0 : (c.wantE o.x == 0) = false := by simpa using hE

          have hb1 : (o.kind == 1) = false := by simpa using hk1
          have hb2 : (o.kind == 2) = false := by simpa using hk2
          have hb3 : (o.kind != 1) = true := by simp [bne, hb1]
          have hb4 : (o.kind != 2) = true := by simp [bne, hb2]
          have hli := (lightK_in HLk1.out).1
          have HCw := Lib.hid (clwant_any HBA.out.cv.at_ HBA.out.cv.lt o.x HOo.out.x64 o.A o.B o.D o.k o.m o.n (fun k => k < w.heap.size) (HOo.out.cm.touch HBA.out.cv.t (fun _ _ e => e)) (fun k hk => by have := HBA.out.cv.t.size; omega) hli)
          have HGo := Lib.hid (fun e w3 hp => HBA.out.go (cr' := crO 0) (Mr' := RfM.nil) (Fr' := fun _ => False) (c' := c.want o.x) (w2 := w3) (e := e) (v := .int .i64 (c.wantE o.x)) (Touch.refl _ WA) (RfR.nil WA (fun _ => False) 0) (fun _ e => e.elim) hp)
          have HEE := Lib.hid hE
          have HCn := Lib.hid (cmA_size o.x o.A o.B o.D o.k o.m o.n)

          obtain ⟨c3, hc3⟩ : ∃ c3, c3 = c.want o.x := ⟨_, rfl⟩
          rw [← hc3] at HI3 HCw HGo
          generalize c.wantE o.x = EE at *
          obtain ⟨X13, hX13⟩ : ∃ X, X = cmA o.x o.A o.B o.D o.k o.m o.n := ⟨_, rfl⟩
          rw [← hX13] at HCw HEc HCn
          clear hc3 hE hX13 hk1 hk2 hli

          go_wp2_with (first
            | (refine loadC rowOpC _ rfl rfl a (off + j * 32) rfl OC HOn.out HRg.out ?_)
            | (refine storeC rowOpC _ _ rfl rfl wr _ OC rfl rfl rfl (by kernel_rfl) HOn.out HO1.out ?_; rw [← HWA.out])
            | ((with_reducible apply HBo.out.lp (k := 1) rowCm HCn.out HEc.out); exact rfl; exact rfl; exact rfl))
          refine HCw.out.mono ?_
          intro e w3 hp
          obtain ⟨M3, F3, rfl, hb3', t3⟩ := HGo.out e w3 hp
          have hgA := HBA.out.cv.at_.blk.lt
          have HB3w := Lib.hid hb3'
          have HBo3 := Lib.hid (t3.blk HBo.out (fun e => by rcases e with e | e; omega; have := HqA.out _ e; omega))
          have HTb3w := Lib.hid (t3.blk HTbA.out (fun e => by rcases e with e | e; exact (HBA.out.z tb (.inl rfl)).2.2.1 e; exact (HBA.out.z tb (.inl rfl)).2.2.2.1 e))
          have HO3w := Lib.hid (HOA.out.touch t3 (fun k hk e => by rcases e with e | e; exact (HBA.out.z k (.inr hk)).2.2.1 e; exact (HBA.out.z k (.inr hk)).2.2.2.1 e))
          have hz3 := t3.size
          clear hp hb3' t3 hgA

          go_upto_region 11 with fail
          have HTbX := Lib.hid HTb3w.out
          have HBoX := Lib.hid HBo3.out
          have HBX := Lib.hid HB3w.out
          have HOX := Lib.hid HO3w.out

          have hwn0 : IntKind.u64.wrap (ws.length : Int) = (ws.length : Int) := IntWalk.u64_in _ (by omega)
          have x2 := HTbX.out.cell 2
          have f2 := HTbX.out.frozen 2
          rw [HX2.out] at x2
          have ts := (Touch.refl (fun k => k = tb) w3).set (b := tb) (o := 2) (fun _ => rfl) (.int .u64 (ws.length : Nat))
          have hbs := HTbX.out.set_ 2 (.int .u64 (ws.length : Nat))
          rw [rfC_set (crO ws.length) (crO ws.length) RfM.nil RfM.nil 2 (.int .u64 (ws.length : Nat)) rfl rfl (by simp [crO]) (by omega)] at hbs
          have HBS := Lib.hid ((HBX.out.zset ts (fun k e => .inl e)).reref ws.length)
          have HTbS := Lib.hid hbs
          have HBoS := Lib.hid (ts.blk HBoX.out (by omega))
          have k0s := HBoS.out.cell 0
          rw [HK0.out] at k0s
          have HOS := Lib.hid (HOX.out.touch ts (fun k hk e => HZq3.out k hk e))
          obtain ⟨wS, hwS⟩ : ∃ wS, wS = (w3).setCell ⟨tb, 2, none⟩ (.int .u64 (ws.length : Nat)) := ⟨_, rfl⟩
          rw [← hwS] at HBS HTbS HBoS HOS k0s
          have HwS := Lib.hid hwS
          clear ts hbs hwS

          go_upto_region 12 with fail
          rw [← HwS.out]
          go_wp2_with fail
          obtain ⟨wT, hwT⟩ : ∃ wT, wT = wS := ⟨_, rfl⟩
          rw [← hwT] at HBS HTbS HOS ⊢
          have HB3 := Lib.hid (HBS.out.reref 0)
          have HTb3 := Lib.hid HTbS.out
          have HO3 := Lib.hid HOS.out
          clear hwT x2 f2 k0s k0
          have HLen3 := Lib.hid HI3.out.len
          rw [List.length_map] at HLen3
          have hdw3 : c3.done.length ≤ ws.length := by have := HLen3.out; omega
          have HDn := Lib.hid (cldone_any HB3.out.cv.at_ HB3.out.cv.lt (by omega))
          unfold DoneP at HDn
          have HOk3 := Lib.hid HB3.out.cv.at_.ok
          obtain ⟨n, hn⟩ : ∃ n, n = ws.length := ⟨_, rfl⟩
          obtain ⟨dl, hdl⟩ : ∃ dl, dl = c3.done.length := ⟨_, rfl⟩
          have HN := Lib.hid hn
          have HDl := Lib.hid hdl
          rw [← hdl] at HLen3 hdw3
          rw [← hn] at HLen3 hdw3 hw3 HTb3 HO3 ⊢
          have e1 : decide ((n : Int) < (dl : Int)) = false := decide_eq_false (by omega)
          have e2 : decide (n < dl) = false := decide_eq_false (by omega)
          have hdn : n ≤ dl + 1 := by have := HLen3.out; split at this <;> omega
          have e3 : decide ((dl : Int) + 1 < (n : Int)) = false := decide_eq_false (by omega)
          have e4 : decide (dl + 1 < n) = false := decide_eq_false (by omega)
          have hwd : IntKind.i64.wrap ((dl : Int) + 1) = (dl : Int) + 1 := IntWalk.i64_in _ (by omega)
          clear hn hdl
          go_wp2_with (go_at_call 11; go_must (refine HDn.out.mono ?_); rintro e wD ⟨vD, qD, xs, rfl, hoD, tD⟩
                       obtain ⟨AD, cD, hvD, -, -, -, hrz⟩ := hoD.own.full
                       rw [← HDl.out] at hvD hrz
                       subst hvD
                       have HOD := Lib.hid hoD
                       have HRz := Lib.hid hrz
                       have HTD := Lib.hid tD
                       clear hoD tD hrz)
          have HBD := Lib.hid (HB3.out.far HTD.out)
          have HOw := Lib.hid (HO3.out.touch HTD.out (fun _ _ e => e))
          have HTbD := Lib.hid (HTD.out.blk HTb3.out (fun e => e))
          have hxl : xs.length = dl := by rw [HDl.out, ← HOD.out.eqs]; simp
          have HXl := Lib.hid hxl
          have HSm := Lib.hid (SmallR.of HOk3.out HOD.out.eqs)
          clear e1 e2 e3 e4 hwd hxl
          go_loopw [82] (fun i wq => ∃ p : Nat, p ≤ dl ∧ i = .int .i64 p ∧ Touch (fun _ => False) wD wq) (fun i _ => dl - (intOf i).toNat)
          case atStart => exact ⟨0, by omega, rfl, Touch.refl _ _⟩
          case round =>
            obtain ⟨p, hp, rfl, hTq⟩ := hrel
            have HTq := Lib.hid hTq
            clear hTq
            by_cases hpd : p < dl
            · obtain ⟨x, hx⟩ : ∃ x, xs[p]? = some x := ⟨_, List.getElem?_eq_getElem (by have := HXl.out; omega)⟩
              obtain ⟨V, hV⟩ : ∃ V, ws[p]? = some V := ⟨_, List.getElem?_eq_getElem (by have := HN.out; omega)⟩
              have hxm := List.mem_of_getElem? hx
              have hvm := List.mem_of_getElem? hV
              have hrow : x.c = tag p V.x := by
                have h1 : c3.done[p]? = some (x.c, x.a) := by rw [← HOD.out.eqs, List.getElem?_map, hx]; rfl
                have h2 : (ws.map CmV.x)[p]? = some V.x := by rw [List.getElem?_map, hV]; rfl
                exact HI3.out.row h1 h2
              obtain ⟨aD, oD, rfl, haD, -, hcx⟩ := (HRz.out.touch HTq.out (fun _ _ e => e)).at_ (fun a _ => a.len) HXl.out hx
              obtain ⟨A4, c4, hv4, -, -, -, hrv⟩ := (HOw.out.touch HTq.out (fun _ _ e => e)).full
              injection hv4 with ev1 ev2 ev3
              subst ev1 ev3
              obtain ⟨aW, oW, rfl, haW, -, hcv⟩ := hrv.at_ (fun a _ => a.len) HN.out.symm hV
              have HRx := Lib.hid (show wr.rangeAt aD (oD + p * 27) x.arr.toList from fun k u hk => by rw [Nat.add_assoc]; exact hcx k u hk)
              have ta := (Touch.refl (fun _ => False) wr).alloc (.cells x.arr 56)
              have HRv := Lib.hid (show (wr.alloc (.cells x.arr 56)).rangeAt aW (oW + p * 13) V.arr.toList from fun k u hk => by rw [Nat.add_assoc]; exact (ta.cell (p := ⟨aW, oW + (p * 13 + k), none⟩) haW (fun e => e)).trans (hcv k u hk))
              have hwsv := HWs3.out V hvm
              have e1 : V.arr.setIfInBounds 1 (.int .u64 2) = cmA { V.x with client := 2 } V.A V.B V.D V.k V.m V.n := by simp [CmV.arr, cmA]
              have e2 : (cmA { V.x with client := 2 } V.A V.B V.D V.k V.m V.n).setIfInBounds 2 (.int .u64 ((p : Int) + 1)) = cmA (tag p V.x) V.A V.B V.D V.k V.m V.n := by simp [cmA, tag]
              have hw1 : IntKind.i64.wrap ((p : Int) + 1) = (p : Int) + 1 := IntWalk.i64_in _ (by omega)
              have hw2 : IntKind.u64.wrap ((p : Int) + 1) = (p : Int) + 1 := IntWalk.u64_in _ (by omega)
              have HE1 := Lib.hid e1
              have HE2 := Lib.hid e2
              have HZv := Lib.hid (show Blk ((wr.alloc (.cells x.arr 56)).alloc (.cells #[.int .i64 0, .int .u64 0, .int .u64 0, .int .u64 0, .int .i64 0, .int .i64 0, .int .i64 0, .slice none 0 0, .slice none 0 0, .int .i64 0, .slice none 0 0, .int .i64 0, .int .i64 0] 35)) (wr.heap.size + 1) 35 #[.int .i64 0, .int .u64 0, .int .u64 0, .int .u64 0, .int .i64 0, .int .i64 0, .int .i64 0, .slice none 0 0, .slice none 0 0, .int .i64 0, .slice none 0 0, .int .i64 0, .int .i64 0] from by
                have := Blk.new (wr.alloc (.cells x.arr 56)) 35 #[.int .i64 0, .int .u64 0, .int .u64 0, .int .u64 0, .int .i64 0, .int .i64 0, .int .i64 0, .slice none 0 0, .slice none 0 0, .int .i64 0, .slice none 0 0, .int .i64 0, .int .i64 0]
                simpa using this)
              have HXw := Lib.hid (show Blk ((wr.alloc (.cells x.arr 56)).alloc (.cells #[.int .i64 0, .int .u64 0, .int .u64 0, .int .u64 0, .int .i64 0, .int .i64 0, .int .i64 0, .slice none 0 0, .slice none 0 0, .int .i64 0, .slice none 0 0, .int .i64 0, .int .i64 0] 35)) wr.heap.size 56 x.arr from (Blk.new wr _ _).alloc _)
              have HT0 := Lib.hid (ta.alloc (.cells #[.int .i64 0, .int .u64 0, .int .u64 0, .int .u64 0, .int .i64 0, .int .i64 0, .int .i64 0, .slice none 0 0, .slice none 0 0, .int .i64 0, .slice none 0 0, .int .i64 0, .int .i64 0] 35))
              have HCZ := Lib.hid (show (#[.int .i64 0, .int .u64 0, .int .u64 0, .int .u64 0, .int .i64 0, .int .i64 0, .int .i64 0, .slice none 0 0, .slice none 0 0, .int .i64 0, .slice none 0 0, .int .i64 0, .int .i64 0] : Array Value).size = 13 from rfl)
              have HV1c := Lib.hid (show V.arr[1]? = some (.int .u64 V.x.client) ∧ V.arr[2]? = some (.int .u64 V.x.req) from ⟨rfl, rfl⟩)
              have HTw := Lib.hid (HBD.out.cv.t.trans HTq.out (fun _ _ e => e))
              have hsx := HSm.out x hxm
              have hcm2 : CmR w (fun k => k < w.heap.size) (tag p V.x) V.A V.B V.D := ⟨hwsv.1.cal, hwsv.1.tm⟩
              have HSc := Lib.hid (fun w1 (t : Touch (fun _ => False) w w1) (hr : CmR w1 (fun k => wT.heap.size ≤ k ∧ k < wD.heap.size ∧ qD ≠ some k) x.c x.A x.B x.D) => (show Calls Try.prog 12 #[.agg (cmA x.c x.A x.B x.D x.k x.m x.n), .agg (cmA (tag p V.x) V.A V.B V.D V.k V.m V.n)] w1 fun e w' => e = .returned (.bool true) ∧ Touch (fun _ => False) w1 w' from by
                have := fcmsame_any _ (fun k => k < w.heap.size) x.A x.B x.D V.A V.B V.D x.k x.m x.n V.k V.m V.n x.c (tag p V.x) w1 hr (hcm2.touch t (fun _ _ e => e)) hsx.1 hsx.2.1 hsx.2.2.1 hsx.2.2.2.1 hwsv.2.2.1
                rw [show sameCm x.c (tag p V.x) = true from hrow ▸ sameCm_self _] at this
                exact this))
              have HRr := Lib.hid ((HOD.out.rows x hxm).cm.touch HTq.out (fun _ _ e => e))
              have HXn := Lib.hid x.size
              have HX1 := Lib.hid x.one
              have HVn := Lib.hid V.size
              have HV1 := Lib.hid V.one
              have HEx := Lib.hid x.ex_c
              have HCn := Lib.hid (cmA_size x.c x.A x.B x.D x.k x.m x.n)
              have HTn := Lib.hid (cmA_size (tag p V.x) V.A V.B V.D V.k V.m V.n)
              generalize cmA x.c x.A x.B x.D x.k x.m x.n = X13 at *
              generalize cmA { V.x with client := 2 } V.A V.B V.D V.k V.m V.n = Y13 at *
              generalize cmA (tag p V.x) V.A V.B V.D V.k V.m V.n = T13 at *
              generalize x.arr = XA at *
              generalize V.arr = VA at *
              clear hx hV hxm hvm hrow hcx hrv hcv ta hwsv hsx hcm2 e1 e2
              go_wp2_with (first
                | (refine loadC rowRs _ rfl rfl aD (oD + p * 27) rfl XA HXn.out HRx.out ?_)
                | (refine storeC rowRs _ _ rfl rfl wr _ XA rfl rfl rfl (by kernel_rfl) HXn.out HX1.out ?_)
                | (refine loadC rowCm _ rfl rfl aW (oW + p * 13) rfl VA HVn.out HRv.out ?_)
                | ((with_reducible apply HZv.out.st rowCm HCZ.out HVn.out HV1.out); exact rfl; exact rfl; exact rfl; exact rfl
                   intro w4 hb4 t4
                   have v1 := hb4.cell 1
                   have g1 := hb4.frozen 1
                   have v2 := hb4.cell 2
                   have g2 := hb4.frozen 2
                   rw [HV1c.out.1] at v1
                   rw [HV1c.out.2] at v2
                   have hbv := (hb4.set_ 1 (.int .u64 2)).set_ 2 (.int .u64 ((p : Int) + 1))
                   rw [HE1.out, HE2.out] at hbv
                   have tt := (t4.set (b := wr.heap.size + 1) (o := 1) (fun _ => rfl) (.int .u64 2)).set (b := wr.heap.size + 1) (o := 2) (fun _ => rfl) (.int .u64 ((p : Int) + 1))
                   have HBv := Lib.hid hbv
                   have HBx := Lib.hid (tt.blk HXw.out (by omega))
                   have HTa := Lib.hid (HT0.out.trans tt (S := fun _ => False) (fun k hk e => by omega))
                   clear hb4 t4 hbv tt)
                | ((with_reducible apply HBx.out.lp (k := 0) rowCm HCn.out HEx.out); exact rfl; exact rfl; exact rfl)
                | ((with_reducible apply HBv.out.ld rowCm HTn.out); exact rfl; exact rfl; exact rfl)
                | (go_at_call 12; go_must (refine (HSc.out _ (by exact HTw.out.trans HTa.out (fun _ _ e => e)) (by exact HRr.out.touch HTa.out (fun _ _ e => e))).mono ?_); rintro e w8 ⟨rfl, t8⟩; have HT8 := Lib.hid (HTa.out.trans t8 (fun _ _ e => e)); clear t8))
              go_roundw
              case rel => exact ⟨p + 1, by omega, by go_num, HTq.out.trans HT8.out (fun _ _ e => e)⟩
              case measure => simp [intOf]; omega
            · obtain rfl : p = dl := by omega
              have HBq := Lib.hid (HBD.out.far HTq.out)
              have HOq := Lib.hid (HOw.out.touch HTq.out (fun _ _ e => e))
              have HTbq := Lib.hid (HTq.out.blk HTbD.out (fun e => e))
              have HSe := Lib.hid (clsend_any HBq.out.cv.at_ HBq.out.cv.lt)
              unfold SendP at HSe
              have hwn : IntKind.u64.wrap (n : Int) = (n : Int) := IntWalk.u64_in _ (by omega)
              have hb : c3.busy = none ∨ ∃ y, c3.busy = some y := by cases c3.busy; exact .inl rfl; exact .inr ⟨_, rfl⟩
              rcases hb with hb | ⟨y, hb⟩
              · have hlt : p = n := by have := HLen3.out; rw [hb] at this; simpa using this
                have f1 : decide ((p : Int) < (n : Int)) = false := decide_eq_false (by omega)
                have f2 : decide (p < n) = false := decide_eq_false (by omega)
                rw [hb] at HSe
                simp only [Option.isSome_none, Bool.false_eq_true, if_false] at HSe
                clear hb hlt
                go_wp2_with (first
                  | (go_at_call 13; go_must (refine HSe.out.mono ?_)
                     rintro e w9 ⟨A9, n9, c9, l9, rfl, hl9, hn9, hr9, hc9, hm9, t9⟩
                     have hl9 : l9 = [] := hl9
                     have HRd := Lib.hid (fcmread_any (fun k => wr.heap.size ≤ k ∧ k < w9.heap.size) A9 c9 l9 w9 ⟨hr9.1, fun hn => by obtain ⟨g', o', h1, h2, h3, h4⟩ := hr9.2 hn; exact ⟨g', o', h1, h2, ⟨h3, h2⟩, h4⟩⟩ (fun k hk => hk.2) (hn9 ▸ hc9) hm9)
                     unfold CmPost at HRd
                     rw [← hn9] at HRd
                     have HB9 := Lib.hid (HBq.out.far t9)
                     have HO9 := Lib.hid (HOq.out.touch t9 (fun _ _ e => e))
                     have HTb9 := Lib.hid (t9.blk HTbq.out (fun e => e))
                     rw [show ((0 : Nat) : Int) = 0 from rfl]
                     clear hl9 hn9 hr9 hc9 hm9 t9)
                  | (go_at_call 14; go_must (refine HRd.out.mono ?_)
                     rintro e w10 ⟨A0, B0, D0, k0, m0, n0, rfl, hr0, t0⟩
                     rw [show (#[.int .i64 (rdAns l9).1.kind, .int .u64 (rdAns l9).1.client, .int .u64 (rdAns l9).1.req, .int .u64 (rdAns l9).1.id, .int .i64 (rdAns l9).1.con, .int .i64 (rdAns l9).1.at_, .int .i64 (rdAns l9).1.cal.off, .slice A0 (rdAns l9).1.cal.wk.length k0, .slice B0 (rdAns l9).1.cal.cl.length m0, .int .i64 (rdAns l9).1.tm.cal, .slice D0 (rdAns l9).1.tm.lv.length n0, .int .i64 (rdAns l9).1.tm.rt, .int .i64 (rdAns l9).1.tm.bk] : Array Value) = cmA (rdAns l9).1 A0 B0 D0 k0 m0 n0 from rfl]
                     have HCn := Lib.hid (cmA_size (rdAns l9).1 A0 B0 D0 k0 m0 n0)
                     have HC1 := Lib.hid (cmA_one (rdAns l9).1 A0 B0 D0 k0 m0 n0)
                     generalize cmA (rdAns l9).1 A0 B0 D0 k0 m0 n0 = X13 at *
                     generalize (rdAns l9).2 = e10 at *
                     have HB10 := Lib.hid ((HB9.out.far t0).far ((Touch.refl (fun _ => False) w10).alloc (.cells X13 35)))
                     have HO10 := Lib.hid ((HO9.out.touch t0 (fun _ _ e => e)).touch ((Touch.refl (fun _ => False) w10).alloc (.cells X13 35)) (fun _ _ e => e))
                     have HTb10 := Lib.hid ((t0.blk HTb9.out (fun e => e)).alloc (.cells X13 35))
                     clear hr0 t0)
                  | (refine storeC rowCm _ _ rfl rfl w10 _ X13 rfl rfl rfl (by kernel_rfl) HCn.out HC1.out ?_))
                go_roundw
                case rel => exact ⟨j + 1, by omega, by go_num, ws, c3, M3, F3, q, HB10.out, HI3.out, HN.out ▸ hw3, HN.out ▸ HO10.out, HZq3.out, HWs3.out, HN.out ▸ HTb10.out⟩
                case measure => simp [intOf]; omega
              · have hlt : p + 1 = n := by have := HLen3.out; rw [hb] at this; simpa using this
                have f1 : decide ((p : Int) < (n : Int)) = true := decide_eq_true (by omega)
                have f2 : decide (p < n) = true := decide_eq_true (by omega)
                have HLa := Lib.hid (HI3.out.last hb)
                rw [List.length_map, ← HN.out] at HLa
                have HFt := Lib.hid (HOk3.out.bu y hb)
                rw [hb] at HSe
                simp only [Option.isSome_some, if_true] at HSe
                have HRb := Lib.hid (cmFit_back HFt.out)
                generalize c3.at_ = at3 at *
                obtain ⟨L, hL⟩ : ∃ L, L = encC y := ⟨_, rfl⟩
                rw [← hL] at HSe HRb
                clear hb hlt hL
                go_wp2_with (first
                  | (go_at_call 13; go_must (refine HSe.out.mono ?_)
                     rintro e w9 ⟨A9, n9, c9, l9, rfl, hl9, hn9, hr9, hc9, hm9, t9⟩
                     have hl9 : l9 = L := hl9
                     rw [hl9] at hn9 hr9
                     have HRd := Lib.hid (fcmread_any (fun k => wr.heap.size ≤ k ∧ k < w9.heap.size) A9 c9 L w9 ⟨hr9.1, fun hn => by obtain ⟨g', o', h1, h2, h3, h4⟩ := hr9.2 hn; exact ⟨g', o', h1, h2, ⟨h3, h2⟩, h4⟩⟩ (fun k hk => hk.2) (hn9 ▸ hc9) hm9)
                     unfold CmPost at HRd
                     rw [HRb.out] at HRd
                     subst hn9
                     have HB9 := Lib.hid (HBq.out.far t9)
                     have HO9 := Lib.hid (HOq.out.touch t9 (fun _ _ e => e))
                     have HTb9 := Lib.hid (t9.blk HTbq.out (fun e => e))
                     clear hl9 hr9 hc9 hm9 t9)
                  | (go_at_call 14; go_must (refine HRd.out.mono ?_)
                     rintro e w10 ⟨A0, B0, D0, k0, m0, n0, rfl, hr0, t0⟩
                     rw [show (#[.int .i64 (y, (0 : Int)).1.kind, .int .u64 (y, (0 : Int)).1.client, .int .u64 (y, (0 : Int)).1.req, .int .u64 (y, (0 : Int)).1.id, .int .i64 (y, (0 : Int)).1.con, .int .i64 (y, (0 : Int)).1.at_, .int .i64 (y, (0 : Int)).1.cal.off, .slice A0 (y, (0 : Int)).1.cal.wk.length k0, .slice B0 (y, (0 : Int)).1.cal.cl.length m0, .int .i64 (y, (0 : Int)).1.tm.cal, .slice D0 (y, (0 : Int)).1.tm.lv.length n0, .int .i64 (y, (0 : Int)).1.tm.rt, .int .i64 (y, (0 : Int)).1.tm.bk] : Array Value) = cmA y A0 B0 D0 k0 m0 n0 from rfl]
                     have HCn := Lib.hid (cmA_size y A0 B0 D0 k0 m0 n0)
                     have HC1 := Lib.hid (cmA_one y A0 B0 D0 k0 m0 n0)
                     have hq1 : (cmA y A0 B0 D0 k0 m0 n0)[1]? = some (.int .u64 2) := by rw [show (cmA y A0 B0 D0 k0 m0 n0)[1]? = some (.int .u64 y.client) from rfl, HLa.out.2]; rfl
                     have hq2 : (cmA y A0 B0 D0 k0 m0 n0)[2]? = some (.int .u64 n) := by rw [show (cmA y A0 B0 D0 k0 m0 n0)[2]? = some (.int .u64 y.req) from rfl, HLa.out.1]
                     obtain ⟨X13, hX13⟩ : ∃ X, X = cmA y A0 B0 D0 k0 m0 n0 := ⟨_, rfl⟩
                     rw [← hX13] at HCn HC1 hq1 hq2 ⊢
                     have r1 := (Blk.new w10 35 X13).cell 1
                     have r2 := (Blk.new w10 35 X13).cell 2
                     rw [hq1] at r1
                     rw [hq2] at r2
                     have HB10 := Lib.hid ((HB9.out.far t0).far ((Touch.refl (fun _ => False) w10).alloc (.cells X13 35)))
                     have HO10 := Lib.hid ((HO9.out.touch t0 (fun _ _ e => e)).touch ((Touch.refl (fun _ => False) w10).alloc (.cells X13 35)) (fun _ _ e => e))
                     have HTb10 := Lib.hid ((t0.blk HTb9.out (fun e => e)).alloc (.cells X13 35))
                     clear hr0 t0 hX13 hq1 hq2)
                  | (refine storeC rowCm _ _ rfl rfl w10 _ X13 rfl rfl rfl (by kernel_rfl) HCn.out HC1.out ?_))
                go_roundw
                case rel => exact ⟨j + 1, by omega, by go_num, ws, c3, M3, F3, q, HB10.out, HI3.out, HN.out ▸ hw3, HN.out ▸ HO10.out, HZq3.out, HWs3.out, HN.out ▸ HTb10.out⟩
                case measure => simp [intOf]; omega
    · obtain rfl : j = l2.length := by omega
      go_wp2_with (go_at_call 7; go_must (refine (lives38_any _).mono ?_); rintro e w3 ⟨rfl, t3⟩; have HTz := Lib.hid (HB.out.cv.t.trans t3 (fun _ _ e => e)); clear t3)
      go_ret
      exact ⟨rfl, HTz.out.below⟩
end Go.Proofs.Ytlcefchbfjfifaa
