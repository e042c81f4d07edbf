/- contract.Shelf.Put; law14.bytes. (written by genst.py) -/
import Derived.Test.YtlcefchbfjfifaaGreatVShT
namespace Go.Proofs.YtlcefchbfjfifaaGreat
open Go.RowKit Cal Go.Maps
set_option maxHeartbeats 4000000
set_option maxRecDepth 100000
set_option linter.unusedVariables false
attribute [local irreducible] wpPlan

theorem rowG_some {α : Type} (enc : α → List UInt8) {f : Int → Option α} {i : Nat} {a : α} (h : f (i : Int) = some a) : rowG enc f (Int.toNat (i : Int)) = encs [i] ++ enc a := by
  rw [Int.toNat_natCast, rowG, h]; simp [encs]
theorem ConM.look1f {w : World} {b2 : Nat} {S : Shl} {R : Nat → Prop} (h : ConM w b2 S R) {n : Int} (hn : inN n) {c : Co} (hc : S.con n = some c) :
    ∃ A k, SpR w R A c.lv.length c.lv ∧ (Instr.lookup 74 (.map (some b2)) (.int .i64 n) false).run Tryz.prog w = .ok (.agg (conA c A k)) w := by
  obtain ⟨f, hm, hs⟩ := h
  obtain ⟨A, k, hf, hr⟩ := (hs n hn).2 c hc
  have h1 := hm.look lawN Tryz.underlying74 (zeroCon w) (keyN hn)
  rw [hf] at h1
  exact ⟨A, k, hr, h1⟩
theorem encS_lenS {S : Shl} (ok : S.Ok) : (encS S).length ≤ 40000 := by
  obtain ⟨e1, e2⟩ := keysG_rows encCa S.cal 8
  obtain ⟨e3, e4⟩ := keysG_rows encK S.con 16
  have k1 := keysG_len S.cal 8
  have k2 := keysG_len S.con 16
  have f1 := flat_lenZ (f := fun z : Int => rowG encCa S.cal z.toNat) (m := 1300) (keysG S.cal 8) (fun z hz => by
    obtain ⟨i, rfl, hi, hs⟩ := keysG_mem hz
    obtain ⟨c, hc⟩ := Option.isSome_iff_exists.1 hs
    rw [rowG_some encCa hc, List.length_append]
    have := encCa_lenS (ok.cal _ c hc).2
    have := encs_len [i]
    simp at *; omega)
  have f2 := flat_lenZ (f := fun z : Int => rowG encK S.con z.toNat) (m := 1300) (keysG S.con 16) (fun z hz => by
    obtain ⟨i, rfl, hi, hs⟩ := keysG_mem hz
    obtain ⟨c, hc⟩ := Option.isSome_iff_exists.1 hs
    rw [rowG_some encK hc, List.length_append]
    have h6 := good_hd (ok.con _ c hc).2.1
    have := encK_len c (by omega)
    have := encs_len [i]
    simp at *; omega)
  have g1 := encN_len 0 (cntG S.cal 8)
  have g2 := encN_len 0 (cntG S.con 16)
  rw [encS, e1, e3]
  simp only [List.length_append]
  omega
theorem hput_any {w : World} {g b1 b2 : Nat} {S : Shl} {x : Int → Nat} {R X Y : Nat → Prop} (h : ShAt w g b1 b2 S x R X Y) (gw : Nat) (hw : WAt w gw none []) (hn : gw ≠ g ∧ gw ≠ b1 ∧ gw ≠ b2 ∧ ¬ (R gw ∨ X gw ∨ Y gw)) :
    Calls Tryz.prog 60 #[.pointer (some ⟨g, 0, none⟩), .pointer (some ⟨gw, 0, none⟩)] w (WPost w gw none (encS S)) := by
  have HN := Lib.hid (hnone_any h)
  have HS := Lib.hid h
  have HD := Lib.hid hn
  have HW := Lib.hid (WGo.start hw)
  have hgwl := hw.lt
  have q0 := h.blk.cell 0
  simp at q0
  have hlen1 := fun ty => h.m1.len h.ok ty
  obtain ⟨n1, hn1⟩ : ∃ n, n = cntG S.cal 8 := ⟨_, rfl⟩
  rw [← hn1] at hlen1
  have hn8 : n1 ≤ 8 := hn1 ▸ cntG_le S.cal 8
  have HN1 := Lib.hid hn1
  have hwr : IntKind.u64.wrap (n1 : Int) = n1 := IntWalk.u64_in _ (by omega)
  obtain ⟨n2, hn2⟩ : ∃ n, n = cntG S.con 16 := ⟨_, rfl⟩
  have hn16 : n2 ≤ 16 := hn2 ▸ cntG_le S.con 16
  have HN2 := Lib.hid hn2
  have hwr2 : IntKind.u64.wrap (n2 : Int) = n2 := IntWalk.u64_in _ (by omega)
  have HRF := Lib.hid (show ∀ q, R q → q ≠ gw ∧ q < w.heap.size from fun q hq => ⟨fun e => hn.2.2.2 (.inl (e ▸ hq)), h.lt q (.inl hq)⟩)
  have HK1 := Lib.hid (show ∀ z ∈ keysG S.cal 8, (rowG encCa S.cal z.toNat).length ≤ 1300 from fun z hz => by
    obtain ⟨i, rfl, hi, hs⟩ := keysG_mem hz
    obtain ⟨c, hc⟩ := Option.isSome_iff_exists.1 hs
    rw [rowG_some encCa hc, List.length_append]
    have := encCa_lenS (h.ok.cal _ c hc).2
    have := encs_len [i]
    simp at *; omega)
  have HK2 := Lib.hid (show ∀ z ∈ keysG S.con 16, (rowG encK S.con z.toNat).length ≤ 1300 from fun z hz => by
    obtain ⟨i, rfl, hi, hs⟩ := keysG_mem hz
    obtain ⟨c, hc⟩ := Option.isSome_iff_exists.1 hs
    rw [rowG_some encK hc, List.length_append]
    have h6 := good_hd (h.ok.con _ c hc).2.1
    have := encK_len c (by omega)
    have := encs_len [i]
    simp at *; omega)
  clear h hw hn hn1 hn2
  go_enter Tryz.func60, Tryz.ntmps60
  go_wp2_with (first
    | (go_at_call 52; go_must (refine HN.out.mono ?_); rintro e w1 ⟨rfl, rfl⟩)
    | (go_at_call 41; go_must (refine (wnum_lit HW.out [n1] _ (by simp) _ rfl 1 1 rfl (fun n hn => by simp at hn; omega) (by simp)).mono ?_); rintro e w2 ⟨rfl, g2⟩
       have HS2 := Lib.hid (g2.shelf HS.out HD.out (fun _ e => by cases e))
       have q2 := HS2.out.blk.cell 0
       simp at q2
       obtain ⟨r4, hw2, t2, hf2⟩ := g2
       have HA2 := Lib.hid hw2
       have HT2 := Lib.hid t2
       have HF2 := Lib.hid hf2
       clear hw2 t2 hf2)
    | (go_at_call 88; go_must (refine (mkeysSa_any (some b1) _).mono ?_); rintro e w3 ⟨rfl, rfl⟩)
    | (go_at_call 87; go_must (refine (calKeys HS2.out.m1 HS2.out.ok _ rfl rfl).mono ?_); rintro e w4 ⟨A1, c1, rfl, z6, z7⟩
       have HR1 := Lib.hid z6
       have HT24 := Lib.hid (((Touch.refl (fun _ => False) w2).alloc (.cells #[.map (some b1)] 73)).trans z7 (fun _ _ e => e))
       have hz2 := z7.size
       clear z6 z7))
  simp at hz2
  have HS4 := Lib.hid (HS2.out.far HT24.out)
  have HA4 := Lib.hid (HA2.out.touch HT24.out (fun e => e) (fun _ _ e => e))
  have hgw2 := HA2.out.lt
  have HZ4 := Lib.hid (show ∀ k, r4 = some k → k ≠ g ∧ k ≠ b1 ∧ k ≠ b2 ∧ ¬ (R k ∨ X k ∨ Y k) ∧ k < w2.heap.size from fun k e => by
    rcases HF2.out with e' | ⟨k', e', hk'⟩
    · rw [e'] at e; cases e
    · rw [e'] at e; injection e with e; subst e
      have a1 := HS.out.gl; have a2 := HS.out.m1.lt; have a3 := HS.out.m2.lt
      exact ⟨by omega, by omega, by omega, fun hq => by have := HS.out.lt _ hq; omega, HA2.out.ltr _ e'⟩)
  have HRF4 := Lib.hid (show ∀ q, R q → q ≠ gw ∧ r4 ≠ some q ∧ q < w4.heap.size from fun q hq => ⟨(HRF.out q hq).1, fun e => (HZ4.out q e).2.2.2.1 (.inl hq), by have := (HRF.out q hq).2; have := HT2.out.size; omega⟩)
  clear hlen1 q0 q2
  have hk1l := keysG_len S.cal 8
  have HE1 := Lib.hid (keysG_rows encCa S.cal 8)
  have HE2 := Lib.hid (keysG_rows encK S.con 16)
  have HM1 := Lib.hid (fun z (hz : z ∈ keysG S.cal 8) => keysG_mem hz)
  have hk2l := keysG_len S.con 16
  have HM2 := Lib.hid (fun z (hz : z ∈ keysG S.con 16) => keysG_mem hz)
  have hSz : w.heap.size ≤ w2.heap.size := HT2.out.size
  obtain ⟨K1, hK1⟩ : ∃ K, K = keysG S.cal 8 := ⟨_, rfl⟩
  obtain ⟨K2, hK2⟩ : ∃ K, K = keysG S.con 16 := ⟨_, rfl⟩
  rw [← hK1] at hk1l HE1 HM1 HR1 HK1
  rw [← hK2] at hk2l HE2 HM2 HK2
  have HKe := Lib.hid (And.intro hK1 hK2)
  rw [← hK1]
  clear hK1 hK2
  have HBl26 := Lib.hid (show (encs [n1]).length ≤ 9 by have := encs_len [n1]; simpa using this)
  go_loopw [26] (fun i wr => ∃ j : Nat, j ≤ K1.length ∧ i = .int .i64 j ∧ WGo w4 gw r4 (encs [n1] ++ (K1.take j).flatMap (fun z => rowG encCa S.cal z.toNat)) wr) (fun i _ => K1.length - (intOf i).toNat)
  case atStart => exact ⟨0, by omega, rfl, by simpa using WGo.start HA4.out⟩
  case round =>
    obtain ⟨j, hj, rfl, hQ⟩ := hrel
    have HQ := Lib.hid hQ
    have HSw := Lib.hid (hQ.shelf HS4.out HD.out (fun k e => ⟨(HZ4.out k e).1, (HZ4.out k e).2.1, (HZ4.out k e).2.2.1, (HZ4.out k e).2.2.2.1⟩))
    have hql := flat_lenZ (f := fun z : Int => rowG encCa S.cal z.toNat) (m := 1300) (K1.take j) (fun z hz => HK1.out z (List.mem_of_mem_take hz))
    have h9 : (K1.take j).length ≤ 8 := by simp; omega
    have hbl : (encs [n1] ++ (K1.take j).flatMap (fun z => rowG encCa S.cal z.toNat)).length ≤ 11000 := by
      rw [List.length_append]; have := HBl26.out; omega
    clear hQ
    by_cases hjk : j < K1.length
    · obtain ⟨z, hi⟩ : ∃ z, K1[j]? = some z := ⟨_, List.getElem?_eq_getElem hjk⟩
      obtain ⟨i, rfl, hi8, his⟩ := HM1.out z (List.mem_of_getElem? hi)
      obtain ⟨c, hc⟩ := Option.isSome_iff_exists.1 his
      have HX := Lib.hid (show (K1.take (j + 1)).flatMap (fun z => rowG encCa S.cal z.toNat) = (K1.take j).flatMap (fun z => rowG encCa S.cal z.toNat) ++ (encs [i] ++ encCa c) by
        rw [List.take_add_one, hi, List.flatMap_append]; simp only [Option.toList_some, List.flatMap_cons, List.flatMap_nil, List.append_nil]; rw [rowG_some encCa hc])
      have hck := (HS.out.ok.cal _ c hc).2
      have hinN : inN (i : Int) := by unfold inN; omega
      obtain ⟨ad, off, rfl, -, -, hcs⟩ := (HQ.out.rd HR1.out (fun k hk => ⟨by simp at hk; omega, fun e => by have := (HZ4.out k e).2.2.2.2; simp at hk; omega⟩)).2 (by omega)
      have hcj := hcs j (.int .i64 (i : Int)) (by simp [hi, I64])
      have q3 := HSw.out.blk.cell 0
      simp at q3
      have HQl := Lib.hid hbl
      have hwi : IntKind.u64.wrap (i : Int) = i := IntWalk.u64_in _ (by omega)
      have hqz := HQ.out.choose_spec.2.1.size
      clear hi his hcs hbl hql
      go_wp2_with (first
        | (go_at_call 41
           go_must (refine (wnum_lit HQ.out [i] _ (by simp) _ rfl 1 1 rfl (fun n hn => by simp at hn; omega) (by have := HQl.out; simp only [List.length_cons, List.length_nil]; omega)).mono ?_)
           rintro e w5 ⟨rfl, g5⟩
           have HG5 := Lib.hid g5
           have hs5 := g5.shelf HS4.out HD.out (fun k e => ⟨(HZ4.out k e).1, (HZ4.out k e).2.1, (HZ4.out k e).2.2.1, (HZ4.out k e).2.2.2.1⟩)
           have q5 := hs5.blk.cell 0
           simp at q5
           obtain ⟨A3, B3, k3, m3, hr3, -, -, hlk⟩ := hs5.m1.look1 hinN hc
           unfold layA at hlk
           have hfd : ∀ wq : World, (Instr.field 113 (.agg #[.int .i64 c.off, .slice A3 c.wk.length k3, .slice B3 c.cl.length m3, .pointer (some ⟨x i, 0, none⟩)]) 0).run Tryz.prog wq = .ok (.agg #[.int .i64 c.off, .slice A3 c.wk.length k3, .slice B3 c.cl.length m3]) wq := fun _ => by kernel_rfl
           have HPu := Lib.hid (cput_go g5 c hck R A3 B3 k3 m3 hr3 HRF4.out (by have := HQl.out; have := encs_len [i]; rw [List.length_append]; simp at this; omega))
           unfold caA at HPu
           clear hr3
           clear g5 hs5)
        | (go_at_call 89
           go_must (refine (HPu.out).mono ?_)
           rintro e w6 ⟨rfl, g6⟩
           have HG6 := Lib.hid g6
           clear g6))
      go_roundw
      case rel => exact ⟨j + 1, by omega, by go_num, by rw [HX.out]; have := HG6.out; simpa [List.append_assoc] using this⟩
      case measure => simp [intOf]; omega
    · obtain rfl : j = K1.length := by omega
      clear hjk
      rw [List.take_length] at HQ hql hbl
      have HB2 := Lib.hid hbl
      have hlen2 := fun ty => HSw.out.m2.len HSw.out.ok ty
      rw [← HN2.out] at hlen2
      have q3 := HSw.out.blk.cell 1
      simp at q3
      obtain ⟨L1, hL1⟩ : ∃ L, L = encs [n1] ++ K1.flatMap (fun z => rowG encCa S.cal z.toNat) := ⟨_, rfl⟩
      rw [← hL1] at HQ HB2
      have HL1 := Lib.hid hL1
      clear hql hbl hL1 HBl26 h9
      go_wp2_with (first
        | (go_at_call 41; go_must (refine (wnum_lit HQ.out [n2] _ (by simp) _ rfl 1 1 rfl (fun n hn => by simp at hn; omega) (by have := HB2.out; simp only [List.length_cons, List.length_nil]; omega)).mono ?_); rintro e w7 ⟨rfl, g7⟩
           have HS7 := Lib.hid (g7.shelf HS4.out HD.out (fun k e => ⟨(HZ4.out k e).1, (HZ4.out k e).2.1, (HZ4.out k e).2.2.1, (HZ4.out k e).2.2.2.1⟩))
           have q7 := HS7.out.blk.cell 1
           simp at q7
           obtain ⟨r8, hw7, t7, hf7⟩ := g7
           have HA7 := Lib.hid hw7
           have HT7 := Lib.hid t7
           have HF7 := Lib.hid hf7
           clear hw7 t7 hf7)
        | (go_at_call 90; go_must (refine (mkeysSb_any (some b2) _).mono ?_); rintro e w3 ⟨rfl, rfl⟩)
        | (go_at_call 87; go_must (refine (conKeys HS7.out.m2 HS7.out.ok _ rfl rfl).mono ?_); rintro e w8 ⟨A2, c2, rfl, z6, z7⟩
           have HR2 := Lib.hid z6
           have HT78 := Lib.hid (((Touch.refl (fun _ => False) w7).alloc (.cells #[.map (some b2)] 74)).trans z7 (fun _ _ e => e))
           have hz7 := z7.size
           clear z6 z7))
      simp at hz7
      have HS8 := Lib.hid (HS7.out.far HT78.out)
      have HA8 := Lib.hid (HA7.out.touch HT78.out (fun e => e) (fun _ _ e => e))
      have hgw7 := HA7.out.lt
      have hz47 := HT7.out.size
      have HZ8 := Lib.hid (show ∀ k, r8 = some k → k ≠ g ∧ k ≠ b1 ∧ k ≠ b2 ∧ ¬ (R k ∨ X k ∨ Y k) ∧ k < w7.heap.size from fun k e => by
        rcases HF7.out with e' | ⟨k', e', hk'⟩
        · rw [e'] at e
          obtain ⟨a1, a2, a3, a4, a5⟩ := HZ4.out k e
          exact ⟨a1, a2, a3, a4, by omega⟩
        · rw [e'] at e; injection e with e; subst e
          have a1 := HS4.out.gl; have a2 := HS4.out.m1.lt; have a3 := HS4.out.m2.lt
          exact ⟨by omega, by omega, by omega, fun hq => by have := HS4.out.lt _ hq; omega, HA7.out.ltr _ e'⟩)
      have HRF8 := Lib.hid (show ∀ q, R q → q ≠ gw ∧ r8 ≠ some q ∧ q < w8.heap.size from fun q hq => ⟨(HRF.out q hq).1, fun e => (HZ8.out q e).2.2.2.1 (.inl hq), by have := (HRF4.out q hq).2.2; omega⟩)
      rw [← HKe.out.2]
      rw [← HKe.out.2] at HR2
      obtain ⟨L2, hL2⟩ : ∃ L, L = L1 ++ encs [n2] := ⟨_, rfl⟩
      have HL2 := Lib.hid hL2
      have HBl61 := Lib.hid (show L2.length ≤ 11009 by rw [hL2, List.length_append]; have := HB2.out; have := encs_len [n2]; simp at this; omega)
      rw [← hL2] at HA8
      clear hL2 hlen2 q3 q7 HQ HSw
      go_loopw [61] (fun i wr => ∃ j : Nat, j ≤ K2.length ∧ i = .int .i64 j ∧ WGo w8 gw r8 (L2 ++ (K2.take j).flatMap (fun z => rowG encK S.con z.toNat)) wr) (fun i _ => K2.length - (intOf i).toNat)
      case atStart => exact ⟨0, by omega, rfl, by simpa using WGo.start HA8.out⟩
      case round =>
        obtain ⟨j, hj, rfl, hQ⟩ := hrel
        have HQ := Lib.hid hQ
        have HSw := Lib.hid (hQ.shelf HS8.out HD.out (fun k e => ⟨(HZ8.out k e).1, (HZ8.out k e).2.1, (HZ8.out k e).2.2.1, (HZ8.out k e).2.2.2.1⟩))
        have hql := flat_lenZ (f := fun z : Int => rowG encK S.con z.toNat) (m := 1300) (K2.take j) (fun z hz => HK2.out z (List.mem_of_mem_take hz))
        have h9 : (K2.take j).length ≤ 16 := by simp; omega
        have hbl : (L2 ++ (K2.take j).flatMap (fun z => rowG encK S.con z.toNat)).length ≤ 40000 := by
          rw [List.length_append]; have := HBl61.out; omega
        clear hQ
        by_cases hjk : j < K2.length
        · obtain ⟨z, hi⟩ : ∃ z, K2[j]? = some z := ⟨_, List.getElem?_eq_getElem hjk⟩
          obtain ⟨i, rfl, hi8, his⟩ := HM2.out z (List.mem_of_getElem? hi)
          obtain ⟨c, hc⟩ := Option.isSome_iff_exists.1 his
          have HX := Lib.hid (show (K2.take (j + 1)).flatMap (fun z => rowG encK S.con z.toNat) = (K2.take j).flatMap (fun z => rowG encK S.con z.toNat) ++ (encs [i] ++ encK c) by
            rw [List.take_add_one, hi, List.flatMap_append]; simp only [Option.toList_some, List.flatMap_cons, List.flatMap_nil, List.append_nil]; rw [rowG_some encK hc])
          have hck := (HS.out.ok.con _ c hc).2.1
          have hinN : inN (i : Int) := by unfold inN; omega
          obtain ⟨ad, off, rfl, -, -, hcs⟩ := (HQ.out.rd HR2.out (fun k hk => ⟨by simp at hk; omega, fun e => by have := (HZ8.out k e).2.2.2.2; simp at hk; omega⟩)).2 (by omega)
          have hcj := hcs j (.int .i64 (i : Int)) (by simp [hi, I64])
          have q3 := HSw.out.blk.cell 1
          simp at q3
          have HQl := Lib.hid hbl
          have hwi : IntKind.u64.wrap (i : Int) = i := IntWalk.u64_in _ (by omega)
          have hqz := HQ.out.choose_spec.2.1.size
          clear hi his hcs hbl hql
          go_wp2_with (first
            | (go_at_call 41
               go_must (refine (wnum_lit HQ.out [i] _ (by simp) _ rfl 1 1 rfl (fun n hn => by simp at hn; omega) (by have := HQl.out; simp only [List.length_cons, List.length_nil]; omega)).mono ?_)
               rintro e w5 ⟨rfl, g5⟩
               have HG5 := Lib.hid g5
               have hs5 := g5.shelf HS8.out HD.out (fun k e => ⟨(HZ8.out k e).1, (HZ8.out k e).2.1, (HZ8.out k e).2.2.1, (HZ8.out k e).2.2.2.1⟩)
               have q5 := hs5.blk.cell 1
               simp at q5
               obtain ⟨A3, k3, hr3, hlk⟩ := hs5.m2.look1f hinN hc
               have HPu := Lib.hid (kput_go g5 c hck R A3 k3 hr3 HRF8.out (by have := HQl.out; have := encs_len [i]; rw [List.length_append]; simp at this; omega))
               unfold conA at hlk HPu
               clear hr3
               clear g5 hs5)
            | (go_at_call 14
               go_must (refine (HPu.out).mono ?_)
               rintro e w6 ⟨rfl, g6⟩
               have HG6 := Lib.hid g6
               clear g6))
          go_roundw
          case rel => exact ⟨j + 1, by omega, by go_num, by rw [HX.out]; have := HG6.out; simpa [List.append_assoc] using this⟩
          case measure => simp [intOf]; omega
        · obtain rfl : j = K2.length := by omega
          clear hjk
          rw [List.take_length] at HQ
          have HX := Lib.hid (show encS S = L2 ++ K2.flatMap (fun z => rowG encK S.con z.toNat) by
            rw [HL2.out, HL1.out, encS, HE1.out.1, HE2.out.1, ← HN1.out, ← HN2.out]; simp [encs])
          go_wp2
          exact bodyPost_ret (v := .tuple #[]) (results_none (by rfl) _ _ _) rfl ⟨rfl, HX.out ▸ WGo.next HT2.out HF2.out (WGo.pre HT24.out (WGo.next HT7.out HF7.out (WGo.pre HT78.out HQ.out)))⟩
theorem hbytes_any {w : World} {g b1 b2 : Nat} {S : Shl} {x : Int → Nat} {R X Y : Nat → Prop} (h : ShAt w g b1 b2 S x R X Y) :
    Calls Tryz.prog 29 #[.pointer (some ⟨g, 0, none⟩)] w fun e w' => e = .returned (.string ⟨(encS S).toArray⟩) ∧ Touch (fun _ => False) w w' := by
  have ta := (Touch.refl (fun _ => False) w).alloc (.cells #[.slice none 0 0] 33)
  have HT := Lib.hid ta
  have HW0 := Lib.hid (show WAt (w.alloc (.cells #[.slice none 0 0] 33)) w.heap.size none [] from ⟨by simp, _, Blk.new w 33 #[.slice none 0 0], Own.nil _ _ _⟩)
  have a1 := h.gl; have a2 := h.m1.lt; have a3 := h.m2.lt
  have HP := Lib.hid (hput_any (h.far ta) w.heap.size HW0.out ⟨by omega, by omega, by omega, fun hq => by have := h.lt _ hq; omega⟩)
  have HLn := Lib.hid (encS_lenS h.ok)
  clear h ta
  generalize encS S = L at *
  go_enter Tryz.func29, Tryz.ntmps29
  go_wp2_with (first
    | (go_at_call 60; go_must (refine HP.out.mono ?_); rintro e w1 ⟨rfl, g1⟩
       obtain ⟨r1, hw1, t1, hf1⟩ := g1
       have HA1 := Lib.hid hw1
       have HT1 := Lib.hid (HT.out.trans t1 (S := fun _ => False) (fun k hk e => by rcases e with e | e; omega; cases e))
       clear hw1 t1 hf1)
    | (go_at_call 17; go_must (refine (wbytes_any w.heap.size r1 L _ (by exact HA1.out) (by have := HLn.out; omega)).mono ?_)
       rintro e w2 ⟨A8, c8, rfl, u8, m8, hr8, t8⟩
       have hs := Rd.str (n := L.length) (l := L) (by simpa using hr8) c8
       have HT2 := Lib.hid (HT1.out.trans t8 (fun _ _ e => e))
       clear u8 m8 hr8 t8))
  go_ret
  exact ⟨rfl, HT2.out⟩
end Go.Proofs.YtlcefchbfjfifaaGreat
