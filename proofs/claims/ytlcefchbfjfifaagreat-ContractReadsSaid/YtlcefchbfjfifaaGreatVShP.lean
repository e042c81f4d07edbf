/- Calls on a shelf, among the arguments; law14.Light; the walk of ContractNobody. contract.Shelf.Plain; Clock where there is none. -/
import Derived.Test.YtlcefchbfjfifaaGreatVArgsTc
section
namespace Go.Proofs.YtlcefchbfjfifaaGreat
open Go.RowKit Go.ChangeShapes Go.WideShapes Go.ChangeAt Go.Deep Cal
set_option maxHeartbeats 4000000
set_option maxRecDepth 100000
set_option linter.unusedVariables false
attribute [local irreducible] wpPlan

/-- A call: a contract is signed, or a calendar laid down. -/
structure SOpV where
  sg : Bool
  n : Int
  c : Ca
  A : Option Addr
  B : Option Addr
  k : Nat
  m : Nat
  d : Co
  D : Option Addr
  q : Nat
def SOpV.arr (o : SOpV) : Array Value := #[.bool o.sg, .int .i64 o.n, .int .i64 o.c.off, .slice o.A o.c.wk.length o.k, .slice o.B o.c.cl.length o.m, .int .i64 o.d.cal, .slice o.D o.d.lv.length o.q, .int .i64 o.d.rt, .int .i64 o.d.bk]
def SOpV.cells (o : SOpV) : List Value := o.arr.toList
theorem SOpV.size (o : SOpV) : o.arr.size = 9 := rfl
theorem SOpV.len (o : SOpV) : o.cells.length = 9 := rfl
theorem SOpV.one (o : SOpV) : o.arr.all (·.oneCell') = true := by simp [SOpV.arr, Value.oneCell']
structure SOpV.ok (w : World) (o : SOpV) : Prop where
  n : -9223372036854775808 ≤ o.n ∧ o.n ≤ 9223372036854775807
  c : CaR w (fun k => k < w.heap.size) o.c o.A o.B
  d : SpR w (fun k => k < w.heap.size) o.D o.d.lv.length o.d.lv
section
variable {H : Type} {enc : TypeId × Value → H} {w : World} {spare : Nat → Bool} {held : Bool}
theorem elem_sop {fuel : Nat} {cs : List Value} {x : DataW H × List MemPlace} (h : DataW.trod enc Tryz.prog w 0 spare held fuel 53 cs = some x) : ∃ o : SOpV, cs = o.cells ∧ o.ok w := by
  obtain ⟨ys, n, _, _, hlen, hyl, hf⟩ := DataW.trod_struct Tryz.underlying53 h
  rw [show Tryz.prog.cellsOf 53 = 9 from by kernel_rfl] at hlen
  match cs, hlen, ys, hyl with
  | [c0, c1, c2, c3, c4, c5, c6, c7, c8], _, [y0, y1, y2, y3], _ =>
    have k0 := hf 0 _ rfl; have k1 := hf 1 _ rfl; have k2 := hf 2 _ rfl; have k3 := hf 3 _ rfl
    have z0 : Tryz.prog.cellsOf 4 = 1 := by kernel_rfl
    have z1 : Tryz.prog.cellsOf 3 = 1 := by kernel_rfl
    have z2 : Tryz.prog.cellsOf 51 = 3 := by kernel_rfl
    have z3 : Tryz.prog.cellsOf 24 = 4 := by kernel_rfl
    simp [z0, z1, z2, z3] at k0 k1 k2 k3
    obtain ⟨b, e0, -⟩ := DataW.trod_bool Tryz.underlying4 k0
    obtain ⟨n1, e1, o1⟩ := elem_i64c Tryz.underlying3 k1
    obtain ⟨c, A, B, k, m, e2, r2, -, -⟩ := open_cal k2
    obtain ⟨d, D, q, e3, r3, -, -⟩ := open_con k3
    injection e0 with e0 _; injection e1 with e1 _
    injection e2 with f0 e2; injection e2 with f1 e2; injection e2 with f2 e2
    injection e3 with g0 e3; injection e3 with g1 e3; injection e3 with g2 e3; injection e3 with g3 e3
    subst e0 e1 f0 f1 f2 g0 g1 g2 g3
    exact ⟨⟨b, n1, c, A, B, k, m, d, D, q⟩, rfl, ⟨o1, r2, r3⟩⟩
end
theorem rowSO : RowT 53 9 := ⟨⟨_, Tryz.underlying53, rfl⟩, by kernel_rfl⟩
section
variable {ops : Array Oper} {rest : List Oper} {o : Oper} {a : Act} {w : World} {Q : Exit → Act → World → Prop}
theorem Blk.lpS {T t : TypeId} {n b k : Nat} {C L : Array Value} (hb : Blk w b T C) (R : RowT t n) (hL : L.size = n) (hE : C.extract k (k + n) = L) (x : Operand) (ho : o.op = .load t x) (hw : Region.wanted o (yielded ops a.tmps) = true) (hx : a.eval x = .pointer (some ⟨b, k, none⟩))
    (h : wpList Tryz.prog ops Q rest (a.put o.dst (.agg L)) w) : wpList Tryz.prog ops Q (o :: rest) a w := loadC R x ho hw b k hx L hL (hE ▸ hb.range k n) h
end
theorem SOpV.ex_c (o : SOpV) : o.arr.extract 2 (2 + 3) = caA o.c o.A o.B o.k o.m := by simp [SOpV.arr, caA]
theorem SOpV.ex_d (o : SOpV) : o.arr.extract 5 (5 + 4) = conA o.d o.D o.q := by simp [SOpV.arr, conA]
def lightS (o : SOpV) : Bool := (decide (o.c.wk.length ≤ 60) && decide (o.c.cl.length ≤ 60)) && decide (o.d.lv.length ≤ 60)
def light14B (l : List SOpV) : Bool := l.all lightS && decide (l.length ≤ 60)
theorem light14_any (F : Nat → Prop) (A : Option Addr) (c : Nat) (l : List SOpV) (w : World) (hr : RdZ w F 9 A l.length (l.flatMap SOpV.cells)) (hsm : l.length ≤ 9223372036854775807) :
    Calls Tryz.prog 22 #[.slice A l.length c] w fun e w' => e = .returned (.bool (light14B l)) ∧ Touch (fun _ => False) w w' := by
  have HR := Lib.hid hr
  obtain ⟨v, hv⟩ : ∃ v, v = light14B l := ⟨_, rfl⟩
  rw [← hv]
  have HV := Lib.hid hv
  clear hr hv
  go_enter Tryz.func22, Tryz.ntmps22
  go_wp2_with fail
  go_loopw [7] (fun i wr => ∃ j : Nat, j ≤ l.length ∧ i = .int .i64 j ∧ (l.take j).all lightS = true ∧ Touch (fun _ => False) w wr) (fun i _ => l.length - (intOf i).toNat)
  case atStart => exact ⟨0, by omega, rfl, by simp, Touch.refl _ _⟩
  case round =>
    obtain ⟨j, hj, rfl, hA, hT⟩ := hrel
    have HA := Lib.hid hA
    have HT := Lib.hid hT
    clear hA
    by_cases hjk : j < l.length
    · have ha : l[j]? = some (l[j]'hjk) := List.getElem?_eq_getElem _
      obtain ⟨a, off, rfl, -, -, hc⟩ := (HR.out.touch hT (fun _ _ e => e)).at_ (fun a _ => a.len) rfl ha
      have HX := Lib.hid (show (l.take (j + 1)).all lightS = ((l.take j).all lightS && lightS (l[j]'hjk)) by
        rw [List.take_succ_eq_append_getElem hjk, List.all_append]; simp)
      have HXm := Lib.hid (List.getElem_mem hjk)
      generalize l[j]'hjk = o at *
      have HRg := Lib.hid (show wr.rangeAt a (off + j * 9) o.arr.toList from fun k u hk => by rw [Nat.add_assoc]; exact hc k u hk)
      have HOn := Lib.hid o.size
      have HO1 := Lib.hid o.one
      have HEc := Lib.hid o.ex_c
      have HCn := Lib.hid (show (caA o.c o.A o.B o.k o.m).size = 3 from rfl)
      have HK6 := Lib.hid (show o.arr[6]? = some (.slice o.D o.d.lv.length o.q) from rfl)
      have HL1 := Lib.hid (show ∀ w1, Calls Tryz.prog 49 #[.agg (caA o.c o.A o.B o.k o.m)] w1 fun e w' => e = .returned (.bool (decide (o.c.wk.length ≤ 60) && decide (o.c.cl.length ≤ 60))) ∧ Touch (fun _ => False) w1 w' from fun w1 => light10_any o.A o.B o.k o.m o.c.wk.length o.c.cl.length o.c.off w1)
      generalize caA o.c o.A o.B o.k o.m = X3 at *
      generalize ho : o.arr = OC at *
      have HB := Lib.hid (Blk.new wr 53 OC)
      have HTA := Lib.hid (HT.out.trans ((Touch.refl (fun _ => False) wr).alloc (.cells OC 53)) (fun _ _ e => e))
      have HK := Lib.hid (show lightS o = ((decide (o.c.wk.length ≤ 60) && decide (o.c.cl.length ≤ 60)) && decide (o.d.lv.length ≤ 60)) from rfl)
      clear hc ha hT ho
      generalize (decide (o.c.wk.length ≤ 60) && decide (o.c.cl.length ≤ 60)) = b1 at *
      cases b1
      · have HE := Lib.hid (show v = false by
          rw [HV.out, light14B, Bool.and_eq_false_iff]; left
          rw [List.all_eq_false]
          exact ⟨o, HXm.out, by rw [HK.out]; simp⟩)
        go_wp2_with (first
          | (refine loadC rowSO _ rfl rfl a (off + j * 9) rfl OC HOn.out HRg.out ?_)
          | (refine storeC rowSO _ _ rfl rfl wr _ OC rfl rfl rfl (by kernel_rfl) HOn.out HO1.out ?_)
          | ((with_reducible apply HB.out.lpS (k := 2) rowCa HCn.out HEc.out); exact rfl; exact rfl; exact rfl)
          | (go_at_call 49; go_must (refine (HL1.out _).mono ?_); rintro e w1 ⟨rfl, t1⟩; have HT1 := Lib.hid (HTA.out.trans t1 (fun _ _ e => e)); clear t1))
        go_ret
        exact ⟨by rw [HE.out]; rfl, HT1.out⟩
      by_cases hl : 60 < o.d.lv.length
      · have HE := Lib.hid (show v = false by
          rw [HV.out, light14B, Bool.and_eq_false_iff]; left
          rw [List.all_eq_false]
          exact ⟨o, HXm.out, by rw [HK.out]; simp; omega⟩)
        have hl' : (60 : Int) < (o.d.lv.length : Int) := by omega
        go_wp2_with (first
          | (refine loadC rowSO _ rfl rfl a (off + j * 9) rfl OC HOn.out HRg.out ?_)
          | (refine storeC rowSO _ _ rfl rfl wr _ OC rfl rfl rfl (by kernel_rfl) HOn.out HO1.out ?_)
          | ((with_reducible apply HB.out.lpS (k := 2) rowCa HCn.out HEc.out); exact rfl; exact rfl; exact rfl)
          | (go_at_call 49; go_must (refine (HL1.out _).mono ?_); rintro e w1 ⟨rfl, t1⟩; have HT1 := Lib.hid (HTA.out.trans t1 (fun _ _ e => e)); have hb1 := t1.blk HB.out (fun e => e); have q6 := hb1.cell 6; rw [HK6.out] at q6; clear t1 hb1))
        go_ret
        exact ⟨by rw [HE.out]; rfl, HT1.out⟩
      · have HE := Lib.hid (show (l.take (j + 1)).all lightS = true by rw [HX.out, HA.out, HK.out]; simp; omega)
        have hl' : ¬ (60 : Int) < (o.d.lv.length : Int) := by omega
        go_wp2_with (first
          | (refine loadC rowSO _ rfl rfl a (off + j * 9) rfl OC HOn.out HRg.out ?_)
          | (refine storeC rowSO _ _ rfl rfl wr _ OC rfl rfl rfl (by kernel_rfl) HOn.out HO1.out ?_)
          | ((with_reducible apply HB.out.lpS (k := 2) rowCa HCn.out HEc.out); exact rfl; exact rfl; exact rfl)
          | (go_at_call 49; go_must (refine (HL1.out _).mono ?_); rintro e w1 ⟨rfl, t1⟩; have HT1 := Lib.hid (HTA.out.trans t1 (fun _ _ e => e)); have hb1 := t1.blk HB.out (fun e => e); have q6 := hb1.cell 6; rw [HK6.out] at q6; clear t1 hb1))
        go_roundw
        case rel => exact ⟨j + 1, by omega, by go_num, HE.out, HT1.out⟩
        case measure => simp [intOf]; omega
    · obtain rfl : j = l.length := by omega
      have HE := Lib.hid (show v = decide (l.length ≤ 60) by
        have := HA.out
        rw [List.take_length] at this
        rw [HV.out, light14B, this, Bool.true_and])
      go_wp2
      go_ret
      refine ⟨ret_bool ?_, HT.out⟩
      rw [HE.out]
      simp; omega
end Go.Proofs.YtlcefchbfjfifaaGreat
end

section
namespace Go.Proofs.YtlcefchbfjfifaaGreat
open Go.RowKit Cal Go.Maps
set_option maxHeartbeats 4000000
set_option maxRecDepth 100000
set_option linter.unusedVariables false
attribute [local irreducible] wpPlan

theorem rowLd : RowT 113 4 := ⟨⟨_, Tryz.underlying113, rfl⟩, by kernel_rfl⟩
def caN : Ca := ⟨0, [], []⟩
def plainV (S : Shl) (n : Int) : Ca := (S.cal n).getD caN
theorem CalM.lookV {w : World} {b1 : Nat} {S : Shl} {x : Int → Nat} {R Y : Nat → Prop} (h : CalM w b1 S x R Y) {n : Int} (hn : inN n) :
    ∃ A B k m p, CaR w R (plainV S n) A B ∧ (Instr.lookup 73 (.map (some b1)) (.int .i64 n) true).run Tryz.prog w = .ok (.tuple #[.agg #[.int .i64 (plainV S n).off, .slice A (plainV S n).wk.length k, .slice B (plainV S n).cl.length m, .pointer p], .bool (S.cal n).isSome]) w := by
  unfold plainV
  cases hc : S.cal n with
  | none => exact ⟨none, none, 0, 0, none, ⟨SpR.nil _ _ _, SpR.nil _ _ _⟩, (h.look hn hc).1⟩
  | some c =>
    obtain ⟨A, B, k, m, h1, -, h2, -⟩ := h.look1 hn hc
    exact ⟨A, B, k, m, _, h1, h2⟩
theorem checkE_len {c : Ca} (h : checkE c = 0) : c.wk.length ≤ 1000 ∧ c.cl.length ≤ 1000 := by
  have h1 := (check_ok h)
  have h2 := h1.wk.2.1
  have h3 := h1.cn
  omega
theorem plainV_len {S : Shl} (ok : S.Ok) (n : Int) : (plainV S n).wk.length ≤ 1000 ∧ (plainV S n).cl.length ≤ 1000 := by
  unfold plainV
  cases hc : S.cal n with
  | none => exact ⟨by decide, by decide⟩
  | some c => exact checkE_len (ok.cal n c hc).2
/-- What Plain tells. -/
def PlnS (S : Shl) (n : Int) (w : World) (e : Ending) (w' : World) : Prop :=
  ∃ A B k m, e = .returned (.tuple #[.agg (caA (plainV S n) A B k m), .bool (S.cal n).isSome]) ∧ CaR w' (fun q => w.heap.size ≤ q ∧ q < w'.heap.size) (plainV S n) A B ∧ Touch (fun _ => False) w w'
theorem hplain_any {w : World} {g b1 b2 : Nat} {S : Shl} {x : Int → Nat} {R X Y : Nat → Prop} (h : ShAt w g b1 b2 S x R X Y) (n : Int) (hn : inN n) :
    Calls Tryz.prog 31 #[.pointer (some ⟨g, 0, none⟩), .int .i64 n] w (PlnS S n w) := by
  obtain ⟨W0, hW0⟩ : ∃ W0, W0 = w.alloc (.cells #[.int .i64 0, .slice none 0 0, .slice none 0 0] 51) := ⟨_, rfl⟩
  have HT0 := Lib.hid (show Touch (fun _ => False) w W0 from hW0 ▸ (Touch.refl _ w).alloc _)
  have HW0 := Lib.hid hW0
  have HZ := Lib.hid (show Blk W0 w.heap.size 51 #[.int .i64 0, .slice none 0 0, .slice none 0 0] from hW0 ▸ Blk.new w _ _)
  have h0 := h.far HT0.out
  have HN := Lib.hid (hnone_any h0)
  have q1 := h0.blk.cell 0
  simp at q1
  obtain ⟨A3, B3, k3, m3, p3, hr3, hlk⟩ := h0.m1.lookV hn
  have hlen := plainV_len h.ok n
  have HZ0 := Lib.hid (show W0.heap.size = w.heap.size + 1 by rw [hW0]; simp)
  have HCo := Lib.hid (fun w1 (t : Touch (fun _ => False) W0 w1) => ccopied_any R A3 B3 k3 m3 (plainV S n) w1 (hr3.touch t (fun _ _ e => e)) (by omega) (by omega))
  unfold CopC at HCo
  have HN0 := Lib.hid (Blk.new W0 113 #[.int .i64 0, .slice none 0 0, .slice none 0 0, .pointer none])
  have HTa := Lib.hid ((Touch.refl (fun _ => False) W0).alloc (.cells #[.int .i64 0, .slice none 0 0, .slice none 0 0, .pointer none] 113))
  have HZn := Lib.hid (show (#[.int .i64 0, .slice none 0 0, .slice none 0 0] : Array Value).size = 3 from rfl)
  have HLn := Lib.hid (show (#[.int .i64 0, .slice none 0 0, .slice none 0 0, .pointer none] : Array Value).size = 4 from rfl)
  have HCn := Lib.hid (fun A1 B1 k1 m1 => (show (caA (plainV S n) A1 B1 k1 m1).size = 3 from rfl))
  have HC1 := Lib.hid (fun A1 B1 k1 m1 => caA_one (plainV S n) A1 B1 k1 m1)
  obtain ⟨L0, hL0⟩ : ∃ L0 : Array Value, L0 = #[.int .i64 (plainV S n).off, .slice A3 (plainV S n).wk.length k3, .slice B3 (plainV S n).cl.length m3, .pointer p3] := ⟨_, rfl⟩
  have HLs := Lib.hid (show L0.size = 4 by rw [hL0]; rfl)
  have HL1 := Lib.hid (show L0.all (·.oneCell') = true by rw [hL0]; simp [Value.oneCell'])
  have HLe := Lib.hid (show L0.extract 0 (0 + 3) = caA (plainV S n) A3 B3 k3 m3 by rw [hL0]; simp [caA])
  rw [← hL0] at hlk
  unfold PlnS
  obtain ⟨CA, hCA⟩ : ∃ CA : Option Addr → Option Addr → Nat → Nat → Array Value, CA = caA (plainV S n) := ⟨_, rfl⟩
  rw [← hCA] at HLe HCo HCn HC1 ⊢
  have HCA := Lib.hid (HCn.out A3 B3 k3 m3)
  generalize CA A3 B3 k3 m3 = C0 at *
  generalize plainV S n = pv at *
  generalize (S.cal n).isSome = bs at *
  clear h h0 hr3 hW0 hCA hlen hL0
  go_enter Tryz.func31, Tryz.ntmps31
  go_wp2_with fail
  rw [← HW0.out]
  go_wp2_with (first
    | (go_at_call 52; go_must (refine HN.out.mono ?_); rintro e w1 ⟨rfl, rfl⟩)
    | ((with_reducible apply HN0.out.st rowLd HLn.out HLs.out HL1.out); exact rfl; exact rfl; exact rfl; exact rfl
       intro w2 hb2 t2
       have HB2 := Lib.hid hb2
       have HT2 := Lib.hid (HTa.out.trans t2 (S := fun _ => False) (fun k hk e => by omega))
       clear hb2 t2)
    | ((with_reducible apply HB2.out.lpS (k := 0) rowCa HCA.out HLe.out); exact rfl; exact rfl; exact rfl)
    | (go_at_call 54; go_must (refine (HCo.out _ (by exact HT2.out)).mono ?_); rintro e w3 ⟨A5, B5, k5, m5, rfl, hs3, t3⟩
       have HS3 := Lib.hid hs3
       have HT3 := Lib.hid (HT2.out.trans t3 (fun _ _ e => e))
       have HZ3 := Lib.hid ((HT2.out.trans t3 (fun _ _ e => e)).blk HZ.out (fun e => e))
       have HN5 := Lib.hid (HCn.out A5 B5 k5 m5)
       have H15 := Lib.hid (HC1.out A5 B5 k5 m5)
       clear hs3 t3)
    | ((with_reducible apply HZ3.out.st rowCa HZn.out HN5.out H15.out); exact rfl; exact rfl; exact rfl; exact rfl
       intro w4 hb4 t4
       have HB4 := Lib.hid hb4
       have HT4 := Lib.hid t4
       clear hb4 t4))
  refine bodyPost_ret (results_cell2 4 5 rowCa HN5.out (HB4.out.whole) rfl rfl) rfl ?_
  have z2 := HT2.out.size
  have hz0 := HZ0.out
  refine ⟨A5, B5, k5, m5, by simp, CaR.touch (S := fun q => q = w.heap.size) ⟨HS3.out.wk.mono (fun q hq => (show w.heap.size + 1 ≤ q ∧ q < w3.heap.size by omega)), HS3.out.cl.mono (fun q hq => (show w.heap.size + 1 ≤ q ∧ q < w3.heap.size by omega))⟩ HT4.out (fun q hq e => by omega) |> fun hh => ⟨hh.wk.mono (fun q hq => ⟨by omega, by have := HT4.out.size; omega⟩), hh.cl.mono (fun q hq => ⟨by omega, by have := HT4.out.size; omega⟩)⟩, (HT0.out.trans HT3.out (fun _ _ e => e)).trans HT4.out (fun q hq e => by omega)⟩
theorem hclock_no {w : World} {g b1 b2 : Nat} {S : Shl} {x : Int → Nat} {R X Y : Nat → Prop} (h : ShAt w g b1 b2 S x R X Y) (n : Int) (hn : inN n) (hc : S.con n = none) :
    Calls Tryz.prog 32 #[.pointer (some ⟨g, 0, none⟩), .int .i64 n] w fun e w' => e = .returned (.tuple #[.pointer none, .bool false]) ∧ Touch (fun _ => False) w w' := by
  have HTe := Lib.hid (hterms_any h n hn)
  unfold TerP termsV at HTe
  rw [hc] at HTe
  simp only [Option.getD_none, Option.isSome_none] at HTe
  unfold conA conZ at HTe
  simp only [List.length_nil] at HTe
  clear hc h
  go_enter Tryz.func32, Tryz.ntmps32
  go_wp2_with (go_at_call 27; go_must (refine HTe.out.mono ?_); rintro e w1 ⟨A1, k1, rfl, -, t1⟩; have HT1 := Lib.hid (t1.alloc (.cells #[.int .i64 0, .slice A1 0 k1, .int .i64 0, .int .i64 0] 24)); clear t1)
  refine bodyPost_ret (v := .tuple #[.pointer none, .bool false]) (by simp [results, Tryz.results32, go_sem]) rfl ?_
  exact ⟨rfl, HT1.out⟩
end Go.Proofs.YtlcefchbfjfifaaGreat
end
