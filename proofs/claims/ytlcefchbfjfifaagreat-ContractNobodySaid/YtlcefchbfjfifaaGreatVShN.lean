/- No shelf: nil, or one that no call made; Load(nil). Calls on a shelf, among the arguments; law14.Light; the walk of ContractNobody. The walk of ContractNobody. -/
import Derived.Test.YtlcefchbfjfifaaGreatVShI
import Derived.Test.YtlcefchbfjfifaaGreatVArgsTc
section
namespace Go.Proofs.YtlcefchbfjfifaaGreat
open Go.RowKit Cal Go.Maps
set_option maxHeartbeats 4000000
set_option maxRecDepth 100000
set_option linter.unusedVariables false
attribute [local irreducible] wpPlan

/-! As in QuillN0 (never import it beside this). -/
theorem nil_bad (w : World) : Calls Tryz.prog 21 #[.pointer none] w fun e w' => e = .returned (.bool false) ∧ w = w' := by
  go_enter Tryz.func21, Tryz.ntmps21
  go_wp2
  go_ret
  simp
theorem nil_fail (w : World) : Calls Tryz.prog 44 #[.pointer none] w fun e w' => e = .returned (.tuple #[]) ∧ w = w' := by
  go_enter Tryz.func44, Tryz.ntmps44
  go_wp2
  go_end0
  simp
theorem nil_left (w : World) : Calls Tryz.prog 20 #[.pointer none] w fun e w' => e = .returned (.int .i64 0) ∧ w = w' := by
  go_enter Tryz.func20, Tryz.ntmps20
  go_wp2
  go_ret
  simp
theorem nil_number (w : World) (most : Nat) (m : Bool) : Calls Tryz.prog 79 #[.pointer none, .int .u64 most, .bool m] w fun e w' => e = .returned (.tuple #[.int .u64 0, .bool false]) ∧ w = w' := by
  go_enter Tryz.func79, Tryz.ntmps79
  go_wp2_with (first
    | (go_at_call 20; refine (nil_left _).mono ?_; rintro e w' ⟨rfl, rfl⟩)
    | (go_at_call 44; refine (nil_fail _).mono ?_; rintro e w' ⟨rfl, rfl⟩))
  go_ret2
  simp
theorem nil_num (w : World) (most : Nat) : Calls Tryz.prog 43 #[.pointer none, .int .u64 most] w fun e w' => e = .returned (.int .u64 0) ∧ w = w' := by
  go_enter Tryz.func43, Tryz.ntmps43
  go_wp2_with (go_at_call 79; refine (nil_number _ _ _).mono ?_; rintro e w' ⟨rfl, rfl⟩)
  go_ret
  simp
def NoSh (w : World) (v : Value) : Prop := v = .pointer none ∨ ∃ g, v = .pointer (some ⟨g, 0, none⟩) ∧ w.cell? ⟨g, 0, none⟩ = some (.map none) ∧ g < w.heap.size
theorem NoSh.far {w w' : World} {v : Value} (h : NoSh w v) (t : Touch (fun _ => False) w w') : NoSh w' v := by
  rcases h with h | ⟨g, h, hc, hg⟩
  · exact .inl h
  · exact .inr ⟨g, h, (t.cell (p := ⟨g, 0, none⟩) hg (fun e => e)).trans hc, Nat.lt_of_lt_of_le hg t.size⟩
theorem nnoneS {w : World} {v : Value} (h : NoSh w v) : Calls Tryz.prog 52 #[v] w fun e w' => e = .returned (.bool true) ∧ w = w' := by
  have hbin : ∀ w, (binOp .eql 73 (.map none) (.map none)).run Tryz.prog w = .ok (.bool true) w := fun w => by first | rfl | simp [go_sem]
  rcases h with rfl | ⟨g, rfl, hc, hg⟩
  · go_enter Tryz.func52, Tryz.ntmps52
    go_wp2
    go_ret
    exact ⟨rfl, rfl⟩
  · go_enter Tryz.func52, Tryz.ntmps52
    go_wp2
    go_ret
    exact ⟨rfl, rfl⟩
theorem nlayS {w : World} {v : Value} (h : NoSh w v) (n : Int) (C : Array Value) : Calls Tryz.prog 25 #[v, .int .i64 n, .agg C] w fun e w' => e = .returned (.int .i64 1) ∧ Touch (fun _ => False) w w' := by
  have HT := Lib.hid ((Touch.refl (fun _ => False) w).alloc (.cells C 51))
  have HN := Lib.hid (nnoneS (h.far HT.out))
  clear h
  go_enter Tryz.func25, Tryz.ntmps25
  go_wp2_with (go_at_call 52; go_must (refine HN.out.mono ?_); rintro e w1 ⟨rfl, rfl⟩)
  go_ret
  exact ⟨rfl, HT.out⟩
theorem nsignS {w : World} {v : Value} (h : NoSh w v) (n : Int) (C : Array Value) : Calls Tryz.prog 26 #[v, .int .i64 n, .agg C] w fun e w' => e = .returned (.int .i64 1) ∧ Touch (fun _ => False) w w' := by
  have HT := Lib.hid ((Touch.refl (fun _ => False) w).alloc (.cells C 24))
  have HN := Lib.hid (nnoneS (h.far HT.out))
  clear h
  go_enter Tryz.func26, Tryz.ntmps26
  go_wp2_with (go_at_call 52; go_must (refine HN.out.mono ?_); rintro e w1 ⟨rfl, rfl⟩)
  go_ret
  exact ⟨rfl, HT.out⟩
theorem ntermsS {w : World} {v : Value} (h : NoSh w v) (n : Int) : Calls Tryz.prog 27 #[v, .int .i64 n] w fun e w' => e = .returned (.tuple #[.agg #[.int .i64 0, .slice none 0 0, .int .i64 0, .int .i64 0], .bool false]) ∧ Touch (fun _ => False) w w' := by
  have HT := Lib.hid ((Touch.refl (fun _ => False) w).alloc (.cells #[.int .i64 0, .slice none 0 0, .int .i64 0, .int .i64 0] 24))
  have HN := Lib.hid (nnoneS (h.far HT.out))
  clear h
  go_enter Tryz.func27, Tryz.ntmps27
  go_wp2_with (go_at_call 52; go_must (refine HN.out.mono ?_); rintro e w1 ⟨rfl, rfl⟩)
  refine bodyPost_ret (v := .tuple #[.agg #[.int .i64 0, .slice none 0 0, .int .i64 0, .int .i64 0], .bool false]) (by simp [results, Tryz.results27, go_sem]) rfl ?_
  exact ⟨rfl, HT.out⟩
theorem nplainS {w : World} {v : Value} (h : NoSh w v) (n : Int) : Calls Tryz.prog 31 #[v, .int .i64 n] w fun e w' => e = .returned (.tuple #[.agg #[.int .i64 0, .slice none 0 0, .slice none 0 0], .bool false]) ∧ Touch (fun _ => False) w w' := by
  have HT := Lib.hid ((Touch.refl (fun _ => False) w).alloc (.cells #[.int .i64 0, .slice none 0 0, .slice none 0 0] 51))
  have HN := Lib.hid (nnoneS (h.far HT.out))
  clear h
  go_enter Tryz.func31, Tryz.ntmps31
  go_wp2_with (go_at_call 52; go_must (refine HN.out.mono ?_); rintro e w1 ⟨rfl, rfl⟩)
  refine bodyPost_ret (v := .tuple #[.agg #[.int .i64 0, .slice none 0 0, .slice none 0 0], .bool false]) (by simp [results, Tryz.results31, go_sem]) rfl ?_
  exact ⟨rfl, HT.out⟩
theorem nclockS {w : World} {v : Value} (h : NoSh w v) (n : Int) : Calls Tryz.prog 32 #[v, .int .i64 n] w fun e w' => e = .returned (.tuple #[.pointer none, .bool false]) ∧ Touch (fun _ => False) w w' := by
  have HN := Lib.hid (ntermsS h n)
  clear h
  go_enter Tryz.func32, Tryz.ntmps32
  go_wp2_with (go_at_call 27; go_must (refine HN.out.mono ?_); rintro e w1 ⟨rfl, t1⟩; have HT := Lib.hid (t1.alloc (.cells #[.int .i64 0, .slice none 0 0, .int .i64 0, .int .i64 0] 24)); clear t1)
  refine bodyPost_ret (v := .tuple #[.pointer none, .bool false]) (by simp [results, Tryz.results32, go_sem]) rfl ?_
  exact ⟨rfl, HT.out⟩
theorem ncloneS (w : World) : Calls Tryz.prog 28 #[.pointer none] w fun e w' => e = .returned (.pointer (some ⟨w.heap.size, 0, none⟩)) ∧ NoSh w' (.pointer (some ⟨w.heap.size, 0, none⟩)) ∧ Touch (fun _ => False) w w' := by
  have HN := Lib.hid (nnoneS (w := w) (v := .pointer none) (.inl rfl))
  have hb := Blk.new w 76 #[.map none, .map none]
  have HS := Lib.hid (show NoSh (w.alloc (.cells #[.map none, .map none] 76)) (.pointer (some ⟨w.heap.size, 0, none⟩)) from .inr ⟨_, rfl, hb.cell 0, hb.lt⟩)
  have HT := Lib.hid ((Touch.refl (fun _ => False) w).alloc (.cells #[.map none, .map none] 76))
  clear hb
  go_enter Tryz.func28, Tryz.ntmps28
  go_wp2_with (go_at_call 52; go_must (refine HN.out.mono ?_); rintro e w1 ⟨rfl, rfl⟩)
  go_ret
  exact ⟨rfl, HS.out, HT.out⟩
theorem nputS {w : World} {v : Value} (h : NoSh w v) (u : Value) : Calls Tryz.prog 60 #[v, u] w fun e w' => e = .returned (.tuple #[]) ∧ w = w' := by
  have HN := Lib.hid (nnoneS h)
  clear h
  go_enter Tryz.func60, Tryz.ntmps60
  go_wp2_with (go_at_call 52; go_must (refine HN.out.mono ?_); rintro e w1 ⟨rfl, rfl⟩)
  exact bodyPost_ret (v := .tuple #[]) (results_none (by rfl) _ _ _) rfl ⟨rfl, rfl⟩
theorem nbytesS {w : World} {v : Value} (h : NoSh w v) : Calls Tryz.prog 29 #[v] w fun e w' => e = .returned (.string ⟨#[]⟩) ∧ Touch (fun _ => False) w w' := by
  have ta := (Touch.refl (fun _ => False) w).alloc (.cells #[.slice none 0 0] 33)
  have HT := Lib.hid ta
  have HP := Lib.hid (fun u => nputS (h.far ta) u)
  have HW0 := Lib.hid (show WAt (w.alloc (.cells #[.slice none 0 0] 33)) w.heap.size none [] from ⟨by simp, _, Blk.new w 33 #[.slice none 0 0], Own.nil _ _ _⟩)
  clear h ta
  go_enter Tryz.func29, Tryz.ntmps29
  go_wp2_with (first
    | (go_at_call 60; go_must (refine (HP.out _).mono ?_); rintro e w1 ⟨rfl, rfl⟩)
    | (go_at_call 17; go_must (refine (wbytes_any w.heap.size none [] _ (by exact HW0.out) (by simp)).mono ?_)
       rintro e w2 ⟨A8, c8, rfl, u8, m8, hr8, t8⟩
       simp only [List.map_nil, List.length_nil] at hr8 ⊢
       have hs := Rd.str (l := []) (n := 0) hr8 c8
       have HT2 := Lib.hid (HT.out.trans t8 (fun _ _ e => e))
       clear u8 m8 hr8 t8))
  go_ret
  exact ⟨rfl, HT2.out⟩
theorem nloadS (w : World) : Calls Tryz.prog 33 #[.pointer none] w fun e w' => e = .returned (.tuple #[.pointer none, .bool false]) ∧ Touch (fun _ => False) w w' := by
  have hmf : ∀ (fn : Fn) (first cap : Array Value) (w : World), (Instr.makeFunc fn first cap).run Tryz.prog w = .ok (.func fn first cap) w := fun _ _ _ _ => rfl
  go_enter Tryz.func33, Tryz.ntmps33
  go_wp2_with (first
    | (go_at_call 23; go_must (refine (hnew_any _).mono ?_); rintro e w1 ⟨g, b1, b2, rfl, -, -, -, -, t1⟩; have HT := Lib.hid (t1.alloc (.cells #[.int .i64 (-1)] 3)); have hwl := t1.size; clear t1)
    | (go_at_call 43; go_must (refine (nil_num _ _).mono ?_); rintro e w2 ⟨rfl, rfl⟩))
  obtain ⟨W, hW⟩ : ∃ W, W = w1.alloc (.cells #[.int .i64 (-1)] 3) := ⟨_, rfl⟩
  have HW := Lib.hid hW
  rw [← hW]
  rw [← hW] at HT
  have hbW : Blk W w1.heap.size 3 #[.int .i64 (-1)] := hW ▸ Blk.new w1 _ _
  have x0 := hbW.cell 0
  have f0 := hbW.frozen 0
  simp at x0
  have ts := (Touch.refl (fun q => q = w1.heap.size) W).set (b := w1.heap.size) (o := 0) (fun _ => rfl) (.int .i64 (-1))
  have HT2 := Lib.hid (HT.out.trans ts (S := fun _ => False) (fun k hk e => by omega))
  clear hW hbW
  go_loopw [7, 20] (fun v i wr => v = .bool false ∧ i = .int .u64 0 ∧ W = wr) (fun _ _ _ => 0)
  case atStart => exact ⟨rfl, rfl, rfl⟩
  case round =>
    obtain ⟨rfl, rfl, rfl⟩ := hrel
    go_wp2_with (go_at_call 43; go_must (refine (nil_num _ _).mono ?_); rintro e w2 ⟨rfl, rfl⟩)
    obtain ⟨W2, hW2⟩ : ∃ W2, W2 = W.setCell ⟨w1.heap.size, 0, none⟩ (.int .i64 (-1)) := ⟨_, rfl⟩
    rw [← hW2]
    rw [← hW2] at HT2
    clear hW2 x0 f0 ts
    go_loopw [7, 49] (fun v i wr => v = .bool false ∧ i = .int .u64 0 ∧ W2 = wr) (fun _ _ _ => 0)
    case atStart => exact ⟨rfl, rfl, rfl⟩
    case round =>
      obtain ⟨rfl, rfl, rfl⟩ := hrel
      go_wp2_with (first
        | (go_at_call 21; go_must (refine (nil_bad _).mono ?_); rintro e w3 ⟨rfl, rfl⟩)
        | (go_at_call 44; go_must (refine (nil_fail _).mono ?_); rintro e w3 ⟨rfl, rfl⟩))
      refine bodyPost_ret (v := .tuple #[.pointer none, .bool false]) (by simp [results, Tryz.results33, go_sem]) rfl ?_
      exact ⟨rfl, HT2.out⟩
end Go.Proofs.YtlcefchbfjfifaaGreat
end

section
namespace Go.Proofs.YtlcefchbfjfifaaGreat
open Go.RowKit Go.ChangeShapes Go.WideShapes Go.ChangeAt Go.Deep Cal
set_option maxHeartbeats 4000000
set_option maxRecDepth 100000
set_option linter.unusedVariables false
attribute [local irreducible] wpPlan

/-- A call: a contract is signed, or a calendar laid down. -/
structure SOpV where
  sg : Bool
  n : Int
  c : Ca
  A : Option Addr
  B : Option Addr
  k : Nat
  m : Nat
  d : Co
  D : Option Addr
  q : Nat
def SOpV.arr (o : SOpV) : Array Value := #[.bool o.sg, .int .i64 o.n, .int .i64 o.c.off, .slice o.A o.c.wk.length o.k, .slice o.B o.c.cl.length o.m, .int .i64 o.d.cal, .slice o.D o.d.lv.length o.q, .int .i64 o.d.rt, .int .i64 o.d.bk]
def SOpV.cells (o : SOpV) : List Value := o.arr.toList
theorem SOpV.size (o : SOpV) : o.arr.size = 9 := rfl
theorem SOpV.len (o : SOpV) : o.cells.length = 9 := rfl
theorem SOpV.one (o : SOpV) : o.arr.all (·.oneCell') = true := by simp [SOpV.arr, Value.oneCell']
structure SOpV.ok (w : World) (o : SOpV) : Prop where
  n : -9223372036854775808 ≤ o.n ∧ o.n ≤ 9223372036854775807
  c : CaR w (fun k => k < w.heap.size) o.c o.A o.B
  d : SpR w (fun k => k < w.heap.size) o.D o.d.lv.length o.d.lv
section
variable {H : Type} {enc : TypeId × Value → H} {w : World} {spare : Nat → Bool} {held : Bool}
theorem elem_sop {fuel : Nat} {cs : List Value} {x : DataW H × List MemPlace} (h : DataW.trod enc Tryz.prog w 0 spare held fuel 53 cs = some x) : ∃ o : SOpV, cs = o.cells ∧ o.ok w := by
  obtain ⟨ys, n, _, _, hlen, hyl, hf⟩ := DataW.trod_struct Tryz.underlying53 h
  rw [show Tryz.prog.cellsOf 53 = 9 from by kernel_rfl] at hlen
  match cs, hlen, ys, hyl with
  | [c0, c1, c2, c3, c4, c5, c6, c7, c8], _, [y0, y1, y2, y3], _ =>
    have k0 := hf 0 _ rfl; have k1 := hf 1 _ rfl; have k2 := hf 2 _ rfl; have k3 := hf 3 _ rfl
    have z0 : Tryz.prog.cellsOf 4 = 1 := by kernel_rfl
    have z1 : Tryz.prog.cellsOf 3 = 1 := by kernel_rfl
    have z2 : Tryz.prog.cellsOf 51 = 3 := by kernel_rfl
    have z3 : Tryz.prog.cellsOf 24 = 4 := by kernel_rfl
    simp [z0, z1, z2, z3] at k0 k1 k2 k3
    obtain ⟨b, e0, -⟩ := DataW.trod_bool Tryz.underlying4 k0
    obtain ⟨n1, e1, o1⟩ := elem_i64c Tryz.underlying3 k1
    obtain ⟨c, A, B, k, m, e2, r2, -, -⟩ := open_cal k2
    obtain ⟨d, D, q, e3, r3, -, -⟩ := open_con k3
    injection e0 with e0 _; injection e1 with e1 _
    injection e2 with f0 e2; injection e2 with f1 e2; injection e2 with f2 e2
    injection e3 with g0 e3; injection e3 with g1 e3; injection e3 with g2 e3; injection e3 with g3 e3
    subst e0 e1 f0 f1 f2 g0 g1 g2 g3
    exact ⟨⟨b, n1, c, A, B, k, m, d, D, q⟩, rfl, ⟨o1, r2, r3⟩⟩
end
theorem rowSO : RowT 53 9 := ⟨⟨_, Tryz.underlying53, rfl⟩, by kernel_rfl⟩
section
variable {ops : Array Oper} {rest : List Oper} {o : Oper} {a : Act} {w : World} {Q : Exit → Act → World → Prop}
theorem Blk.lpS {T t : TypeId} {n b k : Nat} {C L : Array Value} (hb : Blk w b T C) (R : RowT t n) (hL : L.size = n) (hE : C.extract k (k + n) = L) (x : Operand) (ho : o.op = .load t x) (hw : Region.wanted o (yielded ops a.tmps) = true) (hx : a.eval x = .pointer (some ⟨b, k, none⟩))
    (h : wpList Tryz.prog ops Q rest (a.put o.dst (.agg L)) w) : wpList Tryz.prog ops Q (o :: rest) a w := loadC R x ho hw b k hx L hL (hE ▸ hb.range k n) h
end
theorem SOpV.ex_c (o : SOpV) : o.arr.extract 2 (2 + 3) = caA o.c o.A o.B o.k o.m := by simp [SOpV.arr, caA]
theorem SOpV.ex_d (o : SOpV) : o.arr.extract 5 (5 + 4) = conA o.d o.D o.q := by simp [SOpV.arr, conA]
def lightS (o : SOpV) : Bool := (decide (o.c.wk.length ≤ 60) && decide (o.c.cl.length ≤ 60)) && decide (o.d.lv.length ≤ 60)
def light14B (l : List SOpV) : Bool := l.all lightS && decide (l.length ≤ 60)
theorem light14_any (F : Nat → Prop) (A : Option Addr) (c : Nat) (l : List SOpV) (w : World) (hr : RdZ w F 9 A l.length (l.flatMap SOpV.cells)) (hsm : l.length ≤ 9223372036854775807) :
    Calls Tryz.prog 22 #[.slice A l.length c] w fun e w' => e = .returned (.bool (light14B l)) ∧ Touch (fun _ => False) w w' := by
  have HR := Lib.hid hr
  obtain ⟨v, hv⟩ : ∃ v, v = light14B l := ⟨_, rfl⟩
  rw [← hv]
  have HV := Lib.hid hv
  clear hr hv
  go_enter Tryz.func22, Tryz.ntmps22
  go_wp2_with fail
  go_loopw [7] (fun i wr => ∃ j : Nat, j ≤ l.length ∧ i = .int .i64 j ∧ (l.take j).all lightS = true ∧ Touch (fun _ => False) w wr) (fun i _ => l.length - (intOf i).toNat)
  case atStart => exact ⟨0, by omega, rfl, by simp, Touch.refl _ _⟩
  case round =>
    obtain ⟨j, hj, rfl, hA, hT⟩ := hrel
    have HA := Lib.hid hA
    have HT := Lib.hid hT
    clear hA
    by_cases hjk : j < l.length
    · have ha : l[j]? = some (l[j]'hjk) := List.getElem?_eq_getElem _
      obtain ⟨a, off, rfl, -, -, hc⟩ := (HR.out.touch hT (fun _ _ e => e)).at_ (fun a _ => a.len) rfl ha
      have HX := Lib.hid (show (l.take (j + 1)).all lightS = ((l.take j).all lightS && lightS (l[j]'hjk)) by
        rw [List.take_succ_eq_append_getElem hjk, List.all_append]; simp)
      have HXm := Lib.hid (List.getElem_mem hjk)
      generalize l[j]'hjk = o at *
      have HRg := Lib.hid (show wr.rangeAt a (off + j * 9) o.arr.toList from fun k u hk => by rw [Nat.add_assoc]; exact hc k u hk)
      have HOn := Lib.hid o.size
      have HO1 := Lib.hid o.one
      have HEc := Lib.hid o.ex_c
      have HCn := Lib.hid (show (caA o.c o.A o.B o.k o.m).size = 3 from rfl)
      have HK6 := Lib.hid (show o.arr[6]? = some (.slice o.D o.d.lv.length o.q) from rfl)
      have HL1 := Lib.hid (show ∀ w1, Calls Tryz.prog 49 #[.agg (caA o.c o.A o.B o.k o.m)] w1 fun e w' => e = .returned (.bool (decide (o.c.wk.length ≤ 60) && decide (o.c.cl.length ≤ 60))) ∧ Touch (fun _ => False) w1 w' from fun w1 => light10_any o.A o.B o.k o.m o.c.wk.length o.c.cl.length o.c.off w1)
      generalize caA o.c o.A o.B o.k o.m = X3 at *
      generalize ho : o.arr = OC at *
      have HB := Lib.hid (Blk.new wr 53 OC)
      have HTA := Lib.hid (HT.out.trans ((Touch.refl (fun _ => False) wr).alloc (.cells OC 53)) (fun _ _ e => e))
      have HK := Lib.hid (show lightS o = ((decide (o.c.wk.length ≤ 60) && decide (o.c.cl.length ≤ 60)) && decide (o.d.lv.length ≤ 60)) from rfl)
      clear hc ha hT ho
      generalize (decide (o.c.wk.length ≤ 60) && decide (o.c.cl.length ≤ 60)) = b1 at *
      cases b1
      · have HE := Lib.hid (show v = false by
          rw [HV.out, light14B, Bool.and_eq_false_iff]; left
          rw [List.all_eq_false]
          exact ⟨o, HXm.out, by rw [HK.out]; simp⟩)
        go_wp2_with (first
          | (refine loadC rowSO _ rfl rfl a (off + j * 9) rfl OC HOn.out HRg.out ?_)
          | (refine storeC rowSO _ _ rfl rfl wr _ OC rfl rfl rfl (by kernel_rfl) HOn.out HO1.out ?_)
          | ((with_reducible apply HB.out.lpS (k := 2) rowCa HCn.out HEc.out); exact rfl; exact rfl; exact rfl)
          | (go_at_call 49; go_must (refine (HL1.out _).mono ?_); rintro e w1 ⟨rfl, t1⟩; have HT1 := Lib.hid (HTA.out.trans t1 (fun _ _ e => e)); clear t1))
        go_ret
        exact ⟨by rw [HE.out]; rfl, HT1.out⟩
      by_cases hl : 60 < o.d.lv.length
      · have HE := Lib.hid (show v = false by
          rw [HV.out, light14B, Bool.and_eq_false_iff]; left
          rw [List.all_eq_false]
          exact ⟨o, HXm.out, by rw [HK.out]; simp; omega⟩)
        have hl' : (60 : Int) < (o.d.lv.length : Int) := by omega
        go_wp2_with (first
          | (refine loadC rowSO _ rfl rfl a (off + j * 9) rfl OC HOn.out HRg.out ?_)
          | (refine storeC rowSO _ _ rfl rfl wr _ OC rfl rfl rfl (by kernel_rfl) HOn.out HO1.out ?_)
          | ((with_reducible apply HB.out.lpS (k := 2) rowCa HCn.out HEc.out); exact rfl; exact rfl; exact rfl)
          | (go_at_call 49; go_must (refine (HL1.out _).mono ?_); rintro e w1 ⟨rfl, t1⟩; have HT1 := Lib.hid (HTA.out.trans t1 (fun _ _ e => e)); have hb1 := t1.blk HB.out (fun e => e); have q6 := hb1.cell 6; rw [HK6.out] at q6; clear t1 hb1))
        go_ret
        exact ⟨by rw [HE.out]; rfl, HT1.out⟩
      · have HE := Lib.hid (show (l.take (j + 1)).all lightS = true by rw [HX.out, HA.out, HK.out]; simp; omega)
        have hl' : ¬ (60 : Int) < (o.d.lv.length : Int) := by omega
        go_wp2_with (first
          | (refine loadC rowSO _ rfl rfl a (off + j * 9) rfl OC HOn.out HRg.out ?_)
          | (refine storeC rowSO _ _ rfl rfl wr _ OC rfl rfl rfl (by kernel_rfl) HOn.out HO1.out ?_)
          | ((with_reducible apply HB.out.lpS (k := 2) rowCa HCn.out HEc.out); exact rfl; exact rfl; exact rfl)
          | (go_at_call 49; go_must (refine (HL1.out _).mono ?_); rintro e w1 ⟨rfl, t1⟩; have HT1 := Lib.hid (HTA.out.trans t1 (fun _ _ e => e)); have hb1 := t1.blk HB.out (fun e => e); have q6 := hb1.cell 6; rw [HK6.out] at q6; clear t1 hb1))
        go_roundw
        case rel => exact ⟨j + 1, by omega, by go_num, HE.out, HT1.out⟩
        case measure => simp [intOf]; omega
    · obtain rfl : j = l.length := by omega
      have HE := Lib.hid (show v = decide (l.length ≤ 60) by
        have := HA.out
        rw [List.take_length] at this
        rw [HV.out, light14B, this, Bool.true_and])
      go_wp2
      go_ret
      refine ⟨ret_bool ?_, HT.out⟩
      rw [HE.out]
      simp; omega
end Go.Proofs.YtlcefchbfjfifaaGreat
end

section
namespace Go.Proofs.YtlcefchbfjfifaaGreat
open Go.RowKit Cal Go.Maps
set_option maxHeartbeats 4000000
set_option maxRecDepth 100000
set_option linter.unusedVariables false
attribute [local irreducible] wpPlan

theorem foldSO (o : SOpV) : Array.foldl (fun cs x => cs.setIfInBounds x.snd x.fst) #[.bool false, .int .i64 0, .int .i64 0, .slice none 0 0, .slice none 0 0, .int .i64 0, .slice none 0 0, .int .i64 0, .int .i64 0] o.arr.zipIdx 0 9 = o.arr := by
  simp [SOpV.arr]
theorem oneSO (w : World) (o : SOpV) : RdZ (w.alloc (.cells o.arr 53)) (fun _ => True) 9 (some ⟨w.heap.size, 0, none⟩) 1 ([o].flatMap SOpV.cells) := by
  have hb := Blk.new w 53 o.arr
  refine ⟨by simp [o.len], fun _ => ⟨w.heap.size, 0, rfl, hb.lt, trivial, fun j u hj => ?_⟩⟩
  rw [Nat.zero_add]
  refine (hb.cell j).trans ?_
  simpa [SOpV.cells] using hj
theorem walk_ContractNobody {w : World} (o : SOpV) (oo : o.ok w) :
    Calls Tryz.prog 5 #[.agg o.cells.toArray] w fun e w' => e = .returned (.bool true) ∧ Below w.heap.size w w' := by
  rw [show o.cells.toArray = o.arr from by simp [SOpV.cells]]
  have HFo := Lib.hid (foldSO o)
  have HLo := Lib.hid (fun (w1 : World) => light14_any (fun _ => True) _ 1 [o] _ (oneSO w1 o) (by simp))
  have HEc := Lib.hid o.ex_c
  have HEd := Lib.hid o.ex_d
  have HOn := Lib.hid o.size
  have HO1 := Lib.hid o.one
  have HCn := Lib.hid (show (caA o.c o.A o.B o.k o.m).size = 3 from rfl)
  have HDn := Lib.hid (show (conA o.d o.D o.q).size = 4 from rfl)
  have HK1 := Lib.hid (show o.arr[1]? = some (.int .i64 o.n) from rfl)
  obtain ⟨OC, hOC⟩ : ∃ OC, OC = o.arr := ⟨_, rfl⟩
  rw [← hOC] at HFo HLo HEc HEd HOn HO1 HK1 ⊢
  have hcn := HOn.out
  obtain ⟨W, hW⟩ : ∃ W, W = w.alloc (.cells OC 53) := ⟨_, rfl⟩
  have HT0 := Lib.hid (show Touch (fun _ => False) w W from hW ▸ (Touch.refl _ w).alloc _)
  have HB0 := Lib.hid (show Blk W w.heap.size 53 OC from hW ▸ Blk.new w _ _)
  have HBl := Lib.hid (Blk.new w 53 OC)
  have HW := Lib.hid hW
  generalize light14B [o] = lb at *
  clear hOC hW oo
  go_enter Tryz.func5, Tryz.ntmps5
  go_wp2_with (first
    | ((with_reducible apply HBl.out.ld rowSO HOn.out); exact rfl; exact rfl; exact rfl))
  rw [HFo.out, ← HW.out]
  have hz : W.heap.size = w.heap.size + 1 := by rw [HW.out]; simp
  have hL := HLo.out W
  rw [hz] at hL
  refine hL.mono ?_
  rintro e w1 ⟨rfl, t1⟩
  have HT1 := Lib.hid ((HT0.out.alloc _).trans t1 (fun _ _ e => e))
  have HB1 := Lib.hid (((Touch.refl (fun _ => False) W).alloc _ |>.trans t1 (fun _ _ e => e)).blk HB0.out (fun e => e))
  clear hL t1 HLo
  cases lb
  · go_wp2_with (go_at_call 8; go_must (refine (lives14_any _).mono ?_); rintro e w2 ⟨rfl, t2⟩; have HT := Lib.hid (HT1.out.trans t2 (fun _ _ e => e)); clear t2)
    go_ret
    exact ⟨rfl, HT.out.below⟩
  have HB1a := Lib.hid (HB1.out.alloc (.cells #[.map none, .map none] 76))
  have HN1 := Lib.hid (show (w1.alloc (.cells #[.map none, .map none] 76)).cell? ⟨w1.heap.size, 0, none⟩ = some (.map none) ∧ w1.heap.size < (w1.alloc (.cells #[.map none, .map none] 76)).heap.size from ⟨(Blk.new w1 76 #[.map none, .map none]).cell 0, (Blk.new w1 76 #[.map none, .map none]).lt⟩)
  have HT1a := Lib.hid (HT1.out.alloc (.cells #[.map none, .map none] 76))
  go_wp2_with (first
    | (go_at_call 28; go_must (refine (ncloneS _).mono ?_); rintro e w2 ⟨rfl, n2, t2⟩
       have HN2 := Lib.hid n2
       have HN1 := Lib.hid (show NoSh w2 (.pointer (some ⟨w1.heap.size, 0, none⟩)) from .inr ⟨_, rfl, (t2.cell (p := ⟨w1.heap.size, 0, none⟩) HN1.out.2 (fun e => e)).trans HN1.out.1, Nat.lt_of_lt_of_le HN1.out.2 t2.size⟩)
       have HT2 := Lib.hid (HT1a.out.trans t2 (fun _ _ e => e))
       have HB2 := Lib.hid (t2.blk HB1a.out (fun e => e))
       clear n2 t2))
  rw [show (w1.alloc (.cells #[.map none, .map none] 76)).heap.size = w1.heap.size + 1 by simp] at HN2
  obtain ⟨ps, hps⟩ : ∃ ps : List (Option Addr), ps = [none, some ⟨w1.heap.size, 0, none⟩, some ⟨w1.heap.size + 1, 0, none⟩] := ⟨_, rfl⟩
  have hpl : ps.length = 3 := by rw [hps]; rfl
  have HPs := Lib.hid (show ∀ p ∈ ps, NoSh w2 (.pointer p) from fun p hp => by
    rw [hps] at hp
    simp only [List.mem_cons, List.not_mem_nil, or_false] at hp
    rcases hp with rfl | rfl | rfl
    · exact .inl rfl
    · exact HN1.out
    · exact HN2.out)
  have HBs := Lib.hid (show Blk (w2.alloc (.cells #[.pointer none, .pointer (some ⟨w1.heap.size, 0, none⟩), .pointer (some ⟨w1.heap.size + 1, 0, none⟩)] 55)) w2.heap.size 55 (ps.map Value.pointer).toArray from by rw [hps]; exact Blk.new w2 _ _)
  have HA2 := Lib.hid ((Touch.refl (fun _ => False) w2).alloc (.cells #[.pointer none, .pointer (some ⟨w1.heap.size, 0, none⟩), .pointer (some ⟨w1.heap.size + 1, 0, none⟩)] 55))
  clear hps HN2 HN1
  go_loopw [26] (fun i wq => ∃ j : Nat, j ≤ 3 ∧ i = .int .i64 j ∧ Touch (fun _ => False) w2 wq ∧ Blk wq w2.heap.size 55 (ps.map Value.pointer).toArray) (fun i _ => 3 - (intOf i).toNat)
  case atStart => exact ⟨0, by omega, rfl, HA2.out, HBs.out⟩
  case round =>
    clear HA2 HBs
    obtain ⟨j, hj, rfl, hT, hB⟩ := hrel
    have HT := Lib.hid hT
    have HB := Lib.hid hB
    clear hT hB
    by_cases hj2 : j < 3
    · obtain ⟨p, hp⟩ : ∃ p, ps[j]? = some p := ⟨_, List.getElem?_eq_getElem (by omega)⟩
      have cj := HB.out.cell j
      rw [show ((ps.map Value.pointer).toArray)[j]? = some (.pointer p) by simp [hp]] at cj
      have HNp := Lib.hid ((HPs.out p (List.mem_of_getElem? hp)).far HT.out)
      have HOq := Lib.hid (HT.out.blk HB2.out (fun e => e))
      have q1 := HOq.out.cell 1
      rw [HK1.out] at q1
      have hj2' : (j : Int) < 3 := by omega
      generalize caA o.c o.A o.B o.k o.m = X3 at *
      generalize conA o.d o.D o.q = X4 at *
      clear hp
      go_wp2_with (first
        | (go_at_call 27; go_must (refine (ntermsS HNp.out _).mono ?_); rintro e u1 ⟨rfl, t1⟩
           have HTa := Lib.hid (t1.alloc (.cells #[.int .i64 0, .slice none 0 0, .int .i64 0, .int .i64 0] 24))
           have HOa := Lib.hid (HTa.out.blk HOq.out (fun e => e))
           have HNa := Lib.hid (HNp.out.far HTa.out)
           have q2 := HOa.out.cell 1
           rw [HK1.out] at q2
           clear t1)
        | (go_at_call 31; go_must (refine (nplainS HNa.out _).mono ?_); rintro e u2 ⟨rfl, t1⟩
           have HTb := Lib.hid (HTa.out.trans (t1.alloc (.cells #[.int .i64 0, .slice none 0 0, .slice none 0 0] 51)) (fun _ _ e => e))
           have HOb := Lib.hid (HTb.out.blk HOq.out (fun e => e))
           have HNb := Lib.hid (HNp.out.far HTb.out)
           have q3 := HOb.out.cell 1
           rw [HK1.out] at q3
           clear t1)
        | (go_at_call 32; go_must (refine (nclockS HNb.out _).mono ?_); rintro e u3 ⟨rfl, t1⟩
           have HTc := Lib.hid (HTb.out.trans t1 (fun _ _ e => e))
           have HOc := Lib.hid (HTc.out.blk HOq.out (fun e => e))
           have HNc := Lib.hid (HNp.out.far HTc.out)
           have q4 := HOc.out.cell 1
           rw [HK1.out] at q4
           clear t1)
        | ((with_reducible apply HOc.out.lpS (k := 2) rowCa HCn.out HEc.out); exact rfl; exact rfl; exact rfl)
        | (go_at_call 25; go_must (refine (nlayS HNc.out _ X3).mono ?_); rintro e u4 ⟨rfl, t1⟩
           have HTd := Lib.hid (HTc.out.trans t1 (fun _ _ e => e))
           have HOd := Lib.hid (HTd.out.blk HOq.out (fun e => e))
           have HNd := Lib.hid (HNp.out.far HTd.out)
           have q5 := HOd.out.cell 1
           rw [HK1.out] at q5
           clear t1)
        | ((with_reducible apply HOd.out.lpS (k := 5) rowCo HDn.out HEd.out); exact rfl; exact rfl; exact rfl)
        | (go_at_call 26; go_must (refine (nsignS HNd.out _ X4).mono ?_); rintro e u5 ⟨rfl, t1⟩
           have HTe := Lib.hid (HTd.out.trans t1 (fun _ _ e => e))
           have HNe := Lib.hid (HNp.out.far HTe.out)
           clear t1)
        | (go_at_call 29; go_must (refine (nbytesS HNe.out).mono ?_); rintro e u6 ⟨rfl, t1⟩
           have HTf := Lib.hid (HTe.out.trans t1 (fun _ _ e => e))
           clear t1))
      go_roundw
      case rel => exact ⟨j + 1, by omega, by go_num, HT.out.trans HTf.out (fun _ _ e => e), HTf.out.blk HB.out (fun e => e)⟩
      case measure => simp [intOf]; omega
    · obtain rfl : j = 3 := by omega
      go_wp2_with (first
        | (go_at_call 33; go_must (refine (nloadS _).mono ?_); rintro e u1 ⟨rfl, t1⟩; have HTy := Lib.hid ((HT2.out.trans HT.out (fun _ _ e => e)).trans t1 (fun _ _ e => e)); clear t1)
        | (go_at_call 8; go_must (refine (lives14_any _).mono ?_); rintro e u2 ⟨rfl, t2⟩; have HTz := Lib.hid (HTy.out.trans t2 (fun _ _ e => e)); clear t2))
      go_ret
      exact ⟨rfl, HTz.out.below⟩
end Go.Proofs.YtlcefchbfjfifaaGreat
end
