/- The reference's table of sessions: is, Last, Look, Done, Drop. -/
import Derived.Test.YtmgmjehebbggaaaVSesR
import Derived.Test.YtmgmjehebbggaaaPlan
namespace Go.Proofs.Ytmgmjehebbggaaa
open Go.RowKit Go.Maps
set_option maxHeartbeats 4000000
set_option maxRecDepth 100000
set_option linter.unusedVariables false
attribute [local irreducible] wpPlan

theorem rowRt : RowT 46 135 := ⟨⟨_, Try.underlying46, rfl⟩, by kernel_rfl⟩
theorem rowRy : RowT 35 14 := ⟨⟨_, Try.underlying35, rfl⟩, by kernel_rfl⟩
theorem builtRy : Try.prog.built 35 [] = some #[.int .i64 0, .int .i64 0, .int .u64 0, .int .i64 0, .int .i64 0, .int .i64 0, .int .u64 0, .int .i64 0, .int .i64 0, .int .i64 0, .int .i64 0, .slice none 0 0, .int .u64 0, .int .i64 0] := by kernel_rfl
theorem zRy_one : (#[.int .i64 0, .int .i64 0, .int .u64 0, .int .i64 0, .int .i64 0, .int .i64 0, .int .u64 0, .int .i64 0, .int .i64 0, .int .i64 0, .int .i64 0, .slice none 0 0, .int .u64 0, .int .i64 0] : Array Value).all (·.oneCell') = true := by simp [Value.oneCell']
theorem results_tc {fn : Func} {tmps : Array Value} {w : World} {b k n : Nat} {t : TypeId} {cs : Array Value} (u a : Nat) (R : RowT t n) (hn : cs.size = n) (hc : w.rangeAt b k cs.toList) (h : fn.results = #[.tmp u, .cell a t]) (ha : tmps.getD a undef = .pointer (some ⟨b, k, none⟩)) :
    (results fn tmps).run Try.prog w = .ok (.tuple #[tmps.getD u undef, .agg cs]) w := by
  have := R.read hn hc
  rw [Array.getD_eq_getD_getElem?] at ha
  simp [results, h, ha, asAddr, this]
theorem fis20_any (c : Nat) (w : World) : Calls Try.prog 32 #[.int .u64 c] w fun e w' => e = .returned (.bool (whoB c)) ∧ w = w' := by
  by_cases h1 : 1 ≤ c
  · by_cases h8 : c ≤ 8
    · have e1 : (1 : Int) ≤ (c : Int) := by omega
      have e8 : (c : Int) ≤ 8 := by omega
      have HW := Lib.hid (show whoB c = true by simp [whoB, h1, h8])
      rw [HW.out]
      clear h1 h8 HW
      go_enter Try.func32, Try.ntmps32
      go_wp2
      go_ret
      exact ⟨rfl, rfl⟩
    · have e1 : (1 : Int) ≤ (c : Int) := by omega
      have e8 : ¬ (c : Int) ≤ 8 := by omega
      have HW := Lib.hid (show whoB c = false by simp [whoB, h8])
      rw [HW.out]
      clear h1 h8 HW
      go_enter Try.func32, Try.ntmps32
      go_wp2
      go_ret
      exact ⟨rfl, rfl⟩
  · have e1 : ¬ (1 : Int) ≤ (c : Int) := by omega
    have HW := Lib.hid (show whoB c = false by simp [whoB, h1])
    rw [HW.out]
    clear h1 HW
    go_enter Try.func32, Try.ntmps32
    go_wp2
    go_ret
    exact ⟨rfl, rfl⟩
theorem last_out {s : SesS} (ok : SesOk s) {c : Nat} (h : whoB c = false) : s c = none := by
  cases hs : s c with
  | none => rfl
  | some x => have := ok.who c x hs; simp [whoB] at h; omega
theorem who9 {c : Nat} (h : whoB c = true) : c < 9 ∧ 1 ≤ c ∧ c ≤ 8 := by simp [whoB] at h; omega
theorem flast20_any (T : RT) (s : SesS) (hT : RTs T s) (ok : SesOk s) (c : Nat) (w : World) :
    Calls Try.prog 15 #[.agg T.cells, .int .u64 c] w fun e w' => e = .returned (.int .u64 (lastV s c)) ∧ Touch (fun _ => False) w w' := by
  have HT := Lib.hid ((Touch.refl (fun _ => False) w).alloc (.cells T.cells 46))
  have HB := Lib.hid (Blk.new w 46 T.cells)
  have HI := Lib.hid (fun w1 => fis20_any c w1)
  cases hw : whoB c
  · rw [hw] at HI
    have HL := Lib.hid (show lastV s c = 0 by rw [lastV, last_out ok hw])
    rw [HL.out]
    generalize T.cells = C at *
    clear hw HL
    go_enter Try.func15, Try.ntmps15
    go_wp2_with (go_at_call 32; go_must (refine (HI.out _).mono ?_); rintro e w1 ⟨rfl, rfl⟩)
    go_ret
    exact ⟨rfl, HT.out⟩
  · rw [hw] at HI
    obtain ⟨h9, -, -⟩ := who9 hw
    have hl := hT.last h9
    have cc := HB.out.cell c
    rw [T.at_q h9, hl] at cc
    have e9 : (c : Int) < 9 := by omega
    generalize T.cells = C at *
    clear hw hl
    go_enter Try.func15, Try.ntmps15
    go_wp2_with (go_at_call 32; go_must (refine (HI.out _).mono ?_); rintro e w1 ⟨rfl, rfl⟩)
    go_ret
    exact ⟨rfl, HT.out⟩
/-- A call of the reference's: the table's own block, the result's block r. -/
structure RtW (w w1 : World) (r : Nat) (C : Array Value) : Prop where
  b : Blk w1 w.heap.size 46 C
  zz : ∃ Z, Z.size = 135 ∧ Blk w1 r 46 Z
  ne : r ≠ w.heap.size
  le : w.heap.size ≤ r
  t : Touch (fun _ => False) w w1
theorem RtW.none_ {w w1 w2 : World} {r : Nat} {C : Array Value} (h : RtW w w1 r C) (t : Touch (fun _ => False) w1 w2) : RtW w w2 r C := by
  obtain ⟨hb, ⟨Z, hz, hr⟩, hn, hl, ht⟩ := h
  exact ⟨t.blk hb (fun e => e), ⟨Z, hz, t.blk hr (fun e => e)⟩, hn, hl, ht.trans t (fun _ _ e => e)⟩
theorem RtW.own {w w1 w2 : World} {r : Nat} {C C' : Array Value} (h : RtW w w1 r C) (t : Touch (fun q => q = w.heap.size) w1 w2) (hb : Blk w2 w.heap.size 46 C') : RtW w w2 r C' := by
  obtain ⟨_, ⟨Z, hz, hr⟩, hn, hl, ht⟩ := h
  exact ⟨hb, ⟨Z, hz, t.blk hr (fun e => hn e)⟩, hn, hl, ht.trans t (fun q hq e => by omega)⟩
section
variable {ops : Array Oper} {rest : List Oper} {o : Oper} {a : Act} {w w1 : World} {r : Nat} {Q : Exit → Act → World → Prop} {C D : Array Value}
theorem RtW.load (h : RtW w w1 r C) (hn : C.size = 135) (x : Operand) (ho : o.op = .load 46 x) (hw : Region.wanted o (yielded ops a.tmps) = true) (hx : a.eval x = .pointer (some ⟨w.heap.size, 0, none⟩))
    (hK : wpList Try.prog ops Q rest (a.put o.dst (.agg C)) w1) : wpList Try.prog ops Q (o :: rest) a w1 := h.b.ld rowRt hn x ho hw hx hK
theorem RtW.store (h : RtW w w1 r C) (hn : D.size = 135) (h1 : D.all (·.oneCell') = true) (x y : Operand) (ho : o.op = .store 46 x y) (hw : Region.wanted o (yielded ops a.tmps) = true) (hx : a.eval x = .pointer (some ⟨r, 0, none⟩)) (hy : a.eval y = .agg D)
    (hK : ∀ w2, Blk w2 r 46 D → Touch (fun _ => False) w w2 → wpList Try.prog ops Q rest (a.put o.dst undef) w2) : wpList Try.prog ops Q (o :: rest) a w1 := by
  obtain ⟨hb, ⟨Z, hz, hr⟩, hne, hl, ht⟩ := h
  refine storeM rowRt x y ho hw _ hx D hy _ Z hr hz hn h1 ?_
  intro w2 h2 t2
  exact hK w2 h2 (ht.trans t2 (fun q hq e => by omega))
theorem RtW.put {L : Array Value} (h : RtW w w1 r C) (hn : C.size = 135) (k : Nat) (hk : k < 9) (hL : L.size = 14) (h1 : L.all (·.oneCell') = true) (hE : setAll C (9 + k * 14) L.toList = D) (x y : Operand) (ho : o.op = .store 35 x y) (hw : Region.wanted o (yielded ops a.tmps) = true) (hx : a.eval x = .pointer (some ⟨w.heap.size, 9 + k * 14, none⟩)) (hy : a.eval y = .agg L)
    (hK : ∀ w2, RtW w w2 r D → Touch (fun q => q = w.heap.size) w1 w2 → wpList Try.prog ops Q rest (a.put o.dst undef) w2) : wpList Try.prog ops Q (o :: rest) a w1 := by
  refine storeP rowRy x y ho hw _ _ hx L hy _ C h.b (by omega) hL h1 ?_
  intro w2 h2 t2 _
  exact hK w2 (h.own t2 (hE ▸ h2)) t2
end
def RtP (T' : RT) (B : Value) (w : World) (e : Ending) (w' : World) : Prop := e = .returned (.tuple #[.agg T'.cells, B]) ∧ Touch (fun _ => False) w w'
def dropT (T : RT) (s : SesS) (c : Nat) : RT := if dropB s c = true then (T.setq c 0).seta c rpZ none 0 else T
theorem fdrop20_any (T : RT) (s : SesS) (hT : RTs T s) (ok : SesOk s) (c : Nat) (w : World) :
    Calls Try.prog 30 #[.agg T.cells, .int .u64 c] w (RtP (dropT T s c) (.bool (dropB s c)) w) := by
  have HW := Lib.hid (show RtW w ((w.alloc (.cells T.cells 46)).alloc (.cells Try.zeroCells46 46)) (w.heap.size + 1) T.cells from
    ⟨(Blk.new w _ T.cells).alloc _, ⟨Try.zeroCells46, by kernel_rfl, by simpa using Blk.new (w.alloc (.cells T.cells 46)) 46 Try.zeroCells46⟩, by omega, by omega, ((Touch.refl _ w).alloc _).alloc _⟩)
  have HN := Lib.hid T.cells_size
  have H1 := Lib.hid T.cells_one
  have HL := Lib.hid (fun w1 => flast20_any T s hT ok c w1)
  unfold RtP
  by_cases h0 : lastV s c = 0
  · have hB : dropB s c = false := by simp [dropB, h0]
    have HD := Lib.hid (show dropT T s c = T by rw [dropT, hB]; rfl)
    rw [h0] at HL
    rw [HD.out, hB]
    generalize T.cells = C at *
    clear hB HD h0
    go_enter Try.func30, Try.ntmps30
    go_wp2_with (first
      | ((with_reducible apply HW.out.load HN.out); exact rfl; exact rfl; exact rfl)
      | (go_at_call 15; go_must (refine (HL.out _).mono ?_); rintro e w1 ⟨rfl, t1⟩; have HW1 := Lib.hid (HW.out.none_ t1); clear t1)
      | ((with_reducible apply HW1.out.load HN.out); exact rfl; exact rfl; exact rfl)
      | ((with_reducible apply HW1.out.store HN.out H1.out); exact rfl; exact rfl; exact rfl; exact rfl; intro w2 hb2 t2; have HB2 := Lib.hid hb2; have HT2 := Lib.hid t2; clear hb2 t2))
    exact bodyPost_ret (results_cell2 4 5 rowRt HN.out (HB2.out.whole) rfl rfl) rfl ⟨rfl, HT2.out⟩
  · have hB : dropB s c = true := by simp [dropB, h0]
    have HD := Lib.hid (show dropT T s c = (T.setq c 0).seta c rpZ none 0 by rw [dropT, hB]; rfl)
    have h9 : c < 9 := by
      cases hs : s c with
      | none => exact absurd (by rw [lastV, hs]) h0
      | some x => have := ok.who c x hs; omega
    rw [HD.out, hB]
    have hp1 := T.put_q h9 0
    have hp2 := (T.setq c 0).put_a h9 rpZ none 0
    have HN2 := Lib.hid ((T.setq c 0).seta c rpZ none 0).cells_size
    have H12 := Lib.hid ((T.setq c 0).seta c rpZ none 0).cells_one
    have HNq := Lib.hid (T.setq c 0).cells_size
    have hcq := HW.out.b.cell c
    rw [T.at_q h9] at hcq
    generalize ((T.setq c 0).seta c rpZ none 0).cells = D at *
    generalize (T.setq c 0).cells = E at *
    have HP1 := Lib.hid (show T.cells.setIfInBounds c (.int .u64 0) = E from hp1)
    have HP2 := Lib.hid (show setAll E (9 + c * 14) [.int .i64 0, .int .i64 0, .int .u64 0, .int .i64 0, .int .i64 0, .int .i64 0, .int .u64 0, .int .i64 0, .int .i64 0, .int .i64 0, .int .i64 0, .slice none 0 0, .int .u64 0, .int .i64 0] = D from hp2)
    have HQ := Lib.hid (T.at_q h9)
    generalize T.q c = qc at *
    generalize T.cells = C at *
    have HL0 := Lib.hid h0
    have hl0 : ((lastV s c : Int) == 0) = false := by simp; omega
    have hl1 : ¬ (lastV s c : Int) = 0 := by omega
    generalize lastV s c = lv at *
    clear hB HD h0 hp1 hp2 hcq
    go_enter Try.func30, Try.ntmps30
    go_wp2_with (first
      | ((with_reducible apply HW.out.load HN.out); exact rfl; exact rfl; exact rfl)
      | (go_at_call 15; go_must (refine (HL.out _).mono ?_); rintro e w1 ⟨rfl, t1⟩
         have HW1 := Lib.hid (HW.out.none_ t1)
         have c1 := HW1.out.b.cell c
         rw [HQ.out] at c1
         have f1 := HW1.out.b.frozen c
         have HW2 := Lib.hid (HW1.out.own ((Touch.refl (fun q => q = w.heap.size) w1).set (o := c) (fun _ => rfl) (.int .u64 0)) (HP1.out ▸ HW1.out.b.set_ c (.int .u64 0)))
         clear t1)
      | (refine buildZ builtRy rfl rfl ?_)
      | ((with_reducible apply RtW.put (L := #[.int .i64 0, .int .i64 0, .int .u64 0, .int .i64 0, .int .i64 0, .int .i64 0, .int .u64 0, .int .i64 0, .int .i64 0, .int .i64 0, .int .i64 0, .slice none 0 0, .int .u64 0, .int .i64 0]) HW2.out HNq.out c h9 rfl zRy_one HP2.out); exact rfl; exact rfl; exact rfl; exact rfl; intro w3 hw3 t3; have HW3 := Lib.hid hw3; clear hw3 t3)
      | ((with_reducible apply HW3.out.load HN2.out); exact rfl; exact rfl; exact rfl)
      | ((with_reducible apply HW3.out.store HN2.out H12.out); exact rfl; exact rfl; exact rfl; exact rfl; intro w4 hb4 t4; have HB4 := Lib.hid hb4; have HT4 := Lib.hid t4; clear hb4 t4))
    exact bodyPost_ret (results_cell2 4 5 rowRt HN2.out (HB4.out.whole) rfl rfl) rfl ⟨rfl, HT4.out⟩
end Go.Proofs.Ytmgmjehebbggaaa
