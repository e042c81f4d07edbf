/- The reference's progress: Took, Refused, Heard. (written by genpr.py) -/
import Derived.Test.YtpgakkpmpnebnaaVPrT
import Derived.Test.YtpgakkpmpnebnaaPlan
namespace Go.Proofs.Ytpgakkpmpnebnaa
open Go.RowKit Prg
set_option maxHeartbeats 4000000
set_option maxRecDepth 100000
set_option linter.unusedVariables false
attribute [local irreducible] wpPlan

theorem lnC_one (x : Ln) : (lnC x).all (·.oneCell') = true := by simp [Value.oneCell']
abbrev zTb : Array Value := #[.bool false, .bool false, .bool false, .bool false, .bool false, .bool false, .bool false, .int .u64 0, .int .u64 0, .int .u64 0, .bool false, .int .u64 0, .int .u64 0, .int .u64 0, .bool false, .int .u64 0, .int .u64 0, .int .u64 0, .bool false, .int .u64 0, .int .u64 0, .int .u64 0, .bool false, .int .u64 0, .int .u64 0, .int .u64 0, .bool false, .int .u64 0, .int .u64 0, .int .u64 0, .bool false, .int .u64 0, .int .u64 0, .int .u64 0, .bool false]
def ROp (t' : Tb) (B : Bool) (w : World) (e : Ending) (w' : World) : Prop := e = .returned (.tuple #[.agg (refT t'), .bool B]) ∧ Touch (fun _ => False) w w'
theorem refT_set (t : Tb) {k : Nat} (hk : k < 7) (x : Ln) (hs : (t k).isSome = true) : setAll (refT t) (7 + k * 4) (lnC x).toList = refT (putT t k x) := by
  rw [← refT_put hs]
  rcases lt7 hk with rfl | rfl | rfl | rfl | rfl | rfl | rfl <;> rfl
/-- A call of the reference's: the table's own block, the result's block. -/
structure TbW (w w1 : World) (C : Array Value) : Prop where
  b : Blk w1 w.heap.size 37 C
  r : ∃ Z, Z.size = 35 ∧ Blk w1 (w.heap.size + 1) 37 Z
  t : Touch (fun _ => False) w w1
theorem TbW.new (w : World) (C : Array Value) : TbW w ((w.alloc (.cells C 37)).alloc (.cells zTb 37)) C :=
  ⟨(Blk.new w _ C).alloc _, ⟨zTb, rfl, by simpa using Blk.new (w.alloc (.cells C 37)) 37 zTb⟩, ((Touch.refl _ w).alloc _).alloc _⟩
theorem TbW.none_ {w w1 w2 : World} {C : Array Value} (h : TbW w w1 C) (t : Touch (fun _ => False) w1 w2) : TbW w w2 C := by
  obtain ⟨hb, ⟨Z, hz, hr⟩, ht⟩ := h
  exact ⟨t.blk hb (fun e => e), ⟨Z, hz, t.blk hr (fun e => e)⟩, ht.trans t (fun _ _ e => e)⟩
theorem TbW.own {w w1 w2 : World} {C C' : Array Value} (h : TbW w w1 C) (t : Touch (fun q => q = w.heap.size) w1 w2) (hb : Blk w2 w.heap.size 37 C') : TbW w w2 C' := by
  obtain ⟨_, ⟨Z, hz, hr⟩, ht⟩ := h
  exact ⟨hb, ⟨Z, hz, t.blk hr (by omega)⟩, ht.trans t (fun q hq e => by omega)⟩
theorem TbW.lt {w w1 : World} {C : Array Value} (h : TbW w w1 C) : w.heap.size + 1 < w1.heap.size := by obtain ⟨_, ⟨Z, _, hr⟩, _⟩ := h; exact hr.lt
section
variable {ops : Array Oper} {rest : List Oper} {o : Oper} {a : Act} {w w1 : World} {Q : Exit → Act → World → Prop} {C D : Array Value}
/-- The whole table is loaded; stored as the result. -/
theorem TbW.load (h : TbW w w1 C) (hn : C.size = 35) (x : Operand) (ho : o.op = .load 37 x) (hw : Region.wanted o (yielded ops a.tmps) = true) (hx : a.eval x = .pointer (some ⟨w.heap.size, 0, none⟩))
    (hK : wpList Try.prog ops Q rest (a.put o.dst (.agg C)) w1) : wpList Try.prog ops Q (o :: rest) a w1 :=
  loadC rowTb x ho hw _ _ hx C hn h.b.whole hK
theorem TbW.store (h : TbW w w1 C) (hn : D.size = 35) (h1 : D.all (·.oneCell') = true) (x y : Operand) (ho : o.op = .store 37 x y) (hw : Region.wanted o (yielded ops a.tmps) = true) (hx : a.eval x = .pointer (some ⟨w.heap.size + 1, 0, none⟩)) (hy : a.eval y = .agg D)
    (hK : ∀ w2, Blk w2 (w.heap.size + 1) 37 D → Touch (fun _ => False) w w2 → wpList Try.prog ops Q rest (a.put o.dst undef) w2) : wpList Try.prog ops Q (o :: rest) a w1 := by
  obtain ⟨hb, ⟨Z, hz, hr⟩, ht⟩ := h
  refine storeM rowTb x y ho hw _ hx D hy _ Z hr hz hn h1 ?_
  intro w2 h2 t2
  exact hK w2 h2 (ht.trans t2 (fun q hq e => by omega))
/-- One line is loaded; stored. -/
theorem TbW.line {L : Array Value} (h : TbW w w1 C) (k : Nat) (hL : L.size = 4) (hE : C.extract (7 + k * 4) (7 + k * 4 + 4) = L) (x : Operand) (ho : o.op = .load 34 x) (hw : Region.wanted o (yielded ops a.tmps) = true) (hx : a.eval x = .pointer (some ⟨w.heap.size, 7 + k * 4, none⟩))
    (hK : wpList Try.prog ops Q rest (a.put o.dst (.agg L)) w1) : wpList Try.prog ops Q (o :: rest) a w1 :=
  loadC rowLn x ho hw _ _ hx L hL (hE ▸ h.b.range (7 + k * 4) 4) hK
theorem TbW.put {L : Array Value} (h : TbW w w1 C) (hn : C.size = 35) (k : Nat) (hk : k < 7) (hL : L.size = 4) (h1 : L.all (·.oneCell') = true) (hE : setAll C (7 + k * 4) L.toList = D) (x y : Operand) (ho : o.op = .store 34 x y) (hw : Region.wanted o (yielded ops a.tmps) = true) (hx : a.eval x = .pointer (some ⟨w.heap.size, 7 + k * 4, none⟩)) (hy : a.eval y = .agg L)
    (hK : ∀ w2, TbW w w2 D → Touch (fun q => q = w.heap.size) w1 w2 → wpList Try.prog ops Q rest (a.put o.dst undef) w2) : wpList Try.prog ops Q (o :: rest) a w1 := by
  refine storeP rowLn x y ho hw _ _ hx L hy _ C h.b (by omega) hL h1 ?_
  intro w2 h2 t2 _
  exact hK w2 (h.own t2 (hE ▸ h2)) t2
/-- In a plan: the whole table loaded; stored as the result. -/
theorem TbW.hold {T : Nat → Prop} (h : TbW w w1 C) (hn : C.size = 35) (hT : ¬ T w.heap.size) {i : Nat} {rest : List Stp} (x : Operand) (hi : ops[i]? = some o) (ho : o.op = .load 37 x) (hw : Region.wanted o (yielded ops a.tmps) = true) (hx : a.eval x = .pointer (some ⟨w.heap.size, 0, none⟩))
    (hK : wpPlan Try.prog ops Q T rest (a.put o.dst (.agg C)) w1) : wpPlan Try.prog ops Q T ((1, i) :: rest) a w1 :=
  plan_hC rowTb hi x ho hw _ 0 hx C hn (fun wh t => (t.blk h.b hT).whole) hK
theorem TbW.alone {T : Nat → Prop} (h : TbW w w1 C) (hn : D.size = 35) (h1 : D.all (·.oneCell') = true) (hT : T (w.heap.size + 1)) {i : Nat} {rest : List Stp} (x y : Operand) (hi : ops[i]? = some o) (ho : o.op = .store 37 x y) (hw : Region.wanted o (yielded ops a.tmps) = true) (hx : a.eval x = .pointer (some ⟨w.heap.size + 1, 0, none⟩)) (hy : a.eval y = .agg D)
    (hK : ∀ w2, Blk w2 (w.heap.size + 1) 37 D → Touch (fun _ => False) w w2 → wpPlan Try.prog ops Q T rest (a.put o.dst undef) w2) : wpPlan Try.prog ops Q T ((2, i) :: rest) a w1 := by
  obtain ⟨hb, ⟨Z, hz, hr⟩, ht⟩ := h
  refine plan_aM rowTb hi hw x y ho _ 0 hx D hy _ Z hr (by omega) hn h1 hT ?_
  intro w2 h2 t2 _
  rw [setAll_whole _ _ (by simp; omega)] at h2
  exact hK w2 (by simpa using h2) (ht.trans t2 (fun q hq e => by omega))
end
/-- Where the written block does not lie. -/
theorem TbW.drew {w w1 : World} {C : Array Value} (h : TbW w w1 C) : TbW w w1.drew C := h.none_ (Touch.refl _ w1).drew
theorem ftook_any (t : Tb) (ok : t.Ok) (n : Int) (hn : inI n) (i : Nat) (hi : i < 18446744073709551616) (w : World) :
    Calls Try.prog 57 #[.agg (refT t), .int .i64 n, .int .u64 i] w (ROp (tookT t n i) (tookR t n i) w) := by
  have HW := Lib.hid (TbW.new w (refT t))
  have HI := Lib.hid (fun w1 => fis_any t ok n hn w1)
  have HN := Lib.hid (refT_size t)
  have H1 := Lib.hid (refT_one t)
  cases ht : t n with
  | none =>
    have HV := Lib.hid (show tookT t n i = t ∧ tookR t n i = false by rw [tookT, tookR, ht]; exact ⟨rfl, rfl⟩)
    rw [HV.out.1, HV.out.2]
    rw [show (t n).isSome = false by rw [ht]; rfl] at HI
    clear HV ht ok
    unfold ROp
    generalize refT t = C at *
    go_enter Try.func57, Try.ntmps57
    go_wp2_with (first
      | ((with_reducible apply HW.out.load HN.out); exact rfl; exact rfl; exact rfl)
      | (go_at_call 98; go_must (refine (HI.out _).mono ?_); rintro e w1 ⟨rfl, t1⟩
         have HW1 := Lib.hid (HW.out.none_ t1)
         clear t1)
      | ((with_reducible apply HW1.out.load HN.out); exact rfl; exact rfl; exact rfl)
      | ((with_reducible apply HW1.out.store HN.out H1.out); exact rfl; exact rfl; exact rfl; exact rfl; intro w2 hb2 t2; have HB2 := Lib.hid hb2; have HT2 := Lib.hid t2; clear hb2 t2))
    refine bodyPost_ret (results_cell2 6 7 rowTb HN.out (HB2.out.whole) rfl rfl) rfl ⟨?_, HT2.out⟩
    rfl
  | some x =>
    have hk := ok n x ht
    obtain ⟨k, rfl⟩ := Int.eq_ofNat_of_zero_le hk.1
    have hk7 : k < 7 := by omega
    have hxo := hk.2.2
    have hsm : (t (k : Int)).isSome = true := by rw [ht]; rfl
    have hl : lineV t (k : Int) = x := by rw [lineV, ht]; rfl
    have hR := refT_line t hk7
    rw [hl] at hR
    rw [hsm] at HI
    by_cases hi2 : i ≤ 1152921504606846976
    · have HV := Lib.hid (show tookT t (k : Int) i = putT t k (took x i) ∧ tookR t (k : Int) i = tookB x i by rw [tookT, tookR, ht]; simp only [if_pos hi2, and_self])
      have hP := refT_set t hk7 (took x i) hsm
      have HN2 := Lib.hid (refT_size (putT t k (took x i)))
      have H12 := Lib.hid (refT_one (putT t k (took x i)))
      rw [HV.out.1, HV.out.2]
      unfold ROp
      generalize refT (putT t k (took x i)) = D at *
      generalize refT t = C at *
      clear HV ht hsm ok hl
      obtain ⟨m, q, r, a⟩ := x
      have h1 := hxo.m; have h2 := hxo.n
      simp only at h1 h2
      have HR := Lib.hid hR
      simp only [tookB]
      clear hR hxo
      have hwr : IntKind.u64.wrap ((i : Int) + 1) = (i : Int) + 1 := IntWalk.u64_in _ (by omega)
      have hi3 : ¬ (1152921504606846976 : Int) < i := by omega
      rcases Nat.lt_or_ge m i with hm | hm <;> rcases Nat.lt_or_ge i q with hq | hq
      · rw [show took ⟨m, q, r, a⟩ i = ⟨i, q, r, a⟩ by simp [took]; omega] at hP
        have HP := Lib.hid (show setAll C (7 + k * 4) [.int .u64 (i : Int), .int .u64 (q : Int), .int .u64 r, .bool a] = D from hP)
        rw [show decide (m < i) = true by simp; omega]
        have hm' : (m : Int) < i := by omega
        have hq' : ¬ (q : Int) ≤ i := by omega
        clear hP hi hi2 h1 h2 hn
        go_enter Try.func57, Try.ntmps57
        go_wp2_with (first
      | ((with_reducible apply HW.out.load HN.out); exact rfl; exact rfl; exact rfl)
      | (go_at_call 98; go_must (refine (HI.out _).mono ?_); rintro e w1 ⟨rfl, t1⟩
         have HW1 := Lib.hid (HW.out.none_ t1)
         clear t1)
      | ((with_reducible apply HW1.out.line k rfl HR.out); exact rfl; exact rfl; exact rfl)
      | ((with_reducible apply TbW.put (L := #[.int .u64 (i : Int), .int .u64 (q : Int), .int .u64 r, .bool a]) (HW1.out.none_ ((Touch.refl _ _).alloc _)) HN.out k hk7 rfl (lnC_one ⟨_, _, _, _⟩) HP.out); exact rfl; exact rfl; exact rfl; exact rfl; intro w3 hw3 t3; have HW3 := Lib.hid hw3; clear hw3 t3)
      | ((with_reducible apply HW3.out.load HN2.out); exact rfl; exact rfl; exact rfl)
      | ((with_reducible apply HW3.out.store HN2.out H12.out); exact rfl; exact rfl; exact rfl; exact rfl; intro w2 hb2 t2; have HB2 := Lib.hid hb2; have HT2 := Lib.hid t2; clear hb2 t2))
        refine bodyPost_ret (results_cell2 6 7 rowTb HN2.out (HB2.out.whole) rfl rfl) rfl ⟨?_, HT2.out⟩
        rfl
      · rw [show took ⟨m, q, r, a⟩ i = ⟨i, (i + 1), r, a⟩ by simp [took]; omega] at hP
        have HP := Lib.hid (show setAll C (7 + k * 4) [.int .u64 (i : Int), .int .u64 ((i : Int) + 1), .int .u64 r, .bool a] = D from hP)
        rw [show decide (m < i) = true by simp; omega]
        have hm' : (m : Int) < i := by omega
        have hq' : (q : Int) ≤ i := by omega
        clear hP hi hi2 h1 h2 hn
        go_enter Try.func57, Try.ntmps57
        go_wp2_with (first
      | ((with_reducible apply HW.out.load HN.out); exact rfl; exact rfl; exact rfl)
      | (go_at_call 98; go_must (refine (HI.out _).mono ?_); rintro e w1 ⟨rfl, t1⟩
         have HW1 := Lib.hid (HW.out.none_ t1)
         clear t1)
      | ((with_reducible apply HW1.out.line k rfl HR.out); exact rfl; exact rfl; exact rfl)
      | ((with_reducible apply TbW.put (L := #[.int .u64 (i : Int), .int .u64 ((i : Int) + 1), .int .u64 r, .bool a]) (HW1.out.none_ ((Touch.refl _ _).alloc _)) HN.out k hk7 rfl (lnC_one ⟨_, _, _, _⟩) HP.out); exact rfl; exact rfl; exact rfl; exact rfl; intro w3 hw3 t3; have HW3 := Lib.hid hw3; clear hw3 t3)
      | ((with_reducible apply HW3.out.load HN2.out); exact rfl; exact rfl; exact rfl)
      | ((with_reducible apply HW3.out.store HN2.out H12.out); exact rfl; exact rfl; exact rfl; exact rfl; intro w2 hb2 t2; have HB2 := Lib.hid hb2; have HT2 := Lib.hid t2; clear hb2 t2))
        refine bodyPost_ret (results_cell2 6 7 rowTb HN2.out (HB2.out.whole) rfl rfl) rfl ⟨?_, HT2.out⟩
        rfl
      · rw [show took ⟨m, q, r, a⟩ i = ⟨m, q, r, a⟩ by simp [took]; omega] at hP
        have HP := Lib.hid (show setAll C (7 + k * 4) [.int .u64 (m : Int), .int .u64 (q : Int), .int .u64 r, .bool a] = D from hP)
        rw [show decide (m < i) = false by simp; omega]
        have hm' : ¬ (m : Int) < i := by omega
        have hq' : ¬ (q : Int) ≤ i := by omega
        clear hP hi hi2 h1 h2 hn
        go_enter Try.func57, Try.ntmps57
        go_wp2_with (first
      | ((with_reducible apply HW.out.load HN.out); exact rfl; exact rfl; exact rfl)
      | (go_at_call 98; go_must (refine (HI.out _).mono ?_); rintro e w1 ⟨rfl, t1⟩
         have HW1 := Lib.hid (HW.out.none_ t1)
         clear t1)
      | ((with_reducible apply HW1.out.line k rfl HR.out); exact rfl; exact rfl; exact rfl)
      | ((with_reducible apply TbW.put (L := #[.int .u64 (m : Int), .int .u64 (q : Int), .int .u64 r, .bool a]) (HW1.out.none_ ((Touch.refl _ _).alloc _)) HN.out k hk7 rfl (lnC_one ⟨_, _, _, _⟩) HP.out); exact rfl; exact rfl; exact rfl; exact rfl; intro w3 hw3 t3; have HW3 := Lib.hid hw3; clear hw3 t3)
      | ((with_reducible apply HW3.out.load HN2.out); exact rfl; exact rfl; exact rfl)
      | ((with_reducible apply HW3.out.store HN2.out H12.out); exact rfl; exact rfl; exact rfl; exact rfl; intro w2 hb2 t2; have HB2 := Lib.hid hb2; have HT2 := Lib.hid t2; clear hb2 t2))
        refine bodyPost_ret (results_cell2 6 7 rowTb HN2.out (HB2.out.whole) rfl rfl) rfl ⟨?_, HT2.out⟩
        rfl
      · rw [show took ⟨m, q, r, a⟩ i = ⟨m, (i + 1), r, a⟩ by simp [took]; omega] at hP
        have HP := Lib.hid (show setAll C (7 + k * 4) [.int .u64 (m : Int), .int .u64 ((i : Int) + 1), .int .u64 r, .bool a] = D from hP)
        rw [show decide (m < i) = false by simp; omega]
        have hm' : ¬ (m : Int) < i := by omega
        have hq' : (q : Int) ≤ i := by omega
        clear hP hi hi2 h1 h2 hn
        go_enter Try.func57, Try.ntmps57
        go_wp2_with (first
      | ((with_reducible apply HW.out.load HN.out); exact rfl; exact rfl; exact rfl)
      | (go_at_call 98; go_must (refine (HI.out _).mono ?_); rintro e w1 ⟨rfl, t1⟩
         have HW1 := Lib.hid (HW.out.none_ t1)
         clear t1)
      | ((with_reducible apply HW1.out.line k rfl HR.out); exact rfl; exact rfl; exact rfl)
      | ((with_reducible apply TbW.put (L := #[.int .u64 (m : Int), .int .u64 ((i : Int) + 1), .int .u64 r, .bool a]) (HW1.out.none_ ((Touch.refl _ _).alloc _)) HN.out k hk7 rfl (lnC_one ⟨_, _, _, _⟩) HP.out); exact rfl; exact rfl; exact rfl; exact rfl; intro w3 hw3 t3; have HW3 := Lib.hid hw3; clear hw3 t3)
      | ((with_reducible apply HW3.out.load HN2.out); exact rfl; exact rfl; exact rfl)
      | ((with_reducible apply HW3.out.store HN2.out H12.out); exact rfl; exact rfl; exact rfl; exact rfl; intro w2 hb2 t2; have HB2 := Lib.hid hb2; have HT2 := Lib.hid t2; clear hb2 t2))
        refine bodyPost_ret (results_cell2 6 7 rowTb HN2.out (HB2.out.whole) rfl rfl) rfl ⟨?_, HT2.out⟩
        rfl
    · have HV := Lib.hid (show tookT t (k : Int) i = t ∧ tookR t (k : Int) i = false by rw [tookT, tookR, ht]; simp only [if_neg hi2, and_self])
      rw [HV.out.1, HV.out.2]
      have hi3 : (1152921504606846976 : Int) < i := by omega
      clear HV ht ok hR hl hsm hxo hi2 hk
      unfold ROp
      generalize refT t = C at *
      go_enter Try.func57, Try.ntmps57
      go_wp2_with (first
        | ((with_reducible apply HW.out.load HN.out); exact rfl; exact rfl; exact rfl)
        | (go_at_call 98; go_must (refine (HI.out _).mono ?_); rintro e w1 ⟨rfl, t1⟩
           have HW1 := Lib.hid (HW.out.none_ t1)
           clear t1)
        | ((with_reducible apply HW1.out.load HN.out); exact rfl; exact rfl; exact rfl)
        | ((with_reducible apply HW1.out.store HN.out H1.out); exact rfl; exact rfl; exact rfl; exact rfl; intro w2 hb2 t2; have HB2 := Lib.hid hb2; have HT2 := Lib.hid t2; clear hb2 t2))
      refine bodyPost_ret (results_cell2 6 7 rowTb HN.out (HB2.out.whole) rfl rfl) rfl ⟨?_, HT2.out⟩
      rfl
end Go.Proofs.Ytpgakkpmpnebnaa
