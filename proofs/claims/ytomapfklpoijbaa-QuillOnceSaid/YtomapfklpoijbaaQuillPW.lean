/- law01.light; the walk of QuillWrites. -/
import Derived.Test.YtomapfklpoijbaaQuillPR
namespace Go.Proofs.Ytomapfklpoijbaa
open Go.RowKit Go.ChangeShapes Go.WideShapes Go.Deep
set_option maxHeartbeats 4000000
set_option maxRecDepth 100000
set_option linter.unusedVariables false

def ItemV.wf (x : ItemV) : Prop := x.num < 256 ^ 8 ∧ -9223372036854775808 ≤ x.int ∧ x.int ≤ 9223372036854775807 ∧ x.text.size ≤ 9223372036854775807
theorem elem_item {H : Type} {enc : TypeId × Value → H} {w : World} {spare : Nat → Bool} {held : Bool} {fuel : Nat} {cs : List Value} {x : DataW H × List MemPlace}
    (h : DataW.trod enc Try.prog w 0 spare held fuel 92 cs = some x) : ∃ a : ItemV, cs = a.cells ∧ a.wf := by
  obtain ⟨hl, hf⟩ := struct_cells Try.underlying92 (by kernel_rfl) (by kernel_rfl) h
  match cs, hl with
  | [c0, c1, c2, c3, c4], _ =>
    obtain ⟨v0, n0, y0, e0, h0⟩ := hf 0 _ rfl
    obtain ⟨v1, n1, y1, e1, h1⟩ := hf 1 _ rfl
    obtain ⟨v2, n2, y2, e2, h2⟩ := hf 2 _ rfl
    obtain ⟨v3, n3, y3, e3, h3⟩ := hf 3 _ rfl
    obtain ⟨v4, n4, y4, e4, h4⟩ := hf 4 _ rfl
    simp at e0 e1 e2 e3 e4
    subst e0 e1 e2 e3 e4
    obtain ⟨k0, e0, _, w0⟩ := DataW.trod_int Try.underlying3 h0
    obtain ⟨k1, e1, _, w1⟩ := DataW.trod_int Try.underlying29 h1
    obtain ⟨k2, e2, _, w2⟩ := DataW.trod_int Try.underlying2 h2
    obtain ⟨k3, e3, _⟩ := DataW.trod_bool Try.underlying4 h3
    obtain ⟨k4, e4, _, w4⟩ := DataW.trod_string Try.underlying9 h4
    simp at e0 e1 e2 e3 e4
    subst e0 e1 e2 e3 e4
    have b1 := wf_u64 w1
    have b2 := wf_i64 w2
    unfold maxLen at w4
    exact ⟨⟨k0, k1.toNat, k2, k3, k4⟩, by simp [ItemV.cells]; omega, by simp; omega, b2.1, b2.2, by simpa using w4⟩
theorem elem_u64 {H : Type} {enc : TypeId × Value → H} {w : World} {spare : Nat → Bool} {held : Bool} {fuel : Nat} {cs : List Value} {x : DataW H × List MemPlace}
    (h : DataW.trod enc Try.prog w 0 spare held fuel 29 cs = some x) : ∃ a : Nat, cs = [U64 a] ∧ a < 256 ^ 8 := by
  obtain ⟨n, rfl, _, hw⟩ := DataW.trod_int Try.underlying29 h
  have b := wf_u64 hw
  exact ⟨n.toNat, by simp [U64]; omega, by omega⟩
theorem elem_i64 {H : Type} {enc : TypeId × Value → H} {w : World} {spare : Nat → Bool} {held : Bool} {fuel : Nat} {cs : List Value} {x : DataW H × List MemPlace}
    (h : DataW.trod enc Try.prog w 0 spare held fuel 2 cs = some x) : ∃ a : Int, cs = [I64 a] ∧ (-9223372036854775808 ≤ a ∧ a ≤ 9223372036854775807) := by
  obtain ⟨n, rfl, _, hw⟩ := DataW.trod_int Try.underlying2 h
  exact ⟨n, rfl, wf_i64 hw⟩

def lightB (xs : List ItemV) : Bool := decide (xs.length ≤ 200) && xs.all fun x => decide (x.text.size ≤ 1000)
theorem light_ok {xs : List ItemV} (h : lightB xs = true) (hw : ∀ x ∈ xs, x.wf) : xs.length ≤ 200 ∧ ∀ x ∈ xs, x.ok := by
  simp [lightB] at h
  exact ⟨h.1, fun x hx => ⟨(hw x hx).1, (hw x hx).2.1, (hw x hx).2.2.1, h.2 x hx⟩⟩

theorem light_any (A : Option Addr) (n c : Nat) (xs : List ItemV) (w : World) (he : xs.length = n) (hw : ∀ x ∈ xs, x.wf) (hz : ∀ a ∈ xs, a.cells.length = 5) (hn : n ≤ 9223372036854775807) (s : RdZ w (fun k => k < w.heap.size) 5 A n (xs.flatMap ItemV.cells)) :
    Calls Try.prog 44 #[.slice A n c] w fun e w' => e = .returned (.bool (lightB xs)) ∧ Touch (fun _ => False) w w' := by
  by_cases hbig : 200 < n
  · have hb : lightB xs = false := by simp [lightB]; intro h; omega
    rw [hb]
    clear hb hw hz s
    go_enter Try.func44, Try.ntmps44
    go_wp2
    go_ret
    exact ⟨rfl, Touch.refl _ _⟩
  have HS := Lib.hid s
  have HZ := Lib.hid hz
  have HW := Lib.hid hw
  have HE := Lib.hid he
  clear s hz hw he
  go_enter Try.func44, Try.ntmps44
  go_wp2_with fail
  go_loopw [10] (fun i wr => ∃ j : Nat, j ≤ n ∧ i = .int .i64 j ∧ ((xs.take j).all fun x => decide (x.text.size ≤ 1000)) = true ∧ Touch (fun _ => False) w wr) (fun i _ => n - (intOf i).toNat)
  case atStart => exact ⟨0, by omega, rfl, by simp, Touch.refl _ _⟩
  case round =>
    obtain ⟨j, hj, rfl, hall, hT⟩ := hrel
    have HT := Lib.hid hT
    have HA := Lib.hid hall
    by_cases hjk : j < n
    · have ha : xs[j]? = some (xs[j]'(by rw [HE.out]; exact hjk)) := List.getElem?_eq_getElem _
      have hmem := List.mem_of_getElem? ha
      obtain ⟨a, off, rfl, _, _, hc⟩ := (HS.out.touch hT (fun _ _ e => e)).at_ HZ.out HE.out ha
      have hak := HW.out _ hmem
      have HTk := Lib.hid (show xs.take (j + 1) = xs.take j ++ [xs[j]'(by rw [HE.out]; exact hjk)] from List.take_succ_eq_append_getElem _)
      have HM := Lib.hid hmem
      clear hmem
      generalize xs[j]'(by rw [HE.out]; exact hjk) = x at *
      have q0 := hc 0 _ rfl
      have q1 := hc 1 _ rfl
      have q2 := hc 2 _ rfl
      have q3 := hc 3 _ rfl
      have q4 := hc 4 _ rfl
      simp only [Nat.add_zero, ← Nat.add_assoc] at q0 q1 q2 q3 q4
      have ht4 := hak.2.2.2
      clear hc ha hT hall hak
      obtain ⟨K, num, int, flag, text⟩ := x
      simp only at q0 q1 q2 q3 q4 ht4
      by_cases hbt : 1000 < text.size
      · have hb : lightB xs = false := by
          cases hl : lightB xs
          · rfl
          · simp [lightB] at hl
            have := hl.2 _ HM.out
            simp at this
            omega
        have HB := Lib.hid hb
        clear hb
        go_wp2
        go_ret
        exact ⟨ret_bool HB.out.symm, HT.out.alloc _⟩
      · have hbt' : text.size ≤ 1000 := by omega
        go_wp2
        go_roundw
        case rel => exact ⟨j + 1, by omega, by go_num, by rw [HTk.out, List.all_append, HA.out]; simpa using hbt', HT.out.alloc _⟩
        case measure => simp [intOf]; omega
    · obtain rfl : j = n := by omega
      have hb : lightB xs = true := by
        rw [← HE.out, List.take_length] at hall
        simp only [lightB, hall, Bool.and_true, decide_eq_true_eq]
        have := HE.out; omega
      have HB := Lib.hid hb
      clear hb hT hall
      go_wp2
      go_ret
      exact ⟨ret_bool HB.out.symm, HT.out⟩

/-- The writer at g (row r) and a row of its own (row q) with the same bytes l. -/
def Pair (w : World) (g : Nat) (l : List UInt8) (v : Value) : Prop :=
  ∃ r q, WAt w g r l ∧ Own w 5 1 v q l.length (l.map B8) ∧ q ≠ some g ∧ (∀ k, q = some k → r ≠ some k) ∧ (∀ k, r = some k → g ≤ k) ∧ (∀ k, q = some k → g ≤ k)

theorem Pair.step {w0 w1 w2 : World} {g : Nat} {l xs : List UInt8} {q q2 r r1 : Option Nat} {v2 : Value} (hw1 : WAt w1 g r1 (l ++ xs)) (hq : q ≠ some g) (hqr : ∀ k, q = some k → r ≠ some k)
    (t1 : Touch (fun k => k = g ∨ r = some k) w0 w1) (hf1 : r1 = r ∨ ∃ k, r1 = some k ∧ w0.heap.size ≤ k) (hql : ∀ k, q = some k → k < w0.heap.size) (hrg : ∀ k, r = some k → g ≤ k) (hqg : ∀ k, q = some k → g ≤ k) (hg0 : g < w0.heap.size)
    (ho2 : Own w2 5 1 v2 q2 (l ++ xs).length ((l ++ xs).map B8)) (t2 : Touch (fun k => q = some k) w1 w2) (hf2 : q2 = q ∨ ∃ k, q2 = some k ∧ w1.heap.size ≤ k) : Pair w2 g (l ++ xs) v2 := by
  have hgl := hw1.lt
  have hrl := hw1.rlt
  have hqr1 : ∀ k, q = some k → r1 ≠ some k := fun k hk e => by
    rcases hf1 with e' | ⟨k', e', hk'⟩
    · exact hqr k hk (by rw [← e']; exact e)
    · rw [e'] at e; injection e with e; have := hql k hk; omega
  have hs01 := t1.size
  refine ⟨r1, q2, hw1.touch t2 (fun e => hq e) (fun k hk e => hqr1 k e hk), ho2, ?_, fun k hk e => ?_, fun k hk => ?_, fun k hk => ?_⟩
  · rcases hf2 with e | ⟨k, e, hk⟩
    · rw [e]; exact hq
    · rw [e]; intro e'; injection e' with e'; omega
  · rcases hf2 with e' | ⟨k', e', hk'⟩
    · exact hqr1 k (by rw [← e']; exact hk) e
    · rw [e'] at hk; injection hk with hk; have := hrl k e; omega
  · rcases hf1 with e' | ⟨k', e', hk'⟩
    · exact hrg k (by rw [← e']; exact hk)
    · rw [e'] at hk; injection hk with hk; omega
  · rcases hf2 with e' | ⟨k', e', hk'⟩
    · exact hqg k (by rw [← e']; exact hk)
    · rw [e'] at hk; injection hk with hk; omega

theorem Own.ne_blk {w : World} {e t : TypeId} {sz n g : Nat} {v : Value} {r : Option Nat} {xs : List Value} {cs : Array Value} (h : Own w e sz v r n xs) (hb : Blk w g t cs) (ht : t ≠ e) : r ≠ some g := by
  rcases h.2 with ⟨_, _, hr⟩ | ⟨g', cap, cur, hr, hv, hb', _⟩
  · rw [hr]; simp
  · rw [hr]; intro e'; injection e' with e'; exact hb.ne_ hb' ht e'.symm
theorem WAt.ne_blk {w : World} {g g' : Nat} {r : Option Nat} {l : List UInt8} {t : TypeId} {cs : Array Value} (h : WAt w g r l) (hb : Blk w g' t cs) (ht : t ≠ 5) : r ≠ some g' := by
  obtain ⟨_, v, _, ho⟩ := h; exact ho.ne_blk hb ht
theorem encItems_take (xs : List ItemV) (j : Nat) (hj : j < xs.length) : (xs.take (j + 1)).flatMap encItem = (xs.take j).flatMap encItem ++ encItem xs[j] := by
  rw [List.take_succ_eq_append_getElem hj, List.flatMap_append]; simp

theorem encItems_len (xs : List ItemV) (h : ∀ x ∈ xs, x.ok) : (xs.flatMap encItem).length ≤ 1009 * xs.length := by
  induction xs with
  | nil => simp
  | cons x xs ih =>
    have h1 := encItem_len x (h x (by simp))
    have h2 := ih (fun y hy => h y (by simp [hy]))
    rw [List.flatMap_cons, List.length_append, List.length_cons]; omega

theorem writes_lives (A0 A1 A2 : Option Addr) (n0 c0 n1 c1 n2 c2 : Nat) (xs : List ItemV) (w : World) (hL : Calls Try.prog 44 #[.slice A0 n0 c0] w fun e w' => e = .returned (.bool (lightB xs)) ∧ Touch (fun _ => False) w w')
    (h : lightB xs = false ∨ 100 < n1 ∨ 100 < n2) :
    Calls Try.prog 9 #[.slice A0 n0 c0, .slice A1 n1 c1, .slice A2 n2 c2] w fun e w' => e = .returned (.bool true) ∧ Below w.heap.size w w' := by
  have HL := Lib.hid hL
  have HV := Lib.hid lives01_any
  clear hL
  by_cases h1 : lightB xs = false
  · rw [h1] at HL
    clear h h1
    go_enter Try.func9, Try.ntmps9
    go_wp2_with (first
      | (go_at_call 44; go_must (refine HL.out.mono ?_); rintro e w1 ⟨rfl, t1⟩; have HT := Lib.hid t1; clear t1)
      | (go_at_call 35; go_must (refine (HV.out _).mono ?_); rintro e w2 ⟨rfl, t2⟩; have HT2 := Lib.hid t2; clear t2))
    go_ret
    exact ⟨rfl, (HT.out.trans HT2.out (fun _ _ e => e)).below⟩
  have h1' : lightB xs = true := by simpa using h1
  rw [h1'] at HL
  have h2 := h.resolve_left h1
  clear h h1 h1'
  by_cases h3 : 100 < n1
  · clear h2
    go_enter Try.func9, Try.ntmps9
    go_wp2_with (first
      | (go_at_call 44; go_must (refine HL.out.mono ?_); rintro e w1 ⟨rfl, t1⟩; have HT := Lib.hid t1; clear t1)
      | (go_at_call 35; go_must (refine (HV.out _).mono ?_); rintro e w2 ⟨rfl, t2⟩; have HT2 := Lib.hid t2; clear t2))
    go_ret
    exact ⟨rfl, (HT.out.trans HT2.out (fun _ _ e => e)).below⟩
  · have h4 : 100 < n2 := h2.resolve_left h3
    clear h2
    go_enter Try.func9, Try.ntmps9
    go_wp2_with (first
      | (go_at_call 44; go_must (refine HL.out.mono ?_); rintro e w1 ⟨rfl, t1⟩; have HT := Lib.hid t1; clear t1)
      | (go_at_call 35; go_must (refine (HV.out _).mono ?_); rintro e w2 ⟨rfl, t2⟩; have HT2 := Lib.hid t2; clear t2))
    go_ret
    exact ⟨rfl, (HT.out.trans HT2.out (fun _ _ e => e)).below⟩

theorem walk_QuillWrites {w : World} (A0 : Option Addr) (n0 c0 : Nat) (xs : List ItemV) (e0 : xs.length = n0) (o0 : ∀ a ∈ xs, a.wf) (z0 : ∀ a ∈ xs, a.cells.length = 5) (g0 : A0 = none → c0 = 0) (u0 : n0 ≤ c0) (m0 : c0 ≤ maxLen) (s0 : RdZ w (fun k => k < w.heap.size) 5 A0 n0 (xs.flatMap ItemV.cells))
    (A1 : Option Addr) (n1 c1 : Nat) (ns : List Nat) (e1 : ns.length = n1) (o1 : ∀ a ∈ ns, a < 256 ^ 8) (z1 : ∀ a ∈ ns, [U64 a].length = 1) (g1 : A1 = none → c1 = 0) (u1 : n1 ≤ c1) (m1 : c1 ≤ maxLen) (s1 : RdZ w (fun k => k < w.heap.size) 1 A1 n1 (ns.flatMap fun a => [U64 a]))
    (A2 : Option Addr) (n2 c2 : Nat) (js : List Int) (e2 : js.length = n2) (o2 : ∀ a ∈ js, -9223372036854775808 ≤ a ∧ a ≤ 9223372036854775807) (z2 : ∀ a ∈ js, [I64 a].length = 1) (g2 : A2 = none → c2 = 0) (u2 : n2 ≤ c2) (m2 : c2 ≤ maxLen) (s2 : RdZ w (fun k => k < w.heap.size) 1 A2 n2 (js.flatMap fun a => [I64 a])) :
    Calls Try.prog 9 #[.slice A0 n0 c0, .slice A1 n1 c1, .slice A2 n2 c2] w fun e w' => e = .returned (.bool true) ∧ Below w.heap.size w w' := by
  unfold maxLen at m0
  have hL := light_any A0 n0 c0 xs w e0 o0 z0 (by omega) s0
  by_cases hcase : lightB xs = false ∨ 100 < n1 ∨ 100 < n2
  · exact writes_lives A0 A1 A2 n0 c0 n1 c1 n2 c2 xs w hL hcase
  have hlt : lightB xs = true := by
    cases h : lightB xs
    · exact absurd (.inl h) hcase
    · rfl
  rw [hlt] at hL
  obtain ⟨hx1, hx2⟩ := light_ok hlt o0
  have hb1 : n1 ≤ 100 := by omega
  have hb2 : n2 ≤ 100 := by omega
  rw [flat_map1] at s1 s2
  subst e1 e2
  have HL := Lib.hid hL
  have HV := Lib.hid lives01_any
  have HS0 := Lib.hid s0
  have HS1 := Lib.hid s1.rd
  have HS2 := Lib.hid s2.rd
  have HX2 := Lib.hid hx2
  have HZ0 := Lib.hid z0
  have HO1 := Lib.hid o1
  have HO2 := Lib.hid o2
  have HE0 := Lib.hid e0
  have hn0 : n0 ≤ 200 := by omega
  obtain ⟨i0, hi, hz0, hz1, hz2⟩ := info_parts info8
  clear hL hcase hlt s0 s1 s2 hx2 z0 o0 o1 o2 e0 z1 z2 g0 g1 g2 m0 m1 m2 u0 u1 u2 hx1
  go_enter Try.func9, Try.ntmps9
  go_wp2_with (first
    | (go_at_call 44; go_must (refine HL.out.mono ?_); rintro e w1 ⟨rfl, t1⟩; have HT := Lib.hid t1; have hs1 := t1.size; clear t1))
  obtain ⟨B, hB⟩ : ∃ B, w1.heap.size = B := ⟨_, rfl⟩
  have HP0 : Pair ((w1.alloc (.cells #[.slice none 0 0] 83)).alloc (.cells #[.slice none 0 0] 83)) w1.heap.size [] (.slice none 0 0) :=
    ⟨none, none, ⟨by simp, _, (Blk.new w1 83 #[.slice none 0 0]).alloc _, Own.nil _ _ _⟩, Own.nil _ _ _, by simp, by simp, by simp, by simp⟩
  have HB0 : Blk ((w1.alloc (.cells #[.slice none 0 0] 83)).alloc (.cells #[.slice none 0 0] 83)) (w1.heap.size + 1) 83 #[.slice none 0 0] := by
    have := Blk.new (w1.alloc (.cells #[.slice none 0 0] 83)) 83 #[.slice none 0 0]
    simpa using this
  have HT0 := Lib.hid (((Touch.refl (fun _ => False) w1).alloc (.cells #[.slice none 0 0] 83)).alloc (.cells #[.slice none 0 0] 83))
  have HPB := Lib.hid (And.intro HP0 HB0)
  have HB := Lib.hid hB
  clear HP0 HB0 hB
  go_loopw [9, 33] (fun v i wr => ∃ j : Nat, j ≤ n0 ∧ i = .int .i64 j ∧ Pair wr w1.heap.size ((xs.take j).flatMap encItem) v ∧ Blk wr (w1.heap.size + 1) 83 #[.slice none 0 0] ∧ Touch (fun _ => False) w1 wr) (fun _ i _ => n0 - (intOf i).toNat)
  case atStart => exact ⟨0, by omega, rfl, by simpa using HPB.out.1, HPB.out.2, HT0.out⟩
  case round =>
    obtain ⟨j, hj, rfl, hP, hB1, hT⟩ := hrel
    have HP := Lib.hid hP
    have HTr := Lib.hid hT
    have HBr := Lib.hid hB1
    clear hT hB1
    by_cases hjk : j < n0
    · obtain ⟨r, q, hw, ho, hq, hqr, hrg, hqg⟩ := hP
      have ha : xs[j]? = some (xs[j]'(by rw [HE0.out]; exact hjk)) := List.getElem?_eq_getElem _
      have hmem := List.mem_of_getElem? ha
      obtain ⟨a, off, rfl, _, _, hc⟩ := (HS0.out.touch (HT.out.trans HTr.out (fun _ _ e => e)) (fun _ _ e => e)).at_ HZ0.out HE0.out ha
      have hok := HX2.out _ hmem
      have HTk := Lib.hid (encItems_take xs j (by rw [HE0.out]; exact hjk))
      have hlen : ((xs.take j).flatMap encItem).length ≤ 1009 * 200 := by
        have h1 := encItems_len (xs.take j) (fun x hx => HX2.out x (List.mem_of_mem_take hx))
        have h2 : (xs.take j).length ≤ 200 := by rw [List.length_take]; omega
        omega
      clear hmem
      generalize xs[j]'(by rw [HE0.out]; exact hjk) = x at *
      have q0 := hc 0 _ rfl
      have q1 := hc 1 _ rfl
      have q2 := hc 2 _ rfl
      have q3 := hc 3 _ rfl
      have q4 := hc 4 _ rfl
      simp only [Nat.add_zero, ← Nat.add_assoc] at q0 q1 q2 q3 q4
      obtain ⟨A3, c3, rfl, -, -⟩ := ho.form
      have HW := Lib.hid hw
      have HO := Lib.hid ho
      have HQ := Lib.hid (And.intro hq hqr)
      have HG := Lib.hid (And.intro hrg hqg)
      have HOK := Lib.hid hok
      have hei := encItem_len x hok
      have HTi := Lib.hid ((Touch.refl (fun _ => False) wr).alloc (.cells #[.int .i64 x.kind, .int .u64 x.num, .int .i64 x.int, .bool x.flag, .string x.text] 92))
      clear hc ha hw ho hq hqr hok hrg hqg
      generalize (xs.take j).flatMap encItem = l at *
      go_wp2_with (first
        | (go_at_call 45
           go_must (refine (write_any w1.heap.size r l x _ (by exact HW.out.touch HTi.out (fun e => e) (fun _ _ e => e)) HOK.out (by omega)).mono ?_)
           rintro e w2 ⟨A4, c4, r4, rfl, hA4, hc41, hc42, hrd4, hw4, ht4, hf4⟩
           have HR4 := Lib.hid (And.intro hrd4 (And.intro hw4 (And.intro ht4 hf4)))
           have HA4 := Lib.hid hA4
           have HO4 := Lib.hid ((HO.out.touch HTi.out (fun _ _ e => e)).touch ht4 (fun k hk e => by rcases e with e | e; exact HQ.out.1 (by rw [hk, e]); exact HQ.out.2 k hk e))
           clear hrd4 hw4 ht4 hf4 hA4)
        | (at_builtin
           go_must (refine wpList_own_append rfl _ _ 43 43 rfl 5 i0 (.int .u8 0) 1 1 Try.underlying43 hi hz0 hz1 hz2 rfl _ q _ _ rfl (by exact HO4.out) _ _ _ rfl (by exact HR4.out.1.src HA4.out) (by simp only [maxLen]; omega) (by omega) ?_)
           intro v5 q5 w5 ho5 ht5 hf5
           have HR5 := Lib.hid (And.intro ho5 (And.intro ht5 hf5))
           clear ho5 ht5 hf5))
      go_roundw
      case rel =>
        obtain ⟨hrd4, hw4, ht4, hf4⟩ := HR4.out
        obtain ⟨ho5, ht5, hf5⟩ := HR5.out
        have hql : ∀ k, q = some k → k < wr.heap.size := HO.out.lt
        have hx : l.map B8 ++ (encItem x).map B8 = (l ++ encItem x).map B8 := by simp
        have hl : l.length + (encItem x).length = (l ++ encItem x).length := by simp
        rw [hx, hl] at ho5
        have hnr := HW.out.ne_blk HBr.out (by decide)
        have hnq := HO.out.ne_blk HBr.out (by decide)
        have hwl := HW.out.lt
        refine ⟨j + 1, by omega, by go_num, ?_, ?_, ?_⟩
        · rw [HTk.out]
          exact Pair.step (w0 := wr.alloc (.cells #[.int .i64 x.kind, .int .u64 x.num, .int .i64 x.int, .bool x.flag, .string x.text] 92)) hw4 HQ.out.1 HQ.out.2 ht4 hf4 (fun k hk => by have := hql k hk; simp; omega) HG.out.1 HG.out.2 (by simp; omega) ho5 ht5 hf5
        · exact ht5.blk (ht4.blk (HTi.out.blk HBr.out (fun e => e)) (fun e => by rcases e with e | e; exact (by omega); exact hnr e)) (fun e => hnq e)
        · refine ((HTr.out.trans HTi.out (fun _ _ e => e)).trans ht4 (fun k hk e => ?_)).trans ht5 (fun k hk e => ?_)
          · rcases e with e | e
            · omega
            · have := HG.out.1 k e; omega
          · have := HG.out.2 k e; omega
      case measure => simp [intOf]; omega
    · obtain rfl : j = n0 := by omega
      obtain ⟨r, q, hw, ho, hq, hqr, hrg, hqg⟩ := HP.out
      have hall : xs.take j = xs := by rw [← HE0.out, List.take_length]
      have hlen : (xs.flatMap encItem).length ≤ 1009 * 200 := by
        have h1 := encItems_len xs (fun x hx => HX2.out x hx)
        have h2 := HE0.out
        omega
      rw [hall] at hw ho
      clear hP HP hall
      generalize xs.flatMap encItem = l at *
      obtain ⟨A3, c3, rfl, -, -, hA3, hrd3⟩ := ho.rd
      have HRD := Lib.hid hrd3
      have HW := Lib.hid hw
      clear ho hrd3 hA3 hw hqr hq hrg hqg
      go_wp2_with fail
      refine wp_region_plan [(1, 2), (1, 3), (2, 0), (0, 1), (0, 4), (0, 5), (0, 6), (0, 7), (0, 8), (0, 9), (0, 10)] (fun _ => False) (by kernel_rfl) (by kernel_rfl) (fun c a d v w h => by cases d <;> exact h) ?_
      iterate 2
        first
          | (apply plan_h
             · rfl
             · rfl
             · intro wh hT
               have hf0 := Rd.str (Rd.touch (by exact HRD.out) hT (fun _ _ e => e)) c3
               go_simp
               try rfl
             go_frame)
          | (refine plan_hn rfl (by rfl) ?_; go_frame)
      refine plan_a1 rfl (by rfl) (fun Kc hKc => ?_)
      go_simp
      refine (wbytes_any w1.heap.size r l _ (by exact HW.out) (by omega)).mono ?_
      rintro e w4 ⟨A4, c4, rfl, _, _, hr4, t4⟩
      refine hKc _ _ ⟨t4, ?_⟩
      clear hKc Kc
      have hs4 := Rd.str (n := l.length) (by simpa using hr4) c4
      have HW4 := Lib.hid (WAt.touch (by exact HW.out) t4 (fun e => e) (fun _ _ e => e))
      have HT4 := Lib.hid ((HT.out.trans HTr.out (fun _ _ e => e)).drew.trans t4 (fun _ _ e => e))
      have HM0 := Lib.hid (show WAt w4 (w1.heap.size + 1) none [] from ⟨by simp, _, t4.blk (by exact HBr.out) (fun e => e), Own.nil _ _ _⟩)
      have hs4s := HT4.out.size
      clear hr4 t4
      iterate 8
        first
          | (refine plan_s1 rfl (by rfl) (fun Kc hKc => ?_)
             go_simp
             first
               | (refine hKc _ ?_)
               | (refine ⟨_, calls_flip (wlen_any w1.heap.size r l _ (by exact HW4.out)), hKc _ ?_⟩)
             clear hKc Kc)
          | (refine plan_s0 rfl (by rfl) ?_; go_frame)
      refine plan_done ?_
      go_wp2_with (first
        | (go_at_call 39
           go_must (refine (wnum_any (w1.heap.size + 1) none [] (fun k => k < w.heap.size) _ _ ns _ (by exact HM0.out) (by exact HS1.out.touch HT4.out (fun _ _ e => e)) (fun k hk => ⟨by omega, by simp⟩) HO1.out (by simp; omega)).mono ?_)
           rintro e w5 ⟨rfl, r5, hw5, t5, hf5⟩
           have HW5 := Lib.hid hw5
           have HF5 := Lib.hid hf5
           have HT5 := Lib.hid (HT4.out.trans t5 (fun k hk e => by rcases e with e | e; exact absurd e (by omega); cases e))
           have hs5 := t5.size
           clear hw5 t5 hf5)
        | (go_at_call 40
           go_must (refine (wint_any (w1.heap.size + 1) r5 _ (fun k => k < w.heap.size) _ _ js _ (by exact HW5.out) (by exact HS2.out.touch HT5.out (fun _ _ e => e)) (fun k hk => ⟨by omega, fun e => by rcases HF5.out with e' | ⟨q', e', hq'⟩; (rw [e'] at e; cases e); (rw [e'] at e; injection e with e; omega)⟩) HO2.out (by have := encs_len ns; simp; omega)).mono ?_)
           rintro e w6 ⟨rfl, r6, hw6, t6, hf6⟩
           have HW6 := Lib.hid hw6
           have HT6 := Lib.hid (HT5.out.trans t6 (fun k hk e => by
             rcases e with e | e
             · omega
             · rcases HF5.out with e' | ⟨q', e', hq'⟩
               · rw [e'] at e; cases e
               · rw [e'] at e; injection e with e; omega))
           have hs6 := t6.size
           clear hw6 t6 hf6))
      go_loopw [12, 59] (fun v i wx => ∃ j : Nat, j ≤ ns.length ∧ i = .int .i64 j ∧ (∃ q, Own wx 5 1 v q (encs (ns.take j)).length ((encs (ns.take j)).map B8) ∧ ∀ k, q = some k → w6.heap.size ≤ k) ∧ Touch (fun _ => False) w6 wx) (fun _ i _ => ns.length - (intOf i).toNat)
      case atStart => exact ⟨0, by omega, rfl, ⟨none, by simpa [encs] using Own.nil w6 5 1, by simp⟩, Touch.refl _ _⟩
      case round =>
        obtain ⟨ja, hja, rfl, ⟨qa, hoa, hqa⟩, hTa⟩ := hrel
        have HTxa := Lib.hid hTa
        have HOa := Lib.hid hoa
        have HQa := Lib.hid hqa
        obtain ⟨Aea, cea, rfl, -, -⟩ := hoa.form
        by_cases hjka : ja < ns.length
        · have hrj := (HS1.out.touch (HT6.out.trans hTa (fun _ _ e => e)) (fun _ _ e => e))
          obtain ⟨ax, offx, rfl, _, _, hcx⟩ := hrj.2 (by omega)
          have hcj := hcx ja (U64 (ns.getD ja 0)) (by simp [List.getD, List.getElem?_eq_getElem hjka])
          simp only [U64] at hcj
          have hmem : ns.getD ja 0 ∈ ns := by simp [List.getD, List.getElem?_eq_getElem hjka]
          have hnj := HO1.out _ hmem
          have HE := Lib.hid (encs_take ns ja hjka)
          have hel := encs_len (ns.take ja)
          have hel2 : (ns.take ja).length ≤ ja := by simp; omega
          clear hcx hrj hoa hqa hTa hmem
          generalize ns.getD ja 0 = x at *
          generalize encs (ns.take ja) = lx at *
          have hex := encN_len 0 x
          have HXj := Lib.hid hnj
          go_wp2_with (first
            | (go_at_call 47
               go_must (refine (fnum_any x _ HXj.out).mono ?_)
               rintro e w7 ⟨v7, k7, rfl, ho7, hk7, ht7⟩
               obtain ⟨A7, c7, rfl, -, -⟩ := ho7.form
               have HO7 := Lib.hid ho7
               have HT7 := Lib.hid ht7
               have hs7 := ht7.size
               clear ho7 ht7)
            | (at_builtin
               go_must (refine wpList_own_append rfl _ _ 43 43 rfl 5 i0 (.int .u8 0) 1 1 Try.underlying43 hi hz0 hz1 hz2 rfl _ qa _ _ rfl (by exact HOa.out.touch HT7.out (fun _ _ e => e)) _ _ _ rfl (by exact HO7.out.src) (by simp only [maxLen]; simp; omega) (by simp; omega) ?_)
               intro v8 q8 w8 ho8 ht8 hf8
               have HR8 := Lib.hid (And.intro ho8 (And.intro ht8 hf8))
               clear ho8 ht8 hf8))
          go_roundw
          case rel =>
            obtain ⟨ho8, ht8, hf8⟩ := HR8.out
            have hs := HTxa.out.size
            refine ⟨ja + 1, by omega, by go_num, ⟨q8, ?_, fun k hk => ?_⟩, (HTxa.out.trans HT7.out (fun _ _ e => e)).trans ht8 (fun k hk e => ?_)⟩
            · rw [HE.out]
              simpa [Nat.add_assoc] using ho8
            · rcases hf8 with e | ⟨q', e, hq'⟩
              · exact HQa.out k (by rw [← e]; exact hk)
              · rw [e] at hk; injection hk with hk; omega
            · have := HQa.out k e; omega
          case measure => simp [intOf]; omega
        · obtain rfl : ja = ns.length := by omega
          rw [List.take_length] at hoa
          have HOa1 := Lib.hid hoa
          clear hoa hqa hTa HOa
          go_wp2_with fail
          go_loopw [12, 70] (fun v i wx => ∃ j : Nat, j ≤ js.length ∧ i = .int .i64 j ∧ (∃ q m, Own wx 5 1 v q m ((encs ns ++ encIs (js.take j)).map B8) ∧ ∀ k, q = some k → w6.heap.size ≤ k) ∧ Touch (fun _ => False) w6 wx) (fun _ i _ => js.length - (intOf i).toNat)
          case atStart => exact ⟨0, by omega, rfl, ⟨qa, _, by simpa [encIs] using HOa1.out, HQa.out⟩, HTxa.out⟩
          case round =>
            obtain ⟨jb, hjb, rfl, ⟨qb, mb, hob, hqb⟩, hTb⟩ := hrel
            have HTxb := Lib.hid hTb
            have HOb := Lib.hid hob
            have HQb := Lib.hid hqb
            obtain ⟨Aeb, ceb, rfl, -, -⟩ := hob.form
            by_cases hjkb : jb < js.length
            · have hrj := (HS2.out.touch (HT6.out.trans hTb (fun _ _ e => e)) (fun _ _ e => e))
              obtain ⟨ax, offx, rfl, _, _, hcx⟩ := hrj.2 (by omega)
              have hcj := hcx jb (I64 (js.getD jb 0)) (by simp [List.getD, List.getElem?_eq_getElem hjkb])
              simp only [I64] at hcj
              have hmem : js.getD jb 0 ∈ js := by simp [List.getD, List.getElem?_eq_getElem hjkb]
              have hnj := HO2.out _ hmem
              have HE := Lib.hid (encIs_take js jb hjkb)
              have hel := encIs_len (js.take jb)
              have hel2 : (js.take jb).length ≤ jb := by simp; omega
              have hmb : mb ≤ 9 * ns.length + 9 * js.length := by
                have h1 := hob.1
                simp at h1
                have h2 := encs_len ns
                omega
              clear hcx hrj hob hqb hTb hmem
              generalize js.getD jb 0 = x at *
              generalize encIs (js.take jb) = lx at *
              have hex := encI_len x
              have HXj := Lib.hid hnj
              go_wp2_with (first
                | (go_at_call 48
                   go_must (refine (fint_any x _ HXj.out.1 HXj.out.2).mono ?_)
                   rintro e w7 ⟨v7, k7, rfl, ho7, hk7, ht7⟩
                   obtain ⟨A7, c7, rfl, -, -⟩ := ho7.form
                   have HO7 := Lib.hid ho7
                   have HT7 := Lib.hid ht7
                   have hs7 := ht7.size
                   clear ho7 ht7)
                | (at_builtin
                   go_must (refine wpList_own_append rfl _ _ 43 43 rfl 5 i0 (.int .u8 0) 1 1 Try.underlying43 hi hz0 hz1 hz2 rfl _ qb _ _ rfl (by exact HOb.out.touch HT7.out (fun _ _ e => e)) _ _ _ rfl (by exact HO7.out.src) (by simp only [maxLen]; simp; omega) (by simp; omega) ?_)
                   intro v8 q8 w8 ho8 ht8 hf8
                   have HR8 := Lib.hid (And.intro ho8 (And.intro ht8 hf8))
                   clear ho8 ht8 hf8))
              go_roundw
              case rel =>
                obtain ⟨ho8, ht8, hf8⟩ := HR8.out
                have hs := HTxb.out.size
                refine ⟨jb + 1, by omega, by go_num, ⟨q8, mb + (encI x).length, ?_, fun k hk => ?_⟩, (HTxb.out.trans HT7.out (fun _ _ e => e)).trans ht8 (fun k hk e => ?_)⟩
                · rw [HE.out]
                  simpa [Nat.add_assoc] using ho8
                · rcases hf8 with e | ⟨q', e, hq'⟩
                  · exact HQb.out k (by rw [← e]; exact hk)
                  · rw [e] at hk; injection hk with hk; omega
                · have := HQb.out k e; omega
              case measure => simp [intOf]; omega
            · obtain rfl : jb = js.length := by omega
              rw [List.take_length] at hob
              have hmb : mb = (encs ns ++ encIs js).length := by have := hob.1; simpa using this.symm
              obtain ⟨A9, c9, hv9, -, -, hA9, hrd9⟩ := hob.rd
              simp only [Value.slice.injEq] at hv9
              obtain ⟨rfl, -, rfl⟩ := hv9
              have HRD9 := Lib.hid hrd9
              have HW7 := Lib.hid (show WAt _ (w1.heap.size + 1) r6 (encs ns ++ encIs js) from by have := HW6.out.touch hTb (fun e => e) (fun _ _ e => e); simpa using this)
              have hel1 := encs_len ns
              have hel2 := encIs_len js
              have hll : (encs ns ++ encIs js).length ≤ 140737488355328 := by simp; omega
              subst hmb
              clear hob hqb hTb hrd9 hA9 HOb hel1 hel2 HW6 HOa1
              generalize encs ns ++ encIs js = lz at *
              go_wp2_with fail
              refine wp_region_plan [(1, 2), (1, 3), (2, 0), (0, 1), (0, 4), (0, 5), (2, 6), (0, 7), (0, 8)] (fun _ => False) (by kernel_rfl) (by kernel_rfl) (fun c a d v w h => by cases d <;> exact h) ?_
              iterate 2
                first
                  | (apply plan_h
                     · rfl
                     · rfl
                     · intro wh hT
                       have hf0 := Rd.str (Rd.touch (by exact HRD9.out) hT (fun _ _ e => e)) ceb
                       go_simp
                       try rfl
                     go_frame)
                  | (refine plan_hn rfl (by rfl) ?_; go_frame)
              refine plan_a1 rfl (by rfl) (fun Kc hKc => ?_)
              go_simp
              refine (wbytes_any (w1.heap.size + 1) r6 lz _ (by exact HW7.out) hll).mono ?_
              rintro e w9 ⟨A5, c5, rfl, _, _, hr9, t9⟩
              refine hKc _ _ ⟨t9, ?_⟩
              clear hKc Kc
              have hs9 := Rd.str (n := lz.length) (by simpa using hr9) c5
              have HT9 := Lib.hid t9
              clear hr9 t9
              iterate 3
                first
                  | (refine plan_s1 rfl (by rfl) (fun Kc hKc => ?_)
                     go_simp
                     first
                       | (refine hKc _ ?_)
                     clear hKc Kc)
                  | (refine plan_s0 rfl (by rfl) ?_; go_frame)
              refine plan_a1 rfl (by rfl) (fun Kc hKc => ?_)
              go_simp
              refine (HV.out _).mono ?_
              rintro e w10 ⟨rfl, t10⟩
              refine hKc _ _ ⟨t10, ?_⟩
              clear hKc Kc
              have HT10 := Lib.hid t10
              clear t10
              iterate 2
                first
                  | (refine plan_s1 rfl (by rfl) (fun Kc hKc => ?_)
                     go_simp
                     first
                       | (refine hKc _ ?_)
                     clear hKc Kc)
                  | (refine plan_s0 rfl (by rfl) ?_; go_frame)
              refine plan_done ?_
              go_wp2
              go_ret
              exact ⟨rfl, (((HT6.out.trans HTxb.out (fun _ _ e => e)).drew.trans HT9.out (fun _ _ e => e)).trans HT10.out (fun _ _ e => e)).below⟩
end Go.Proofs.Ytomapfklpoijbaa
