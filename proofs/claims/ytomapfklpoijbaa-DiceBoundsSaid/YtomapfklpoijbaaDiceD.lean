/- dice.Order. -/
import Derived.Test.YtomapfklpoijbaaDiceC
namespace Go.Proofs.Ytomapfklpoijbaa
open Go.RowKit
set_option maxHeartbeats 4000000
set_option maxRecDepth 100000
set_option linter.unusedVariables false

theorem infoI : (Try.prog.info? 3).map (fun i => (i.zero, i.size, i.bytes)) = some (some (.int .i64 0), 1, 8) := by kernel_rfl
/-- The numbers below n, each once. -/
def PermN (n : Nat) (ys : List Int) : Prop :=
  ys.length = n ∧ (∀ a, a < n → 0 ≤ ys.getD a 0 ∧ ys.getD a 0 < n) ∧ ∀ a b, a < n → b < n → a ≠ b → ys.getD a 0 ≠ ys.getD b 0
def upL (n : Nat) : List Int := (List.range n).map fun (i : Nat) => (i : Int)
theorem upL_len (n : Nat) : (upL n).length = n := by simp [upL]
theorem upL_succ (n : Nat) : upL (n + 1) = upL n ++ [(n : Int)] := by simp [upL, List.range_succ]
theorem upL_getD (n a : Nat) (h : a < n) : (upL n).getD a 0 = a := by simp [upL, List.getD, h]
theorem PermN.up (n : Nat) : PermN n (upL n) := by
  refine ⟨upL_len n, fun a ha => ?_, fun a b ha hb hab => ?_⟩
  · rw [upL_getD n a ha]; omega
  · rw [upL_getD n a ha, upL_getD n b hb]; omega
theorem swapL_len (ys : List Int) (i k : Nat) : (swapL ys i k).length = ys.length := by simp [swapL]
theorem swapL_getD (ys : List Int) (i k a : Nat) (ha : a < ys.length) : (swapL ys i k).getD a 0 = if k = a then ys.getD i 0 else if i = a then ys.getD k 0 else ys.getD a 0 := by
  unfold swapL
  generalize ys.getD i 0 = x
  generalize ys.getD k 0 = y
  simp only [List.getD, List.getElem?_set]
  by_cases h1 : k = a
  · subst h1; simp [ha]
  · by_cases h2 : i = a
    · subst h2; simp [h1, ha]
    · simp [h1, h2]
theorem PermN.swap {n : Nat} {ys : List Int} (h : PermN n ys) {i k : Nat} (hi : i < n) (hk : k < n) : PermN n (swapL ys i k) := by
  obtain ⟨hl, hb, hd⟩ := h
  refine ⟨by rw [swapL_len, hl], fun a ha => ?_, fun a b ha hbn hab => ?_⟩
  · rw [swapL_getD ys i k a (by omega)]
    split
    · exact hb i hi
    · split
      · exact hb k hk
      · exact hb a ha
  · rw [swapL_getD ys i k a (by omega), swapL_getD ys i k b (by omega)]
    by_cases h1 : k = a
    · rw [if_pos h1]
      by_cases h2 : k = b
      · omega
      · rw [if_neg h2]
        by_cases h3 : i = b
        · rw [if_pos h3]; exact hd i k hi hk (by omega)
        · rw [if_neg h3]; exact hd i b hi hbn h3
    · rw [if_neg h1]
      by_cases h4 : i = a
      · rw [if_pos h4]
        by_cases h2 : k = b
        · rw [if_pos h2]; exact hd k i hk hi (by omega)
        · rw [if_neg h2, if_neg (by omega)]; exact hd k b hk hbn h2
      · rw [if_neg h4]
        by_cases h2 : k = b
        · rw [if_pos h2]; exact hd a i ha hi (by omega)
        · rw [if_neg h2]
          by_cases h3 : i = b
          · rw [if_pos h3]; exact hd a k ha hk (by omega)
          · rw [if_neg h3]; exact hd a b ha hbn hab

/-- The named result's cell at block gl holds a row of the call's own, or none. -/
def LOwn (w : World) (gl : Nat) (ys : List Int) : Prop :=
  ∃ v r, Blk w gl 48 #[v] ∧ Own w 3 1 v r ys.length (ys.map I64) ∧ ∀ q, r = some q → gl < q
theorem LOwn.touch {w w' : World} {gl : Nat} {ys : List Int} (h : LOwn w gl ys) (ht : Touch (fun q => q < gl) w w') : LOwn w' gl ys := by
  obtain ⟨v, r, hb, ho, hq⟩ := h
  exact ⟨v, r, ht.blk hb (by omega), ho.touch ht (fun q e => by have := hq q e; omega), hq⟩
theorem LOwn.at_ {w : World} {gl : Nat} {ys : List Int} (h : LOwn w gl ys) (h0 : 0 < ys.length) : ∃ r, gl < r ∧ LAt w gl r ys := by
  obtain ⟨v, r, hb, ho, hq⟩ := h
  obtain ⟨g', cap, cur, hr, hv, hbb, hn, hc, hs, hx⟩ := ho.2.resolve_left (fun ⟨_, hn, _⟩ => by omega)
  subst hr hv
  have := hq g' rfl
  exact ⟨g', this, by omega, cap, hb, ho⟩
theorem LAt.own {w : World} {gl r : Nat} {ys : List Int} (h : LAt w gl r ys) (hl : gl < r) : LOwn w gl ys := by
  obtain ⟨_, cap, hb, ho⟩ := h
  exact ⟨_, _, hb, ho, fun q e => by injection e with e; omega⟩

theorem dorder_any (g : Nat) (l : List UInt8) (n : Nat) (w : World) (h : DAt w g l) (hn : n ≤ 1000) :
    Calls Try.prog 23 #[.pointer (some ⟨g, 0, none⟩), .int .i64 n] w fun e w' => ∃ A c ys, e = .returned (.slice A n c) ∧ PermN n ys ∧ Rd w' (fun k => w.heap.size ≤ k) A n (ys.map I64) ∧ Touch (fun k => k = g) w w' := by
  obtain ⟨i0, hi, hz0, hz1, hz2⟩ := info_parts infoI
  have hgl := h.lt
  have HD := Lib.hid h
  have hb0 : Blk (w.alloc (.cells #[.slice none 0 0] 48)) w.heap.size 48 #[.slice none 0 0] := Blk.new _ _ _
  have HB0 := Lib.hid hb0
  have HT0 := Lib.hid ((Touch.refl (fun _ => False) w).alloc (.cells #[.slice none 0 0] 48))
  clear h hb0
  go_enter Try.func23, Try.ntmps23
  go_wp2_with fail
  go_loopw [11] (fun i wr => ∃ k : Nat, k ≤ n ∧ i = .int .i64 k ∧ LOwn wr w.heap.size (upL k) ∧ Touch (fun _ => False) w wr) (fun i _ => n - (intOf i).toNat)
  case atStart => exact ⟨0, by omega, rfl, ⟨_, none, HB0.out, Own.nil _ _ _, fun q e => by cases e⟩, HT0.out⟩
  case round =>
    obtain ⟨k, hk, rfl, hL, hT⟩ := hrel
    have HT := Lib.hid hT
    obtain ⟨v, r, hb, ho, hq⟩ := hL
    obtain ⟨A0, c0, rfl, -, -⟩ := ho.form
    rw [upL_len] at ho hb
    have h0 := hb.cell 0
    simp at h0
    have HO := Lib.hid ho
    have HB := Lib.hid hb
    have HQ := Lib.hid hq
    clear hT ho hb hq
    by_cases hkn : k < n
    · have HU := Lib.hid (upL_succ k)
      have HTl := Lib.hid ((Touch.refl (fun _ => False) wr).alloc (.cells #[.int .i64 (k : Int)] 3))
      have HBl := Lib.hid (Blk.new wr 3 #[.int .i64 (k : Int)])
      have hbl0 := ((Touch.refl (fun _ => False) wr).alloc (.cells #[.int .i64 (k : Int)] 3)).size
      go_wp2_with (
        at_builtin
        go_must (refine wpList_own_append rfl _ _ 48 48 rfl 3 i0 (.int .i64 0) 1 8 Try.underlying48 hi hz0 hz1 hz2 rfl _ r k ((upL k).map I64) rfl (by exact HO.out.touch HTl.out (fun _ _ e => e)) _ 1 [.int .i64 (k : Int)] rfl (by exact Src.lit Try.underlying48 wr.heap.size 1 1 3 #[.int .i64 (k : Int)] HBl.out rfl (fun u hu => by simp at hu; subst hu; rfl)) (by simp only [maxLen]; omega) (by omega) ?_)
        intro v1 r1 w1 ho1 ht1 hr1
        obtain ⟨A1, c1, rfl, -, -⟩ := ho1.form
        have hb1 := ht1.blk (HB.out.alloc (.cells #[.int .i64 (k : Int)] 3)) (fun e => by have := HQ.out _ e; omega)
        have hc1 := hb1.cell 0
        have hf1 := hb1.frozen 0
        simp at hc1
        have HR1 := Lib.hid (And.intro ho1 (And.intro ht1 (And.intro hr1 hb1)))
        clear ho1 ht1 hr1 hb1)
      go_roundw
      case rel =>
        obtain ⟨ho1, ht1, hr1, hb1⟩ := HR1.out
        have hbl := HB.out.lt
        have hws := HT.out.size
        have tst := (Touch.refl (fun q => q = w.heap.size) w1).set (b := w.heap.size) (o := 0) (fun _ => rfl) (.slice A1 (k + 1) c1)
        have hq1 : ∀ q, r1 = some q → w.heap.size < q := by
          intro q e
          rcases hr1 with e' | ⟨q', e', hq'⟩
          · exact HQ.out q (e'.symm.trans e)
          · rw [e'] at e; injection e with e; simp at hq'; omega
        refine ⟨k + 1, by omega, by go_num, ⟨.slice A1 (k + 1) c1, r1, ?_, ?_, hq1⟩, ?_⟩
        · have := hb1.set_ 0 (.slice A1 (k + 1) c1)
          simpa using this
        · rw [upL_len, HU.out, List.map_append]
          exact ho1.touch tst (fun q e e2 => by have := hq1 q e; omega)
        · exact ((HT.out.trans HTl.out (fun _ _ e => e)).trans ht1 (fun q hq e => by have := HQ.out q e; omega)).trans tst (fun q hq e => by omega)
      case measure => simp [intOf]; omega
    · obtain rfl : k = n := by omega
      go_wp2
      have HL2 := Lib.hid (show LOwn wr w.heap.size (upL k) from ⟨.slice A0 k c0, r, HB.out, by rw [upL_len]; exact HO.out, HQ.out⟩)
      go_loopw [7] (fun i w3 => ∃ z : Int, z < k ∧ -1 ≤ z ∧ i = .int .i64 z ∧ (∃ ys, PermN k ys ∧ LOwn w3 w.heap.size ys) ∧ (∃ l', DAt w3 g l') ∧ Touch (fun q => q = g) w w3) (fun i _ => (intOf i + 1).toNat)
      case atStart => exact ⟨(k : Int) - 1, by omega, by omega, by go_num, ⟨upL k, PermN.up k, HL2.out⟩, ⟨l, HD.out.touch HT.out⟩, HT.out.mono (fun _ _ e => e.elim)⟩
      case round =>
        obtain ⟨z, hz1', hz2', rfl, hys, hd, hT3⟩ := hrel
        have HT3 := Lib.hid hT3
        obtain ⟨ys, hp, hlo⟩ := hys
        obtain ⟨l', hd⟩ := hd
        have HP := Lib.hid hp
        have HLo := Lib.hid hlo
        have HDl := Lib.hid hd
        have hyl := hp.1
        clear hT3 hp hlo hd
        by_cases hz : 0 < z
        · obtain ⟨m, rfl⟩ := Int.eq_ofNat_of_zero_le (show 0 ≤ z by omega)
          obtain ⟨r2, hr2, hla⟩ := HLo.out.at_ (by omega)
          have HLa := Lib.hid hla
          have hu : IntKind.u64.wrap (m : Int) = m := IntWalk.u64_in _ (by omega)
          have HBe := Lib.hid (dbelow_any g l' (m + 1) _ HDl.out (by omega))
          rw [show ((m + 1 : Nat) : Int) = (m : Int) + 1 by omega] at HBe
          have hbv := belowV_lt l' (m + 1) (by omega)
          generalize belowV l' (m + 1) = v at *
          clear hla
          go_wp2_with (first
            | (go_at_call 21; go_must (refine HBe.out.mono ?_); rintro e w4 ⟨rfl, hd4, t4⟩; have HD4 := Lib.hid hd4; have HT4 := Lib.hid t4; clear hd4 t4)
            | (go_at_call 64; go_must (refine (swap_any w.heap.size r2 m v ys _ (by exact HLa.out.touch HT4.out (by omega) (by omega)) (by omega) (by omega) (by omega)).mono ?_); rintro e w5 ⟨rfl, hl5, t5⟩; have HL5 := Lib.hid hl5; have HT5 := Lib.hid t5; clear hl5 t5))
          go_roundw
          case rel => exact ⟨(m : Int) - 1, by omega, by omega, by go_num, ⟨swapL ys m v, HP.out.swap (by omega) (by omega), HL5.out.own hr2⟩, ⟨_, HD4.out.touchS HT5.out (fun q hq e => by omega)⟩, (HT3.out.trans HT4.out (fun _ _ e => e)).trans HT5.out (fun q hq e => by omega)⟩
          case measure => simp [intOf]
        · obtain ⟨v, r2, hb2, ho2, hq2⟩ := HLo.out
          obtain ⟨A2, c2, rfl, -, -⟩ := ho2.form
          have hc2 := hb2.cell 0
          have hf2 := hb2.frozen 0
          simp at hc2
          have HR2 := Lib.hid (And.intro hb2 (And.intro ho2 hq2))
          clear hb2 ho2 hq2
          go_wp2
          obtain ⟨hb2, ho2, hq2⟩ := HR2.out
          rw [hyl] at hb2 ho2
          have hs2 := hb2.set_ 0 (.slice A2 k c2)
          have hcc := hs2.cell 0
          simp at hcc
          refine bodyPost_ret (v := .slice A2 k c2) (by simp [results, Try.results23, go_sem, hcc]) rfl ?_
          obtain ⟨A3, c3, hv3, p1, p2, -, hr3⟩ := ho2.rd
          injection hv3 with e1 e2 e3
          subst e1 e3
          have tst := (Touch.refl (fun q => q = w.heap.size) wr).set (b := w.heap.size) (o := 0) (fun _ => rfl) (.slice A2 k c2)
          exact ⟨A2, ⟨c2, rfl⟩, ys, HP.out, (hr3.touch tst (fun q hq e => by have := hq2 q hq; omega)).mono (fun q hq => by have := hq2 q hq; omega), HT3.out.trans tst (fun q hq e => by omega)⟩
end Go.Proofs.Ytomapfklpoijbaa
