/- What the calls of quill's Writer do. -/
import Derived.Test.YtlcefchbfjfifaaGreatVOwn
import Derived.Test.YtlcefchbfjfifaaGreatVQuillR2
import Derived.Deep.RegionHeld3
import Derived.Deep.RegionLaw
import Derived.Laws.ShiftsVarLaws
namespace Go.Proofs.YtlcefchbfjfifaaGreat
open Go.RowKit
set_option maxHeartbeats 2000000
set_option maxRecDepth 100000

/-- The writer's object at block g has the bytes l, in the row r. -/
def WAt (w : World) (g : Nat) (r : Option Nat) (l : List UInt8) : Prop :=
  r ≠ some g ∧ ∃ v, Blk w g 33 #[v] ∧ Own w 5 1 v r l.length (l.map B8)
theorem WAt.touch {w w' : World} {g : Nat} {r : Option Nat} {l : List UInt8} {S : Nat → Prop} (h : WAt w g r l) (ht : Touch S w w') (hg : ¬ S g) (hr : ∀ k, r = some k → ¬ S k) : WAt w' g r l := by
  obtain ⟨hne, v, hb, ho⟩ := h
  exact ⟨hne, v, ht.blk hb hg, ho.touch ht hr⟩
/-- A write behind which the writer has the bytes l: it and its row may have turned, nothing else. -/
def WGo (w : World) (g : Nat) (r : Option Nat) (l : List UInt8) (w' : World) : Prop :=
  ∃ r', WAt w' g r' l ∧ Touch (fun k => k = g ∨ r = some k) w w' ∧ (r' = r ∨ ∃ k, r' = some k ∧ w.heap.size ≤ k)
def WPost (w : World) (g : Nat) (r : Option Nat) (l : List UInt8) (e : Ending) (w' : World) : Prop := e = .returned (.tuple #[]) ∧ WGo w g r l w'
theorem WAt.lt {w : World} {g : Nat} {r : Option Nat} {l : List UInt8} (h : WAt w g r l) : g < w.heap.size := by obtain ⟨_, v, hb, _⟩ := h; exact hb.lt
theorem WGo.start {w : World} {g : Nat} {r : Option Nat} {l : List UInt8} (h : WAt w g r l) : WGo w g r l w := ⟨r, h, Touch.refl _ _, .inl rfl⟩
theorem WGo.next {w w1 w2 : World} {g : Nat} {r r1 : Option Nat} {l2 : List UInt8} (t : Touch (fun k => k = g ∨ r = some k) w w1) (hf : r1 = r ∨ ∃ k, r1 = some k ∧ w.heap.size ≤ k) (h2 : WGo w1 g r1 l2 w2) : WGo w g r l2 w2 := by
  obtain ⟨r2, hw2, t2, hf2⟩ := h2
  refine ⟨r2, hw2, t.trans t2 (fun q hq e => ?_), ?_⟩
  · rcases e with e | e
    · exact .inl e
    · rcases hf with e' | ⟨q', e', hq'⟩
      · exact .inr (by rw [← e']; exact e)
      · rw [e'] at e; injection e with e; omega
  · have := t.size
    rcases hf2 with e | ⟨q, e, hq⟩
    · rcases hf with e' | ⟨q', e', hq'⟩
      · exact .inl (e.trans e')
      · exact .inr ⟨q', e.trans e', hq'⟩
    · exact .inr ⟨q, e, by omega⟩
/-- What a write leaves alone still reads. -/
theorem WGo.rd {w w' : World} {g : Nat} {r : Option Nat} {l : List UInt8} (h : WGo w g r l w') {F : Nat → Prop} {A : Option Addr} {n : Nat} {xs : List Value} (hr : Rd w F A n xs) (hF : ∀ k, F k → k ≠ g ∧ r ≠ some k) : Rd w' F A n xs := by
  obtain ⟨r', _, t, _⟩ := h
  exact hr.touch t (fun k hk e => by rcases e with e | e; exact (hF k hk).1 e; exact (hF k hk).2 e)

/-- The digits of n to the base 256, the greatest first (at most f). -/
def dg : Nat → Nat → List UInt8
  | 0, _ => []
  | f + 1, n => if n = 0 then [] else dg f (n / 256) ++ [UInt8.ofNat (n % 256)]
def dig (n : Nat) : List UInt8 := dg 8 n
def encN (mark n : Nat) : List UInt8 := UInt8.ofNat (mark + (dig n).length) :: dig n

theorem dg_len : ∀ f n, (dg f n).length ≤ f
  | 0, _ => by simp [dg]
  | f + 1, n => by
    unfold dg
    split
    · simp
    · have := dg_len f (n / 256)
      simp; omega
theorem dg_more : ∀ f n, n < 256 ^ f → dg (f + 1) n = dg f n
  | 0, n, h => by
    have : n = 0 := by simpa using h
    subst this; simp [dg]
  | f + 1, n, h => by
    rw [dg]
    split
    · rename_i h0; simp [dg, h0]
    · rename_i h0
      have hd : n / 256 < 256 ^ f := by rw [Nat.pow_succ] at h; omega
      rw [dg_more f (n / 256) hd]
      conv => rhs; rw [dg, if_neg h0]
theorem dg_get : ∀ f n j, n < 256 ^ f → j < (dg f n).length → (dg f n).getD j 0 = UInt8.ofNat (n / 256 ^ ((dg f n).length - 1 - j) % 256)
  | 0, n, j, _, hj => by simp [dg] at hj
  | f + 1, n, j, h, hj => by
    unfold dg at hj ⊢
    split
    · rename_i h0; simp [h0] at hj
    · rename_i h0
      rw [if_neg h0] at hj
      have hd : n / 256 < 256 ^ f := by rw [Nat.pow_succ] at h; omega
      simp only [List.length_append, List.length_singleton] at hj ⊢
      by_cases hl : j < (dg f (n / 256)).length
      · have ih := dg_get f (n / 256) j hd hl
        have ea : (dg f (n / 256) ++ [UInt8.ofNat (n % 256)]).getD j 0 = (dg f (n / 256)).getD j 0 := by
          simp only [List.getD_eq_getElem?_getD]
          rw [List.getElem?_append_left hl]
        rw [ea, ih, Nat.div_div_eq_div_mul]
        congr 3
        rw [← Nat.pow_succ']
        congr 1
        omega
      · have hj' : j = (dg f (n / 256)).length := by omega
        subst hj'
        simp

/-- How many digits. -/
theorem dg_size : ∀ f k n, n / 256 ^ k < 256 ^ f → n < 256 ^ (f + k) → (n / 256 ^ k ≠ 0 ∨ k = 0 ∨ n / 256 ^ (k - 1) ≠ 0) → (dg (f + k) n).length = k + (dg f (n / 256 ^ k)).length := by
  intro f k
  induction k with
  | zero => intro n _ _ _; simp
  | succ k ih =>
    intro n h1 h2 h3
    have e : n / 256 ^ (k + 1) = n / 256 / 256 ^ k := by rw [Nat.div_div_eq_div_mul, ← Nat.pow_succ']
    have hn0 : n ≠ 0 := by
      rcases h3 with h3 | h3 | h3
      · intro h; subst h; simp at h3
      · omega
      · intro h; subst h; simp at h3
    rw [show f + (k + 1) = (f + k) + 1 by omega, dg, if_neg hn0, List.length_append, List.length_singleton]
    rw [e] at h1 ⊢
    rw [ih (n / 256) h1 (by rw [show f + (k + 1) = f + k + 1 by omega, Nat.pow_succ] at h2; omega) ?_]
    · omega
    · rcases h3 with h3 | h3 | h3
      · rw [e] at h3; exact .inl h3
      · omega
      · rcases Nat.eq_zero_or_pos k with rfl | hk
        · exact .inr (.inl rfl)
        · refine .inr (.inr ?_)
          rw [show k + 1 - 1 = (k - 1) + 1 by omega, Nat.pow_succ', ← Nat.div_div_eq_div_mul] at h3
          exact h3

theorem dig_size (n k : Nat) (hn : n < 256 ^ 8) (hk : k ≤ 8) (h0 : n / 256 ^ k = 0) (h1 : k = 0 ∨ n / 256 ^ (k - 1) ≠ 0) : (dig n).length = k := by
  have := dg_size (8 - k) k n (by rw [h0]; exact Nat.pow_pos (by decide)) (by rw [Nat.sub_add_cancel hk]; exact hn) (by
    rcases h1 with h1 | h1
    · exact .inr (.inl h1)
    · exact .inr (.inr h1))
  rw [Nat.sub_add_cancel hk, h0] at this
  unfold dig
  rw [this]
  have e : dg (8 - k) 0 = [] := by cases 8 - k <;> simp [dg]
  rw [e]; simp
theorem dig_getD (n j : Nat) (hn : n < 256 ^ 8) (hj : j < (dig n).length) : (dig n).getD j 0 = UInt8.ofNat (n / 256 ^ ((dig n).length - 1 - j) % 256) := dg_get 8 n j hn hj
theorem dig_le (n : Nat) : (dig n).length ≤ 8 := dg_len 8 n

/-- The object's state, its value told. -/
def WV (w : World) (g : Nat) (r : Option Nat) (l : List UInt8) (v : Value) : Prop := Blk w g 33 #[v] ∧ Own w 5 1 v r l.length (l.map B8)

/-- In the middle of a write: n bytes, the bytes l. -/
def WMid (w : World) (g : Nat) (r : Option Nat) (n : Nat) (xs : List Value) (wr : World) : Prop :=
  ∃ r' A c, r' ≠ some g ∧ Blk wr g 33 #[.slice A n c] ∧ Own wr 5 1 (.slice A n c) r' n xs ∧ Touch (fun k => k = g ∨ r = some k) w wr ∧ (r' = r ∨ ∃ k, r' = some k ∧ w.heap.size ≤ k)

theorem WMid.step {w wr w0 w1 : World} {g : Nat} {r r2 r3 : Option Nat} {A A' : Option Addr} {c c' n m : Nat} {xs news : List Value} (hr2 : r2 ≠ some g) (hb2 : Blk wr g 33 #[.slice A n c])
    (t : Touch (fun k => k = g ∨ r = some k) w wr) (hf : r2 = r ∨ ∃ k, r2 = some k ∧ w.heap.size ≤ k) (t0 : Touch (fun _ => False) wr w0) (ho3 : Own w1 5 1 (.slice A' (n + m) c') r3 (n + m) (xs ++ news))
    (t1 : Touch (fun k => r2 = some k) w0 w1) (hf3 : r3 = r2 ∨ ∃ k, r3 = some k ∧ w0.heap.size ≤ k) : WMid w g r (n + m) (xs ++ news) (w1.setCell ⟨g, 0, none⟩ (.slice A' (n + m) c')) := by
  have hgl := hb2.lt
  have hs0 := t0.size
  have hs := t.size
  have hr3 : r3 ≠ some g := by
    rcases hf3 with e | ⟨q, e, hq⟩
    · rw [e]; exact hr2
    · rw [e]; intro e'; injection e' with e'; omega
  have hb3 := (t0.blk hb2 (fun e => e))
  have hb4 := t1.blk hb3 (fun e => hr2 e)
  have t2 := (Touch.refl (fun k => k = g) w1).set (b := g) (o := 0) (fun _ => rfl) (.slice A' (n + m) c')
  refine ⟨r3, A', c', hr3, by simpa using hb4.set_ 0 (.slice A' (n + m) c'), ho3.touch t2 (fun q hq e => hr3 (by rw [hq, e])), ?_, ?_⟩
  · refine ((t.trans t0 (fun _ _ e => e.elim)).trans t1 (fun q hq e => ?_)).trans t2 (fun _ _ e => .inl e)
    rcases hf with e' | ⟨q', e', hq'⟩
    · exact .inr (by rw [← e']; exact e)
    · rw [e'] at e; injection e with e; omega
  · rcases hf3 with e | ⟨q, e, hq⟩
    · rcases hf with e' | ⟨q', e', hq'⟩
      · exact .inl (e.trans e')
      · exact .inr ⟨q', e.trans e', hq'⟩
    · exact .inr ⟨q, e, by omega⟩
theorem WMid.done {w wr : World} {g : Nat} {r : Option Nat} {l : List UInt8} {n : Nat} {xs : List Value} (h : WMid w g r n xs wr) (hx : xs = l.map B8) : WPost w g r l (.returned (.tuple #[])) wr := by
  obtain ⟨r', A, c, hr', hb, ho, ht, hf⟩ := h
  subst hx
  have hn : n = l.length := by have := ho.1; simpa using this.symm
  subst hn
  exact ⟨rfl, r', ⟨hr', _, hb, ho⟩, ht, hf⟩
theorem byte_at (n j k : Nat) (hk : (dig n).length = k) (hn : n < 256 ^ 8) (hj : j < k) : (Value.int .u8 (IntKind.u8.wrap ((n : Int) / 2 ^ (8 * ((k : Int) - 1 - j)).toNat))) = B8 ((dig n).getD j 0) := by
  subst hk
  rw [dig_getD n j hn hj, B8, IntKind.wrap_u8]
  have e : (8 * (((dig n).length : Int) - 1 - j)).toNat = 8 * ((dig n).length - 1 - j) := by omega
  have e2 : ((2 : Int) ^ (8 * ((dig n).length - 1 - j))) = ((256 ^ ((dig n).length - 1 - j) : Nat) : Int) := by
    rw [Int.natCast_pow]
    rw [Int.pow_mul]; rfl
  rw [e, e2]
  congr 1
  rw [UInt8.toNat_ofNat']
  omega

theorem wnumber_any (g : Nat) (r : Option Nat) (l : List UInt8) (n mark : Nat) (w : World) (h : WAt w g r l) (hn : n < 256 ^ 8) (hmk : mark ≤ 128) (hsm : l.length ≤ 1000000) :
    Calls Tryz.prog 78 #[.pointer (some ⟨g, 0, none⟩), .int .u64 n, .int .u8 mark] w (WPost w g r (l ++ encN mark n)) := by
  obtain ⟨hne, v, hb, ho⟩ := h
  obtain ⟨A0, c0, rfl, -, -⟩ := ho.form
  have h0 := hb.cell 0
  have f0 := hb.frozen 0
  have hgl := hb.lt
  have hnb : n < 18446744073709551616 := by simpa using hn
  simp at h0
  obtain ⟨i0, hi, hz0, hz1, hz2⟩ := info_parts info8
  have HN := Lib.hid hn
  have HO := Lib.hid ho
  clear hn ho
  go_enter Tryz.func78, Tryz.ntmps78
  go_wp2_with fail
  go_loop [6, 7] (fun s x => ∃ k : Nat, k ≤ 8 ∧ s = .int .i64 k ∧ x = .int .u64 (n / 256 ^ k : Nat) ∧ (k = 0 ∨ n / 256 ^ (k - 1) ≠ 0)) (fun _ x => (intOf x).toNat)
  case atStart => exact ⟨0, by omega, rfl, by simp, .inl rfl⟩
  case round =>
    obtain ⟨k, hk, rfl, rfl, hk1⟩ := hrel
    by_cases hx : n / 256 ^ k = 0
    · have HS := Lib.hid (dig_size n k HN.out hk hx hk1)
      clear hk1
      have hx0 : ((n / 256 ^ k : Nat) : Int) = 0 := by omega
      rw [hx]
      clear hx hx0
      have HT0 := Lib.hid ((Touch.refl (fun _ => False) w).alloc (.cells #[.int .u8 ((mark : Int) + k)] 5))
      go_wp2_with (
        at_builtin
        go_must (refine wpList_own_append rfl _ _ 25 25 rfl 5 i0 (.int .u8 0) 1 1 Tryz.underlying25 hi hz0 hz1 hz2 rfl _ r l.length (l.map B8) rfl (by exact HO.out.touch HT0.out (fun _ _ e => e)) _ 1 [.int .u8 ((mark : Int) + k)] rfl (by exact Src.lit Tryz.underlying25 w.heap.size 1 1 5 #[.int .u8 ((mark : Int) + k)] (Blk.new _ _ _) rfl (by simp [Value.oneCell'])) (by simp only [maxLen]; omega) (by omega) ?_)
        intro v1 r1 w1 ho1 ht1 hr1
        obtain ⟨A1, c1, rfl, -, -⟩ := ho1.form
        have HB1 := Lib.hid ((HT0.out.mono (S' := fun k => r = some k) (fun _ _ e => e.elim)).trans ht1 (fun _ _ e => e))
        have hb1 := HB1.out.blk hb (fun e => hne e)
        have f01 := hb1.frozen 0
        have h01 := hb1.cell 0
        simp at h01
        have HO1 := Lib.hid ho1
        have HT1 := Lib.hid ht1
        have HR1 := Lib.hid hr1
        have hgl1 := hb1.lt
        clear ho1 hr1 ht1)
      have HM : WMid w g r (l.length + 1) (l.map B8 ++ [.int .u8 ((mark : Int) + k)]) (w1.setCell ⟨g, 0, none⟩ (.slice A1 (l.length + 1) c1)) :=
        WMid.step hne hb (Touch.refl _ _) (.inl rfl) HT0.out HO1.out HT1.out HR1.out
      have HM := Lib.hid HM
      go_loopw [30] (fun i wr => ∃ j : Nat, j ≤ k ∧ i = .int .i64 j ∧ WMid w g r (l.length + 1 + j) (l.map B8 ++ [.int .u8 ((mark : Int) + k)] ++ ((dig n).take j).map B8) wr) (fun i _ => k - (intOf i).toNat)
      case atStart => exact ⟨0, by omega, rfl, by simpa using HM.out⟩
      case round =>
        obtain ⟨j, hj, rfl, hM⟩ := hrel
        have hM := Lib.hid hM
        by_cases hjk : j < k
        · obtain ⟨r2, A2, c2, hr2, hb2, ho2, ht2, hf2⟩ := hM.out
          have HT3 := Lib.hid (((Touch.refl (fun _ => False) wr).alloc (.cells #[.int .u8 (IntKind.u8.wrap ((n : Int) / 2 ^ (8 * ((k : Int) - 1 - j)).toNat))] 5)).drew)
          have HL := Lib.hid (show l.map B8 ++ [.int .u8 ((mark : Int) + k)] ++ ((dig n).take (j + 1)).map B8 = l.map B8 ++ [.int .u8 ((mark : Int) + k)] ++ ((dig n).take j).map B8 ++ [.int .u8 (IntKind.u8.wrap ((n : Int) / 2 ^ (8 * ((k : Int) - 1 - j)).toNat))] by
            rw [byte_at n j k HS.out HN.out hjk, take_getD _ _ (by rw [HS.out]; exact hjk), List.map_append, List.map_singleton, List.append_assoc, List.append_assoc, List.append_assoc])
          have h02 := hb2.cell 0
          have f02 := hb2.frozen 0
          have hgl2 := hb2.lt
          simp at h02
          have HO2 := Lib.hid ho2
          have HF2 := Lib.hid hf2
          clear ho2 hf2 HM
          have e1 : IntKind.i64.wrap ((k : Int) - 1) = (k : Int) - 1 := IntWalk.i64_in _ (by omega)
          have e2 : IntKind.i64.wrap ((k : Int) - 1 - j) = (k : Int) - 1 - j := IntWalk.i64_in _ (by omega)
          have e3 : IntKind.i64.wrap (8 * ((k : Int) - 1 - j)) = 8 * ((k : Int) - 1 - j) := IntWalk.i64_in _ (by omega)
          go_wp2_with fail
          go_region_law (
              (
              refine step_own_append (by rfl) _ _ 25 25 (by rfl) 5 i0 (.int .u8 0) 1 1 Tryz.underlying25 hi hz0 hz1 hz2 rfl _ r2 (l.length + 1 + j) _ (by rfl) (by exact HO2.out.touch HT3.out (fun _ _ e => e)) _ 1 [.int .u8 (IntKind.u8.wrap ((n : Int) / 2 ^ (8 * ((k : Int) - 1 - j)).toNat))] (by rfl) (by exact Src.lit Tryz.underlying25 wr.heap.size 1 1 5 #[.int .u8 (IntKind.u8.wrap ((n : Int) / 2 ^ (8 * ((k : Int) - 1 - j)).toNat))] (Blk.new _ _ _) rfl (by simp [Value.oneCell'])) (by simp only [maxLen]; omega) (by omega) ?_
              intro v3 r3 w3 ho3 ht3 hr3
              obtain ⟨A3, c3, rfl, -, -⟩ := ho3.form
              have hb3 := ht3.blk (HT3.out.blk hb2 (fun e => e)) (fun e => hr2 e)
              have h03 := hb3.cell 0
              have f03 := hb3.frozen 0
              simp at h03
              have HM2 := Lib.hid (WMid.step hr2 hb2 ht2 HF2.out HT3.out ho3 ht3 hr3)))
          all_goals
            go_wp2
            go_roundw
            case rel => exact ⟨j + 1, by omega, by go_num, by rw [HL.out]; exact HM2.out⟩
            case measure => simp [intOf]; omega
        · obtain rfl : j = k := by omega
          have hkd := HS.out
          go_wp2
          go_end0
          refine WMid.done hM.out ?_
          have e1 : (dig n).take j = dig n := List.take_of_length_le (by rw [hkd]; exact Nat.le_refl _)
          have e2 : B8 (UInt8.ofNat (mark + j)) = .int .u8 ((mark : Int) + j) := by
            rw [B8, UInt8.toNat_ofNat']; congr 1; omega
          rw [e1, encN, hkd, List.map_append, List.map_cons, e2]; simp
    · have hk8 : k < 8 := by
        rcases Nat.lt_or_ge k 8 with h | h
        · exact h
        · exfalso
          have : k = 8 := by omega
          subst this
          exact hx (Nat.div_eq_of_lt HN.out)
      have HD := Lib.hid (show n / 256 ^ (k + 1) = n / 256 ^ k / 256 by rw [Nat.pow_succ, Nat.div_div_eq_div_mul])
      have hxp : 0 < n / 256 ^ k := Nat.pos_of_ne_zero hx
      have hxl : n / 256 ^ k < 18446744073709551616 := Nat.lt_of_le_of_lt (Nat.div_le_self _ _) hnb
      clear hx hk1
      generalize hxx : n / 256 ^ k = x at *
      have HX := Lib.hid hxx
      clear hxx
      go_wp2
      go_round
      case rel => exact ⟨k + 1, by omega, by go_num, by rw [HD.out]; go_num, .inr (by rw [Nat.add_sub_cancel, HX.out]; omega)⟩
      case measure => simp [intOf]; omega
end Go.Proofs.YtlcefchbfjfifaaGreat
