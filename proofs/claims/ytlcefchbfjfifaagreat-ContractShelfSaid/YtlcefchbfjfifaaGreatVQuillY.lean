/- What the calls of quill's Writer do. quill's Reader, on: Raw, Text, End. quill's Writer, on: Num, Int, Flag, Raw, Text, Len, Bytes. quill's Writer, on: Flag, Text; law01.lives. -/
import Derived.Test.YtlcefchbfjfifaaGreatVOwn
import Derived.Test.YtlcefchbfjfifaaGreatVQuillR2
import Derived.Deep.RegionHeld3
import Derived.Deep.RegionLaw
import Derived.Laws.ShiftsVarLaws
import Derived.Laws.IdiomStrings
section
namespace Go.Proofs.YtlcefchbfjfifaaGreat
open Go.RowKit
set_option maxHeartbeats 2000000
set_option maxRecDepth 100000

/-- The writer's object at block g has the bytes l, in the row r. -/
def WAt (w : World) (g : Nat) (r : Option Nat) (l : List UInt8) : Prop :=
  r ≠ some g ∧ ∃ v, Blk w g 33 #[v] ∧ Own w 5 1 v r l.length (l.map B8)
theorem WAt.touch {w w' : World} {g : Nat} {r : Option Nat} {l : List UInt8} {S : Nat → Prop} (h : WAt w g r l) (ht : Touch S w w') (hg : ¬ S g) (hr : ∀ k, r = some k → ¬ S k) : WAt w' g r l := by
  obtain ⟨hne, v, hb, ho⟩ := h
  exact ⟨hne, v, ht.blk hb hg, ho.touch ht hr⟩
/-- A write behind which the writer has the bytes l: it and its row may have turned, nothing else. -/
def WGo (w : World) (g : Nat) (r : Option Nat) (l : List UInt8) (w' : World) : Prop :=
  ∃ r', WAt w' g r' l ∧ Touch (fun k => k = g ∨ r = some k) w w' ∧ (r' = r ∨ ∃ k, r' = some k ∧ w.heap.size ≤ k)
def WPost (w : World) (g : Nat) (r : Option Nat) (l : List UInt8) (e : Ending) (w' : World) : Prop := e = .returned (.tuple #[]) ∧ WGo w g r l w'
theorem WAt.lt {w : World} {g : Nat} {r : Option Nat} {l : List UInt8} (h : WAt w g r l) : g < w.heap.size := by obtain ⟨_, v, hb, _⟩ := h; exact hb.lt
theorem WGo.start {w : World} {g : Nat} {r : Option Nat} {l : List UInt8} (h : WAt w g r l) : WGo w g r l w := ⟨r, h, Touch.refl _ _, .inl rfl⟩
theorem WGo.next {w w1 w2 : World} {g : Nat} {r r1 : Option Nat} {l2 : List UInt8} (t : Touch (fun k => k = g ∨ r = some k) w w1) (hf : r1 = r ∨ ∃ k, r1 = some k ∧ w.heap.size ≤ k) (h2 : WGo w1 g r1 l2 w2) : WGo w g r l2 w2 := by
  obtain ⟨r2, hw2, t2, hf2⟩ := h2
  refine ⟨r2, hw2, t.trans t2 (fun q hq e => ?_), ?_⟩
  · rcases e with e | e
    · exact .inl e
    · rcases hf with e' | ⟨q', e', hq'⟩
      · exact .inr (by rw [← e']; exact e)
      · rw [e'] at e; injection e with e; omega
  · have := t.size
    rcases hf2 with e | ⟨q, e, hq⟩
    · rcases hf with e' | ⟨q', e', hq'⟩
      · exact .inl (e.trans e')
      · exact .inr ⟨q', e.trans e', hq'⟩
    · exact .inr ⟨q, e, by omega⟩
/-- What a write leaves alone still reads. -/
theorem WGo.rd {w w' : World} {g : Nat} {r : Option Nat} {l : List UInt8} (h : WGo w g r l w') {F : Nat → Prop} {A : Option Addr} {n : Nat} {xs : List Value} (hr : Rd w F A n xs) (hF : ∀ k, F k → k ≠ g ∧ r ≠ some k) : Rd w' F A n xs := by
  obtain ⟨r', _, t, _⟩ := h
  exact hr.touch t (fun k hk e => by rcases e with e | e; exact (hF k hk).1 e; exact (hF k hk).2 e)

/-- The digits of n to the base 256, the greatest first (at most f). -/
def dg : Nat → Nat → List UInt8
  | 0, _ => []
  | f + 1, n => if n = 0 then [] else dg f (n / 256) ++ [UInt8.ofNat (n % 256)]
def dig (n : Nat) : List UInt8 := dg 8 n
def encN (mark n : Nat) : List UInt8 := UInt8.ofNat (mark + (dig n).length) :: dig n

theorem dg_len : ∀ f n, (dg f n).length ≤ f
  | 0, _ => by simp [dg]
  | f + 1, n => by
    unfold dg
    split
    · simp
    · have := dg_len f (n / 256)
      simp; omega
theorem dg_more : ∀ f n, n < 256 ^ f → dg (f + 1) n = dg f n
  | 0, n, h => by
    have : n = 0 := by simpa using h
    subst this; simp [dg]
  | f + 1, n, h => by
    rw [dg]
    split
    · rename_i h0; simp [dg, h0]
    · rename_i h0
      have hd : n / 256 < 256 ^ f := by rw [Nat.pow_succ] at h; omega
      rw [dg_more f (n / 256) hd]
      conv => rhs; rw [dg, if_neg h0]
theorem dg_get : ∀ f n j, n < 256 ^ f → j < (dg f n).length → (dg f n).getD j 0 = UInt8.ofNat (n / 256 ^ ((dg f n).length - 1 - j) % 256)
  | 0, n, j, _, hj => by simp [dg] at hj
  | f + 1, n, j, h, hj => by
    unfold dg at hj ⊢
    split
    · rename_i h0; simp [h0] at hj
    · rename_i h0
      rw [if_neg h0] at hj
      have hd : n / 256 < 256 ^ f := by rw [Nat.pow_succ] at h; omega
      simp only [List.length_append, List.length_singleton] at hj ⊢
      by_cases hl : j < (dg f (n / 256)).length
      · have ih := dg_get f (n / 256) j hd hl
        have ea : (dg f (n / 256) ++ [UInt8.ofNat (n % 256)]).getD j 0 = (dg f (n / 256)).getD j 0 := by
          simp only [List.getD_eq_getElem?_getD]
          rw [List.getElem?_append_left hl]
        rw [ea, ih, Nat.div_div_eq_div_mul]
        congr 3
        rw [← Nat.pow_succ']
        congr 1
        omega
      · have hj' : j = (dg f (n / 256)).length := by omega
        subst hj'
        simp

/-- How many digits. -/
theorem dg_size : ∀ f k n, n / 256 ^ k < 256 ^ f → n < 256 ^ (f + k) → (n / 256 ^ k ≠ 0 ∨ k = 0 ∨ n / 256 ^ (k - 1) ≠ 0) → (dg (f + k) n).length = k + (dg f (n / 256 ^ k)).length := by
  intro f k
  induction k with
  | zero => intro n _ _ _; simp
  | succ k ih =>
    intro n h1 h2 h3
    have e : n / 256 ^ (k + 1) = n / 256 / 256 ^ k := by rw [Nat.div_div_eq_div_mul, ← Nat.pow_succ']
    have hn0 : n ≠ 0 := by
      rcases h3 with h3 | h3 | h3
      · intro h; subst h; simp at h3
      · omega
      · intro h; subst h; simp at h3
    rw [show f + (k + 1) = (f + k) + 1 by omega, dg, if_neg hn0, List.length_append, List.length_singleton]
    rw [e] at h1 ⊢
    rw [ih (n / 256) h1 (by rw [show f + (k + 1) = f + k + 1 by omega, Nat.pow_succ] at h2; omega) ?_]
    · omega
    · rcases h3 with h3 | h3 | h3
      · rw [e] at h3; exact .inl h3
      · omega
      · rcases Nat.eq_zero_or_pos k with rfl | hk
        · exact .inr (.inl rfl)
        · refine .inr (.inr ?_)
          rw [show k + 1 - 1 = (k - 1) + 1 by omega, Nat.pow_succ', ← Nat.div_div_eq_div_mul] at h3
          exact h3

theorem dig_size (n k : Nat) (hn : n < 256 ^ 8) (hk : k ≤ 8) (h0 : n / 256 ^ k = 0) (h1 : k = 0 ∨ n / 256 ^ (k - 1) ≠ 0) : (dig n).length = k := by
  have := dg_size (8 - k) k n (by rw [h0]; exact Nat.pow_pos (by decide)) (by rw [Nat.sub_add_cancel hk]; exact hn) (by
    rcases h1 with h1 | h1
    · exact .inr (.inl h1)
    · exact .inr (.inr h1))
  rw [Nat.sub_add_cancel hk, h0] at this
  unfold dig
  rw [this]
  have e : dg (8 - k) 0 = [] := by cases 8 - k <;> simp [dg]
  rw [e]; simp
theorem dig_getD (n j : Nat) (hn : n < 256 ^ 8) (hj : j < (dig n).length) : (dig n).getD j 0 = UInt8.ofNat (n / 256 ^ ((dig n).length - 1 - j) % 256) := dg_get 8 n j hn hj
theorem dig_le (n : Nat) : (dig n).length ≤ 8 := dg_len 8 n

/-- The object's state, its value told. -/
def WV (w : World) (g : Nat) (r : Option Nat) (l : List UInt8) (v : Value) : Prop := Blk w g 33 #[v] ∧ Own w 5 1 v r l.length (l.map B8)

/-- In the middle of a write: n bytes, the bytes l. -/
def WMid (w : World) (g : Nat) (r : Option Nat) (n : Nat) (xs : List Value) (wr : World) : Prop :=
  ∃ r' A c, r' ≠ some g ∧ Blk wr g 33 #[.slice A n c] ∧ Own wr 5 1 (.slice A n c) r' n xs ∧ Touch (fun k => k = g ∨ r = some k) w wr ∧ (r' = r ∨ ∃ k, r' = some k ∧ w.heap.size ≤ k)

theorem WMid.step {w wr w0 w1 : World} {g : Nat} {r r2 r3 : Option Nat} {A A' : Option Addr} {c c' n m : Nat} {xs news : List Value} (hr2 : r2 ≠ some g) (hb2 : Blk wr g 33 #[.slice A n c])
    (t : Touch (fun k => k = g ∨ r = some k) w wr) (hf : r2 = r ∨ ∃ k, r2 = some k ∧ w.heap.size ≤ k) (t0 : Touch (fun _ => False) wr w0) (ho3 : Own w1 5 1 (.slice A' (n + m) c') r3 (n + m) (xs ++ news))
    (t1 : Touch (fun k => r2 = some k) w0 w1) (hf3 : r3 = r2 ∨ ∃ k, r3 = some k ∧ w0.heap.size ≤ k) : WMid w g r (n + m) (xs ++ news) (w1.setCell ⟨g, 0, none⟩ (.slice A' (n + m) c')) := by
  have hgl := hb2.lt
  have hs0 := t0.size
  have hs := t.size
  have hr3 : r3 ≠ some g := by
    rcases hf3 with e | ⟨q, e, hq⟩
    · rw [e]; exact hr2
    · rw [e]; intro e'; injection e' with e'; omega
  have hb3 := (t0.blk hb2 (fun e => e))
  have hb4 := t1.blk hb3 (fun e => hr2 e)
  have t2 := (Touch.refl (fun k => k = g) w1).set (b := g) (o := 0) (fun _ => rfl) (.slice A' (n + m) c')
  refine ⟨r3, A', c', hr3, by simpa using hb4.set_ 0 (.slice A' (n + m) c'), ho3.touch t2 (fun q hq e => hr3 (by rw [hq, e])), ?_, ?_⟩
  · refine ((t.trans t0 (fun _ _ e => e.elim)).trans t1 (fun q hq e => ?_)).trans t2 (fun _ _ e => .inl e)
    rcases hf with e' | ⟨q', e', hq'⟩
    · exact .inr (by rw [← e']; exact e)
    · rw [e'] at e; injection e with e; omega
  · rcases hf3 with e | ⟨q, e, hq⟩
    · rcases hf with e' | ⟨q', e', hq'⟩
      · exact .inl (e.trans e')
      · exact .inr ⟨q', e.trans e', hq'⟩
    · exact .inr ⟨q, e, by omega⟩
theorem WMid.done {w wr : World} {g : Nat} {r : Option Nat} {l : List UInt8} {n : Nat} {xs : List Value} (h : WMid w g r n xs wr) (hx : xs = l.map B8) : WPost w g r l (.returned (.tuple #[])) wr := by
  obtain ⟨r', A, c, hr', hb, ho, ht, hf⟩ := h
  subst hx
  have hn : n = l.length := by have := ho.1; simpa using this.symm
  subst hn
  exact ⟨rfl, r', ⟨hr', _, hb, ho⟩, ht, hf⟩
theorem byte_at (n j k : Nat) (hk : (dig n).length = k) (hn : n < 256 ^ 8) (hj : j < k) : (Value.int .u8 (IntKind.u8.wrap ((n : Int) / 2 ^ (8 * ((k : Int) - 1 - j)).toNat))) = B8 ((dig n).getD j 0) := by
  subst hk
  rw [dig_getD n j hn hj, B8, IntKind.wrap_u8]
  have e : (8 * (((dig n).length : Int) - 1 - j)).toNat = 8 * ((dig n).length - 1 - j) := by omega
  have e2 : ((2 : Int) ^ (8 * ((dig n).length - 1 - j))) = ((256 ^ ((dig n).length - 1 - j) : Nat) : Int) := by
    rw [Int.natCast_pow]
    rw [Int.pow_mul]; rfl
  rw [e, e2]
  congr 1
  rw [UInt8.toNat_ofNat']
  omega

theorem wnumber_any (g : Nat) (r : Option Nat) (l : List UInt8) (n mark : Nat) (w : World) (h : WAt w g r l) (hn : n < 256 ^ 8) (hmk : mark ≤ 128) (hsm : l.length ≤ 1000000) :
    Calls Tryz.prog 78 #[.pointer (some ⟨g, 0, none⟩), .int .u64 n, .int .u8 mark] w (WPost w g r (l ++ encN mark n)) := by
  obtain ⟨hne, v, hb, ho⟩ := h
  obtain ⟨A0, c0, rfl, -, -⟩ := ho.form
  have h0 := hb.cell 0
  have f0 := hb.frozen 0
  have hgl := hb.lt
  have hnb : n < 18446744073709551616 := by simpa using hn
  simp at h0
  obtain ⟨i0, hi, hz0, hz1, hz2⟩ := info_parts info8
  have HN := Lib.hid hn
  have HO := Lib.hid ho
  clear hn ho
  go_enter Tryz.func78, Tryz.ntmps78
  go_wp2_with fail
  go_loop [6, 7] (fun s x => ∃ k : Nat, k ≤ 8 ∧ s = .int .i64 k ∧ x = .int .u64 (n / 256 ^ k : Nat) ∧ (k = 0 ∨ n / 256 ^ (k - 1) ≠ 0)) (fun _ x => (intOf x).toNat)
  case atStart => exact ⟨0, by omega, rfl, by simp, .inl rfl⟩
  case round =>
    obtain ⟨k, hk, rfl, rfl, hk1⟩ := hrel
    by_cases hx : n / 256 ^ k = 0
    · have HS := Lib.hid (dig_size n k HN.out hk hx hk1)
      clear hk1
      have hx0 : ((n / 256 ^ k : Nat) : Int) = 0 := by omega
      rw [hx]
      clear hx hx0
      have HT0 := Lib.hid ((Touch.refl (fun _ => False) w).alloc (.cells #[.int .u8 ((mark : Int) + k)] 5))
      go_wp2_with (
        at_builtin
        go_must (refine wpList_own_append rfl _ _ 25 25 rfl 5 i0 (.int .u8 0) 1 1 Tryz.underlying25 hi hz0 hz1 hz2 rfl _ r l.length (l.map B8) rfl (by exact HO.out.touch HT0.out (fun _ _ e => e)) _ 1 [.int .u8 ((mark : Int) + k)] rfl (by exact Src.lit Tryz.underlying25 w.heap.size 1 1 5 #[.int .u8 ((mark : Int) + k)] (Blk.new _ _ _) rfl (by simp [Value.oneCell'])) (by simp only [maxLen]; omega) (by omega) ?_)
        intro v1 r1 w1 ho1 ht1 hr1
        obtain ⟨A1, c1, rfl, -, -⟩ := ho1.form
        have HB1 := Lib.hid ((HT0.out.mono (S' := fun k => r = some k) (fun _ _ e => e.elim)).trans ht1 (fun _ _ e => e))
        have hb1 := HB1.out.blk hb (fun e => hne e)
        have f01 := hb1.frozen 0
        have h01 := hb1.cell 0
        simp at h01
        have HO1 := Lib.hid ho1
        have HT1 := Lib.hid ht1
        have HR1 := Lib.hid hr1
        have hgl1 := hb1.lt
        clear ho1 hr1 ht1)
      have HM : WMid w g r (l.length + 1) (l.map B8 ++ [.int .u8 ((mark : Int) + k)]) (w1.setCell ⟨g, 0, none⟩ (.slice A1 (l.length + 1) c1)) :=
        WMid.step hne hb (Touch.refl _ _) (.inl rfl) HT0.out HO1.out HT1.out HR1.out
      have HM := Lib.hid HM
      go_loopw [30] (fun i wr => ∃ j : Nat, j ≤ k ∧ i = .int .i64 j ∧ WMid w g r (l.length + 1 + j) (l.map B8 ++ [.int .u8 ((mark : Int) + k)] ++ ((dig n).take j).map B8) wr) (fun i _ => k - (intOf i).toNat)
      case atStart => exact ⟨0, by omega, rfl, by simpa using HM.out⟩
      case round =>
        obtain ⟨j, hj, rfl, hM⟩ := hrel
        have hM := Lib.hid hM
        by_cases hjk : j < k
        · obtain ⟨r2, A2, c2, hr2, hb2, ho2, ht2, hf2⟩ := hM.out
          have HT3 := Lib.hid (((Touch.refl (fun _ => False) wr).alloc (.cells #[.int .u8 (IntKind.u8.wrap ((n : Int) / 2 ^ (8 * ((k : Int) - 1 - j)).toNat))] 5)).drew)
          have HL := Lib.hid (show l.map B8 ++ [.int .u8 ((mark : Int) + k)] ++ ((dig n).take (j + 1)).map B8 = l.map B8 ++ [.int .u8 ((mark : Int) + k)] ++ ((dig n).take j).map B8 ++ [.int .u8 (IntKind.u8.wrap ((n : Int) / 2 ^ (8 * ((k : Int) - 1 - j)).toNat))] by
            rw [byte_at n j k HS.out HN.out hjk, take_getD _ _ (by rw [HS.out]; exact hjk), List.map_append, List.map_singleton, List.append_assoc, List.append_assoc, List.append_assoc])
          have h02 := hb2.cell 0
          have f02 := hb2.frozen 0
          have hgl2 := hb2.lt
          simp at h02
          have HO2 := Lib.hid ho2
          have HF2 := Lib.hid hf2
          clear ho2 hf2 HM
          have e1 : IntKind.i64.wrap ((k : Int) - 1) = (k : Int) - 1 := IntWalk.i64_in _ (by omega)
          have e2 : IntKind.i64.wrap ((k : Int) - 1 - j) = (k : Int) - 1 - j := IntWalk.i64_in _ (by omega)
          have e3 : IntKind.i64.wrap (8 * ((k : Int) - 1 - j)) = 8 * ((k : Int) - 1 - j) := IntWalk.i64_in _ (by omega)
          go_wp2_with fail
          go_region_law (
              (
              refine step_own_append (by rfl) _ _ 25 25 (by rfl) 5 i0 (.int .u8 0) 1 1 Tryz.underlying25 hi hz0 hz1 hz2 rfl _ r2 (l.length + 1 + j) _ (by rfl) (by exact HO2.out.touch HT3.out (fun _ _ e => e)) _ 1 [.int .u8 (IntKind.u8.wrap ((n : Int) / 2 ^ (8 * ((k : Int) - 1 - j)).toNat))] (by rfl) (by exact Src.lit Tryz.underlying25 wr.heap.size 1 1 5 #[.int .u8 (IntKind.u8.wrap ((n : Int) / 2 ^ (8 * ((k : Int) - 1 - j)).toNat))] (Blk.new _ _ _) rfl (by simp [Value.oneCell'])) (by simp only [maxLen]; omega) (by omega) ?_
              intro v3 r3 w3 ho3 ht3 hr3
              obtain ⟨A3, c3, rfl, -, -⟩ := ho3.form
              have hb3 := ht3.blk (HT3.out.blk hb2 (fun e => e)) (fun e => hr2 e)
              have h03 := hb3.cell 0
              have f03 := hb3.frozen 0
              simp at h03
              have HM2 := Lib.hid (WMid.step hr2 hb2 ht2 HF2.out HT3.out ho3 ht3 hr3)))
          all_goals
            go_wp2
            go_roundw
            case rel => exact ⟨j + 1, by omega, by go_num, by rw [HL.out]; exact HM2.out⟩
            case measure => simp [intOf]; omega
        · obtain rfl : j = k := by omega
          have hkd := HS.out
          go_wp2
          go_end0
          refine WMid.done hM.out ?_
          have e1 : (dig n).take j = dig n := List.take_of_length_le (by rw [hkd]; exact Nat.le_refl _)
          have e2 : B8 (UInt8.ofNat (mark + j)) = .int .u8 ((mark : Int) + j) := by
            rw [B8, UInt8.toNat_ofNat']; congr 1; omega
          rw [e1, encN, hkd, List.map_append, List.map_cons, e2]; simp
    · have hk8 : k < 8 := by
        rcases Nat.lt_or_ge k 8 with h | h
        · exact h
        · exfalso
          have : k = 8 := by omega
          subst this
          exact hx (Nat.div_eq_of_lt HN.out)
      have HD := Lib.hid (show n / 256 ^ (k + 1) = n / 256 ^ k / 256 by rw [Nat.pow_succ, Nat.div_div_eq_div_mul])
      have hxp : 0 < n / 256 ^ k := Nat.pos_of_ne_zero hx
      have hxl : n / 256 ^ k < 18446744073709551616 := Nat.lt_of_le_of_lt (Nat.div_le_self _ _) hnb
      clear hx hk1
      generalize hxx : n / 256 ^ k = x at *
      have HX := Lib.hid hxx
      clear hxx
      go_wp2
      go_round
      case rel => exact ⟨k + 1, by omega, by go_num, by rw [HD.out]; go_num, .inr (by rw [Nat.add_sub_cancel, HX.out]; omega)⟩
      case measure => simp [intOf]; omega
end Go.Proofs.YtlcefchbfjfifaaGreat
end

section
namespace Go.Proofs.YtlcefchbfjfifaaGreat
open Go.RowKit
set_option maxHeartbeats 1000000
set_option maxRecDepth 100000

/-- What Raw hands back: a new slice of the bytes xs; the reader is left as (l, bad). -/
def RawPost (n : Nat) (xs l : List UInt8) (bad : Bool) (w : World) (g : Nat) (F : Nat → Prop) (e : Ending) (w' : World) : Prop :=
  ∃ A c, e = .returned (.slice A n c) ∧ n ≤ c ∧ c ≤ maxLen ∧ Rd w' (fun k => w.heap.size ≤ k) A n (xs.map B8) ∧ RdAt w' g F l bad ∧ Touch (fun k => k = g) w w'

theorem rdAt_touch {w w' : World} {g : Nat} {F S : Nat → Prop} {l : List UInt8} {bad : Bool} (h : RdAt w g F l bad) (ht : Touch S w w') (hg : ¬ S g) (hF : ∀ k, F k → ¬ S k) : RdAt w' g F l bad := by
  obtain ⟨hgF, A, cap, hl, hm, hb, hr⟩ := h
  exact ⟨hgF, A, cap, hl, hm, ht.blk hb hg, hr.touch ht hF⟩

theorem Rd.str {w : World} {F : Nat → Prop} {A : Option Addr} {n : Nat} {l : List UInt8} (h : Rd w F A n (l.map B8)) (c : Nat) :
    (convert 25 9 (.slice A n c)).run Tryz.prog w = .ok (.string ⟨l.toArray⟩) w := by
  have hl := h.1
  rw [List.length_map] at hl
  subst hl
  rcases A with _ | ad
  · have : l = [] := by
      rcases l with _ | ⟨x, l⟩
      · rfl
      · obtain ⟨_, _, e, _⟩ := h.2 (by simp); cases e
    subst this
    exact run_convert_bytes_nil w 25 5 Tryz.underlying25 Tryz.underlying5 _ _ 9 Tryz.underlying9
  · refine run_convert_bytes_back w 25 9 5 ad c l Tryz.underlying25 Tryz.underlying5 Tryz.underlying9 (fun j hj => ?_)
    exact h.add j _ (by simp [B8, hj])

structure RTxt where
  txt : List UInt8
  left : List UInt8
  bad : Bool
def rdText (most : Int) (bad : Bool) (l : List UInt8) : RTxt :=
  if most < 0 then ⟨[], [], true⟩
  else if (rdNum most.toNat false bad l).left.length < (rdNum most.toNat false bad l).val then ⟨[], [], true⟩
  else ⟨(rdNum most.toNat false bad l).left.take (rdNum most.toNat false bad l).val, (rdNum most.toNat false bad l).left.drop (rdNum most.toNat false bad l).val, (rdNum most.toNat false bad l).bad⟩

end Go.Proofs.YtlcefchbfjfifaaGreat
end

section
namespace Go.Proofs.YtlcefchbfjfifaaGreat
open Go.RowKit
set_option maxHeartbeats 2000000
set_option maxRecDepth 100000

def U64 (n : Nat) : Value := .int .u64 (n : Int)
def encs (ns : List Nat) : List UInt8 := ns.flatMap (encN 0)
theorem encN_len (m n : Nat) : (encN m n).length ≤ 9 := by have := dig_le n; simp [encN]; omega
theorem encs_len (ns : List Nat) : (encs ns).length ≤ 9 * ns.length := by
  induction ns with
  | nil => simp [encs]
  | cons n ns ih => have := encN_len 0 n; simp [encs] at *; omega
theorem encs_take (ns : List Nat) (j : Nat) (hj : j < ns.length) : encs (ns.take (j + 1)) = encs (ns.take j) ++ encN 0 (ns.getD j 0) := by
  rw [encs, encs, List.take_succ_eq_append_getElem hj, List.flatMap_append]
  simp [List.getD, List.getElem?_eq_getElem hj]

theorem wnum_any (g : Nat) (r : Option Nat) (l : List UInt8) (F : Nat → Prop) (A : Option Addr) (c : Nat) (ns : List Nat) (w : World) (h : WAt w g r l) (hr : Rd w F A ns.length (ns.map U64)) (hF : ∀ k, F k → k ≠ g ∧ r ≠ some k)
    (hns : ∀ n ∈ ns, n < 256 ^ 8) (hsm : l.length + 9 * ns.length ≤ 1000000) :
    Calls Tryz.prog 41 #[.pointer (some ⟨g, 0, none⟩), .slice A ns.length c] w (WPost w g r (l ++ encs ns)) := by
  have Hr := Lib.hid hr
  have H := Lib.hid (WGo.start h)
  have HN := Lib.hid hns
  have hgl := h.lt
  have HF := Lib.hid hF
  have hsm' : ns.length ≤ 1000000 := by omega
  clear hr h hns hF
  go_enter Tryz.func41, Tryz.ntmps41
  go_wp2_with fail
  go_loopw [10] (fun i wr => ∃ j : Nat, j ≤ ns.length ∧ i = .int .i64 j ∧ WGo w g r (l ++ encs (ns.take j)) wr) (fun i _ => ns.length - (intOf i).toNat)
  case atStart => exact ⟨0, by omega, rfl, by simpa [encs] using H.out⟩
  case round =>
    obtain ⟨j, hj, rfl, hM⟩ := hrel
    have hM := Lib.hid hM
    by_cases hjk : j < ns.length
    · have hrj := hM.out.rd Hr.out HF.out
      obtain ⟨a, off, rfl, _, _, hc⟩ := hrj.2 (by omega)
      have hcj := hc j (U64 (ns.getD j 0)) (by simp [List.getD, List.getElem?_eq_getElem hjk])
      simp only [U64] at hcj
      have hnj := HN.out (ns.getD j 0) (by simp [List.getD, List.getElem?_eq_getElem hjk])
      have HE := Lib.hid (encs_take ns j hjk)
      have hnb : ns.getD j 0 < 18446744073709551616 := by simpa using hnj
      have HNj := Lib.hid hnj
      have hel := encs_len (ns.take j)
      have hel2 : (ns.take j).length ≤ j := by simp; omega
      clear hc hrj hnj
      generalize ns.getD j 0 = n at *
      obtain ⟨r1, hw1, t1, hf1⟩ := hM.out
      have HW := Lib.hid hw1
      have HT := Lib.hid t1
      have HF1 := Lib.hid hf1
      clear hw1 t1 hf1
      go_wp2_with (
        go_at_call 78
        go_must (refine (wnumber_any g r1 _ n 0 _ (by exact HW.out) HNj.out (by omega) (by rw [List.length_append]; omega)).mono ?_)
        rintro e w2 ⟨rfl, h2⟩
        have H2 := Lib.hid (WGo.next HT.out HF1.out h2)
        clear h2)
      go_roundw
      case rel => exact ⟨j + 1, by omega, by go_num, by rw [HE.out, ← List.append_assoc]; exact H2.out⟩
      case measure => simp [intOf]; omega
    · obtain rfl : j = ns.length := by omega
      go_wp2
      go_end0
      exact ⟨rfl, by have := hM.out; rwa [List.take_length] at this⟩

def I64 (n : Int) : Value := .int .i64 n
def encI (i : Int) : List UInt8 := if i < 0 then encN 128 (-1 - i).toNat else encN 0 i.toNat
def encIs (ns : List Int) : List UInt8 := ns.flatMap encI
theorem encI_len (i : Int) : (encI i).length ≤ 9 := by unfold encI; split <;> exact encN_len _ _
theorem encIs_len (ns : List Int) : (encIs ns).length ≤ 9 * ns.length := by
  induction ns with
  | nil => simp [encIs]
  | cons n ns ih => have := encI_len n; simp [encIs] at *; omega
theorem encIs_take (ns : List Int) (j : Nat) (hj : j < ns.length) : encIs (ns.take (j + 1)) = encIs (ns.take j) ++ encI (ns.getD j 0) := by
  rw [encIs, encIs, List.take_succ_eq_append_getElem hj, List.flatMap_append]
  simp [List.getD, List.getElem?_eq_getElem hj]

theorem wint_any (g : Nat) (r : Option Nat) (l : List UInt8) (F : Nat → Prop) (A : Option Addr) (c : Nat) (ns : List Int) (w : World) (h : WAt w g r l) (hr : Rd w F A ns.length (ns.map I64)) (hF : ∀ k, F k → k ≠ g ∧ r ≠ some k)
    (hns : ∀ n ∈ ns, -9223372036854775808 ≤ n ∧ n ≤ 9223372036854775807) (hsm : l.length + 9 * ns.length ≤ 1000000) :
    Calls Tryz.prog 117 #[.pointer (some ⟨g, 0, none⟩), .slice A ns.length c] w (WPost w g r (l ++ encIs ns)) := by
  have Hr := Lib.hid hr
  have H := Lib.hid (WGo.start h)
  have HN := Lib.hid hns
  have hgl := h.lt
  have HF := Lib.hid hF
  have hsm' : ns.length ≤ 1000000 := by omega
  clear hr h hns hF
  go_enter Tryz.func117, Tryz.ntmps117
  go_wp2_with fail
  go_loopw [10] (fun i wr => ∃ j : Nat, j ≤ ns.length ∧ i = .int .i64 j ∧ WGo w g r (l ++ encIs (ns.take j)) wr) (fun i _ => ns.length - (intOf i).toNat)
  case atStart => exact ⟨0, by omega, rfl, by simpa [encIs] using H.out⟩
  case round =>
    obtain ⟨j, hj, rfl, hM⟩ := hrel
    have hM := Lib.hid hM
    by_cases hjk : j < ns.length
    · have hrj := hM.out.rd Hr.out HF.out
      obtain ⟨a, off, rfl, _, _, hc⟩ := hrj.2 (by omega)
      have hcj := hc j (I64 (ns.getD j 0)) (by simp [List.getD, List.getElem?_eq_getElem hjk])
      simp only [I64] at hcj
      have hnj := HN.out (ns.getD j 0) (by simp [List.getD, List.getElem?_eq_getElem hjk])
      have HE := Lib.hid (encIs_take ns j hjk)
      obtain ⟨hn1, hn2⟩ := hnj
      have hel := encIs_len (ns.take j)
      have hel2 : (ns.take j).length ≤ j := by simp; omega
      clear hc hrj
      generalize ns.getD j 0 = n at *
      obtain ⟨r1, hw1, t1, hf1⟩ := hM.out
      have HW := Lib.hid hw1
      have HT := Lib.hid t1
      have HF1 := Lib.hid hf1
      clear hw1 t1 hf1
      by_cases hneg : n < 0
      · have HE2 := Lib.hid (show encI n = encN 128 (-1 - n).toNat by simp [encI, hneg])
        obtain ⟨m, hm⟩ := Int.eq_ofNat_of_zero_le (show 0 ≤ -1 - n by omega)
        have hmn : (-1 - n).toNat = m := by omega
        have HMN := Lib.hid hmn
        clear hmn
        go_wp2_with (
          go_at_call 78
          go_must (refine (wnumber_any g r1 _ m 128 _ (by exact HW.out) (by omega) (by omega) (by rw [List.length_append]; omega)).mono ?_)
          rintro e w2 ⟨rfl, h2⟩
          have H2 := Lib.hid (WGo.next HT.out HF1.out h2)
          clear h2)
        go_roundw
        case rel => exact ⟨j + 1, by omega, by go_num, by rw [HE.out, HE2.out, HMN.out, ← List.append_assoc]; exact H2.out⟩
        case measure => simp [intOf]; omega
      · have HE2 := Lib.hid (show encI n = encN 0 n.toNat by simp [encI, hneg])
        obtain ⟨m, rfl⟩ := Int.eq_ofNat_of_zero_le (show 0 ≤ n by omega)
        go_wp2_with (
          go_at_call 78
          go_must (refine (wnumber_any g r1 _ m 0 _ (by exact HW.out) (by omega) (by omega) (by rw [List.length_append]; omega)).mono ?_)
          rintro e w2 ⟨rfl, h2⟩
          have H2 := Lib.hid (WGo.next HT.out HF1.out h2)
          clear h2)
        go_roundw
        case rel => exact ⟨j + 1, by omega, by go_num, by rw [HE.out, HE2.out, Int.toNat_natCast, ← List.append_assoc]; exact H2.out⟩
        case measure => simp [intOf]; omega
    · obtain rfl : j = ns.length := by omega
      go_wp2
      go_end0
      exact ⟨rfl, by have := hM.out; rwa [List.take_length] at this⟩

theorem wbytes_any (g : Nat) (r : Option Nat) (l : List UInt8) (w : World) (h : WAt w g r l) (hsm : l.length ≤ 140737488355328) :
    Calls Tryz.prog 17 #[.pointer (some ⟨g, 0, none⟩)] w (NewSl w (l.map B8)) := by
  obtain ⟨hne, v, hb, ho⟩ := h
  obtain ⟨A0, c0, rfl, -, -, -, hr⟩ := ho.rd
  have h0 := hb.cell 0
  simp at h0
  have HC := Lib.hid (clone_any _ A0 l.length c0 l w hr hsm)
  clear ho hr
  go_enter Tryz.func17, Tryz.ntmps17
  go_wp2_with (
    go_at_call 45
    go_must (refine HC.out.mono ?_)
    rintro e w1 ⟨A1, c1, rfl, k1, k2, k3, k4⟩)
  go_ret
  exact ⟨A1, c1, ret_val (by simp), k1, k2, k3, k4⟩

end Go.Proofs.YtlcefchbfjfifaaGreat
end

section
namespace Go.Proofs.YtlcefchbfjfifaaGreat
open Go.RowKit
set_option maxHeartbeats 2000000
set_option maxRecDepth 100000

/-- A literal slice of one element. -/
theorem Rd.lit (w : World) (t : TypeId) (cs : List Value) (n : Nat) (hn : cs.length = n) : Rd (w.alloc (.cells cs.toArray t)) (fun k => k = w.heap.size) (some ⟨w.heap.size, 0, none⟩) n cs :=
  ⟨hn, fun _ => ⟨w.heap.size, 0, rfl, by simp, rfl, fun j u hj => by rw [Nat.zero_add, (Blk.new w t cs.toArray).cell]; simpa using hj⟩⟩

def F8 (b : Bool) : Value := .bool b
def encF (b : Bool) : List UInt8 := if b then encN 0 1 else encN 0 0
def encFs (bs : List Bool) : List UInt8 := bs.flatMap encF
theorem encF_len (b : Bool) : (encF b).length ≤ 9 := by cases b <;> exact encN_len _ _
theorem encFs_len (ns : List Bool) : (encFs ns).length ≤ 9 * ns.length := by
  induction ns with
  | nil => simp [encFs]
  | cons n ns ih => have := encF_len n; simp [encFs] at *; omega
theorem encFs_take (ns : List Bool) (j : Nat) (hj : j < ns.length) : encFs (ns.take (j + 1)) = encFs (ns.take j) ++ encF (ns.getD j false) := by
  rw [encFs, encFs, List.take_succ_eq_append_getElem hj, List.flatMap_append]
  simp [List.getD, List.getElem?_eq_getElem hj]

/-- '[]byte(s)': a new block. -/
theorem conv_str (w : World) (s : ByteArray) (g : Nat) (hg : w.heap.size = g) (hs : s.size ≤ 9223372036854775807) : ∃ c o, (convert 9 25 (.string s)).run Tryz.prog w = .ok (.slice (some ⟨g, 0, none⟩) s.size c) ((w.alloc o).drew) ∧
    Rd ((w.alloc o).drew) (fun k => k = g) (some ⟨g, 0, none⟩) s.size (s.data.toList.map B8) ∧ s.size ≤ c ∧ c ≤ maxLen := by
  subst hg
  refine ⟨_, _, run_bytes_of_string w 9 25 5 s Tryz.underlying9 Tryz.underlying25 Tryz.underlying5, ⟨by rw [List.length_map]; exact Array.length_toList, fun _ => ⟨w.heap.size, 0, rfl, by simp, rfl, fun j u hj => ?_⟩⟩, grownCap_ge w s.size 0 5, grownCap_le_maxLen w s.size 0 5 (by unfold maxLen; omega)⟩
  rw [Nat.zero_add]
  have hj' : j < s.data.size := by simpa using (List.getElem?_eq_some_iff.1 hj).1
  have h1 := cell_of_row (w.drew.alloc (.cells (bytesRow s (grownCap w s.size 0 5)) 5 ((bytesRow s (grownCap w s.size 0 5)).size, (bytesRow s (grownCap w s.size 0 5)).size + 1))) w.heap.size j _ 5 _ (heap_alloc_new w.drew _)
  refine h1.trans ?_
  rw [bytesRow_at s _ j hj', ← hj, List.getElem?_map, show s.data.toList[j]? = some s.data[j] by simp]
  rfl

def encT (s : ByteArray) : List UInt8 := encN 0 s.size ++ s.data.toList

end Go.Proofs.YtlcefchbfjfifaaGreat
end
