/- law01.write, both ways: the same bytes. -/
import Derived.Test.YtomapfklpoijbaaQuillZ
namespace Go.Proofs.Ytomapfklpoijbaa
open Go.RowKit
set_option maxHeartbeats 2000000
set_option maxRecDepth 100000

theorem Rd.litAt (w : World) (g : Nat) (hg : w.heap.size = g) (t : TypeId) (cs : List Value) (n : Nat) (hn : cs.length = n) : Rd (w.alloc (.cells cs.toArray t)) (fun k => k = g) (some ⟨g, 0, none⟩) n cs := by
  subst hg; exact Rd.lit w t cs n hn

structure ItemV where
  kind : Int
  num : Nat
  int : Int
  flag : Bool
  text : ByteArray
def ItemV.ok (x : ItemV) : Prop := x.num < 256 ^ 8 ∧ -9223372036854775808 ≤ x.int ∧ x.int ≤ 9223372036854775807 ∧ x.text.size ≤ 1000
def ItemV.cells (x : ItemV) : List Value := [.int .i64 x.kind, .int .u64 x.num, .int .i64 x.int, .bool x.flag, .string x.text]
def encItem (x : ItemV) : List UInt8 :=
  if x.kind = 1 then encI x.int else if x.kind = 2 then encF x.flag else if x.kind = 3 then encT x.text else if x.kind = 4 then x.text.data.toList else encN 0 x.num
theorem encT_len (s : ByteArray) : (encT s).length ≤ 9 + s.size := by
  have := encN_len 0 s.size
  have h : s.data.toList.length = s.size := Array.length_toList
  rw [encT, List.length_append, h]; omega
theorem encItem_len (x : ItemV) (h : x.ok) : (encItem x).length ≤ 1009 := by
  obtain ⟨_, _, _, ht⟩ := h
  have h : x.text.data.toList.length = x.text.size := Array.length_toList
  unfold encItem
  split
  · have := encI_len x.int; omega
  · split
    · have := encF_len x.flag; omega
    · split
      · have := encT_len x.text; omega
      · split
        · omega
        · have := encN_len 0 x.num; omega

/-- A new slice that reads as xs is handed back; the writer at g has the bytes l. -/
def WIt (w : World) (g : Nat) (r : Option Nat) (l xs : List UInt8) (e : Ending) (w' : World) : Prop :=
  ∃ A c r', e = .returned (.slice A xs.length c) ∧ (A = none → c = 0) ∧ xs.length ≤ c ∧ c ≤ maxLen ∧ Rd w' (fun k => w.heap.size ≤ k ∧ r' ≠ some k) A xs.length (xs.map B8) ∧
    WAt w' g r' l ∧ Touch (fun k => k = g ∨ r = some k) w w' ∧ (r' = r ∨ ∃ k, r' = some k ∧ w.heap.size ≤ k)

theorem WAt.rlt {w : World} {g : Nat} {r : Option Nat} {l : List UInt8} (h : WAt w g r l) : ∀ k, r = some k → k < w.heap.size := by
  obtain ⟨_, v, _, ho⟩ := h; exact ho.lt

/-- Out of a write and the reference's new row. -/
theorem WIt.intro {w w0 w1 w2 : World} {g : Nat} {r : Option Nat} {l xs : List UInt8} {e : Ending} (t0 : Touch (fun _ => False) w w0) (h1 : WGo w0 g r l w1) (h2 : NewOwn w1 xs e w2) : WIt w g r l xs e w2 := by
  obtain ⟨r1, hw1, t1, hf1⟩ := h1
  obtain ⟨v, k, rfl, ho, hk, t2⟩ := h2
  obtain ⟨A, c, rfl, hc1, hc2, hA, hr⟩ := ho.rd
  have s0 := t0.size
  have s1 := t1.size
  refine ⟨A, c, r1, rfl, hA, hc1, hc2, hr.mono (fun q hq => ?_), hw1.touch t2 (fun e => e) (fun _ _ e => e), ((t0.mono (fun _ _ e => e.elim)).trans t1 (fun _ _ e => e)).trans t2 (fun _ _ e => e.elim), ?_⟩
  · injection hq with hq
    subst hq
    exact ⟨by omega, fun e => by have := hw1.rlt _ e; omega⟩
  · rcases hf1 with e | ⟨q, e, hq⟩
    · exact .inl e
    · exact .inr ⟨q, e, by omega⟩

theorem write_int (g : Nat) (r : Option Nat) (l : List UInt8) (x : ItemV) (w : World) (h : WAt w g r l) (hx : x.ok) (hsm : l.length ≤ 900000) (hK : x.kind = 1) :
    Calls Try.prog 45 #[.pointer (some ⟨g, 0, none⟩), .agg #[.int .i64 x.kind, .int .u64 x.num, .int .i64 x.int, .bool x.flag, .string x.text]] w (WIt w g r (l ++ encItem x) (encItem x)) := by
  obtain ⟨K, num, int, flag, text⟩ := x
  obtain ⟨x1, x2, x3, x4⟩ := hx
  simp only at x1 x2 x3 x4 hK ⊢
  subst hK
  have hwl := h.lt
  have hrl := h.rlt
  have hr0 : r ≠ some (w.heap.size + 1) := fun e => by have := hrl _ e; omega
  have HTl := Lib.hid (((Touch.refl (fun _ => False) w).alloc (.cells #[.int .i64 1, .int .u64 num, .int .i64 int, .bool flag, .string text] 92)).alloc (.cells #[I64 int] 2))
  have hrb : r ≠ some w.heap.size := fun e => by have := hrl _ e; omega
  have HB := Lib.hid ((Blk.new w 92 #[.int .i64 1, .int .u64 num, .int .i64 int, .bool flag, .string text]).alloc (.cells #[I64 int] 2))
  have HW := Lib.hid (h.touch HTl.out (fun e => e) (fun _ _ e => e))
  
  clear h hrl
  go_enter Try.func45, Try.ntmps45
  go_wp2_with (first
    | (go_at_call 40
       go_must (refine (wint_any g r _ (fun k => k = w.heap.size + 1) _ 1 [int] _ (by exact HW.out) (by exact Rd.litAt _ _ (by simp) 2 [I64 int] 1 rfl) (fun k hk => ⟨by omega, by rw [hk]; exact hr0⟩) (by simp; omega) (by simp; omega)).mono ?_)
       rintro e w1 ⟨rfl, h1⟩
       have H1 := Lib.hid h1
       obtain ⟨r1, hw1, t1, hf1⟩ := h1
       have hbx := t1.blk HB.out (fun e => by rcases e with e | e; exact (by omega); exact hrb e)
       have hq := hbx.cell 2
       simp at hq
       clear hw1 t1 hf1 hbx)
    | (go_at_call 48
       go_must (refine (fint_any int _ x2 x3).mono ?_)
       rintro e w2 h2
       have H2 := Lib.hid (WIt.intro HTl.out H1.out h2)
       obtain ⟨v, k, rfl, h2a, h2b, h2c⟩ := h2
       clear h2a h2b h2c))
  go_ret
  have := H2.out
  simpa [encItem, encIs, encFs, encs] using this

theorem write_flag (g : Nat) (r : Option Nat) (l : List UInt8) (x : ItemV) (w : World) (h : WAt w g r l) (hx : x.ok) (hsm : l.length ≤ 900000) (hK : x.kind = 2) :
    Calls Try.prog 45 #[.pointer (some ⟨g, 0, none⟩), .agg #[.int .i64 x.kind, .int .u64 x.num, .int .i64 x.int, .bool x.flag, .string x.text]] w (WIt w g r (l ++ encItem x) (encItem x)) := by
  obtain ⟨K, num, int, flag, text⟩ := x
  obtain ⟨x1, x2, x3, x4⟩ := hx
  simp only at x1 x2 x3 x4 hK ⊢
  subst hK
  have hwl := h.lt
  have hrl := h.rlt
  have hr0 : r ≠ some (w.heap.size + 1) := fun e => by have := hrl _ e; omega
  have HTl := Lib.hid (((Touch.refl (fun _ => False) w).alloc (.cells #[.int .i64 2, .int .u64 num, .int .i64 int, .bool flag, .string text] 92)).alloc (.cells #[F8 flag] 4))
  have hrb : r ≠ some w.heap.size := fun e => by have := hrl _ e; omega
  have HB := Lib.hid ((Blk.new w 92 #[.int .i64 2, .int .u64 num, .int .i64 int, .bool flag, .string text]).alloc (.cells #[F8 flag] 4))
  have HW := Lib.hid (h.touch HTl.out (fun e => e) (fun _ _ e => e))
  
  clear h hrl
  go_enter Try.func45, Try.ntmps45
  go_wp2_with (first
    | (go_at_call 80
       go_must (refine (wflag_any g r _ (fun k => k = w.heap.size + 1) _ 1 [flag] _ (by exact HW.out) (by exact Rd.litAt _ _ (by simp) 4 [F8 flag] 1 rfl) (fun k hk => ⟨by omega, by rw [hk]; exact hr0⟩) (by simp; omega)).mono ?_)
       rintro e w1 ⟨rfl, h1⟩
       have H1 := Lib.hid h1
       obtain ⟨r1, hw1, t1, hf1⟩ := h1
       have hbx := t1.blk HB.out (fun e => by rcases e with e | e; exact (by omega); exact hrb e)
       have hq := hbx.cell 3
       simp at hq
       clear hw1 t1 hf1 hbx)
    | (go_at_call 81
       go_must (refine (fflag_any flag _).mono ?_)
       rintro e w2 h2
       have H2 := Lib.hid (WIt.intro HTl.out H1.out h2)
       obtain ⟨v, k, rfl, h2a, h2b, h2c⟩ := h2
       clear h2a h2b h2c))
  go_ret
  have := H2.out
  simpa [encItem, encIs, encFs, encs] using this

theorem write_text (g : Nat) (r : Option Nat) (l : List UInt8) (x : ItemV) (w : World) (h : WAt w g r l) (hx : x.ok) (hsm : l.length ≤ 900000) (hK : x.kind = 3) :
    Calls Try.prog 45 #[.pointer (some ⟨g, 0, none⟩), .agg #[.int .i64 x.kind, .int .u64 x.num, .int .i64 x.int, .bool x.flag, .string x.text]] w (WIt w g r (l ++ encItem x) (encItem x)) := by
  obtain ⟨K, num, int, flag, text⟩ := x
  obtain ⟨x1, x2, x3, x4⟩ := hx
  simp only at x1 x2 x3 x4 hK ⊢
  subst hK
  have hwl := h.lt
  have hrl := h.rlt
  have hr0 : r ≠ some (w.heap.size + 1) := fun e => by have := hrl _ e; omega
  have HTl := Lib.hid (((Touch.refl (fun _ => False) w).alloc (.cells #[.int .i64 3, .int .u64 num, .int .i64 int, .bool flag, .string text] 92)))
  have hrb : r ≠ some w.heap.size := fun e => by have := hrl _ e; omega
  have HB := Lib.hid ((Blk.new w 92 #[.int .i64 3, .int .u64 num, .int .i64 int, .bool flag, .string text]))
  have HW := Lib.hid (h.touch HTl.out (fun e => e) (fun _ _ e => e))
  
  clear h hrl
  go_enter Try.func45, Try.ntmps45
  go_wp2_with (first
    | (go_at_call 82
       go_must (refine (wtext_any g r _ text _ (by exact HW.out) (by omega)).mono ?_)
       rintro e w1 ⟨rfl, h1⟩
       have H1 := Lib.hid h1
       obtain ⟨r1, hw1, t1, hf1⟩ := h1
       have hbx := t1.blk HB.out (fun e => by rcases e with e | e; exact (by omega); exact hrb e)
       have hq := hbx.cell 4
       simp at hq
       clear hw1 t1 hf1 hbx)
    | (go_at_call 83
       go_must (refine (ftext_any text _ (by omega)).mono ?_)
       rintro e w2 h2
       have H2 := Lib.hid (WIt.intro HTl.out H1.out h2)
       obtain ⟨v, k, rfl, h2a, h2b, h2c⟩ := h2
       clear h2a h2b h2c))
  go_ret
  have := H2.out
  simpa [encItem, encIs, encFs, encs] using this

theorem write_num (g : Nat) (r : Option Nat) (l : List UInt8) (x : ItemV) (w : World) (h : WAt w g r l) (hx : x.ok) (hsm : l.length ≤ 900000) (hK : x.kind ≠ 1 ∧ x.kind ≠ 2 ∧ x.kind ≠ 3 ∧ x.kind ≠ 4) :
    Calls Try.prog 45 #[.pointer (some ⟨g, 0, none⟩), .agg #[.int .i64 x.kind, .int .u64 x.num, .int .i64 x.int, .bool x.flag, .string x.text]] w (WIt w g r (l ++ encItem x) (encItem x)) := by
  obtain ⟨K, num, int, flag, text⟩ := x
  obtain ⟨x1, x2, x3, x4⟩ := hx
  simp only at x1 x2 x3 x4 hK ⊢
  have hk1 : (K == 1) = false := by simp [hK]
  have hk2 : (K == 2) = false := by simp [hK]
  have hk3 : (K == 3) = false := by simp [hK]
  have hk4 : (K == 4) = false := by simp [hK]
  have hwl := h.lt
  have hrl := h.rlt
  have hr0 : r ≠ some (w.heap.size + 1) := fun e => by have := hrl _ e; omega
  have HTl := Lib.hid (((Touch.refl (fun _ => False) w).alloc (.cells #[.int .i64 K, .int .u64 num, .int .i64 int, .bool flag, .string text] 92)).alloc (.cells #[U64 num] 29))
  have hrb : r ≠ some w.heap.size := fun e => by have := hrl _ e; omega
  have HB := Lib.hid ((Blk.new w 92 #[.int .i64 K, .int .u64 num, .int .i64 int, .bool flag, .string text]).alloc (.cells #[U64 num] 29))
  have HW := Lib.hid (h.touch HTl.out (fun e => e) (fun _ _ e => e))
  have HK := Lib.hid hK
  clear hK
  clear h hrl
  go_enter Try.func45, Try.ntmps45
  go_wp2_with (first
    | (go_at_call 39
       go_must (refine (wnum_any g r _ (fun k => k = w.heap.size + 1) _ 1 [num] _ (by exact HW.out) (by exact Rd.litAt _ _ (by simp) 29 [U64 num] 1 rfl) (fun k hk => ⟨by omega, by rw [hk]; exact hr0⟩) (by simpa using x1) (by simp; omega)).mono ?_)
       rintro e w1 ⟨rfl, h1⟩
       have H1 := Lib.hid h1
       obtain ⟨r1, hw1, t1, hf1⟩ := h1
       have hbx := t1.blk HB.out (fun e => by rcases e with e | e; exact (by omega); exact hrb e)
       have hq := hbx.cell 1
       simp at hq
       clear hw1 t1 hf1 hbx)
    | (go_at_call 47
       go_must (refine (fnum_any num _ x1).mono ?_)
       rintro e w2 h2
       have H2 := Lib.hid (WIt.intro HTl.out H1.out h2)
       obtain ⟨v, k, rfl, h2a, h2b, h2c⟩ := h2
       clear h2a h2b h2c))
  go_ret
  have := H2.out
  have hK := HK.out
  simpa [encItem, hK, encs] using this

theorem write_raw (g : Nat) (r : Option Nat) (l : List UInt8) (x : ItemV) (w : World) (h : WAt w g r l) (hx : x.ok) (hsm : l.length ≤ 900000) (hK : x.kind = 4) :
    Calls Try.prog 45 #[.pointer (some ⟨g, 0, none⟩), .agg #[.int .i64 x.kind, .int .u64 x.num, .int .i64 x.int, .bool x.flag, .string x.text]] w (WIt w g r (l ++ encItem x) (encItem x)) := by
  obtain ⟨K, num, int, flag, text⟩ := x
  obtain ⟨x1, x2, x3, x4⟩ := hx
  simp only at x1 x2 x3 x4 hK ⊢
  subst hK
  have hwl := h.lt
  have hrl := h.rlt
  have hss : text.data.toList.length = text.size := Array.length_toList
  have HTl := Lib.hid ((Touch.refl (fun _ => False) w).alloc (.cells #[.int .i64 4, .int .u64 num, .int .i64 int, .bool flag, .string text] 92))
  have hrb : r ≠ some w.heap.size := fun e => by have := hrl _ e; omega
  have HB := Lib.hid (Blk.new w 92 #[.int .i64 4, .int .u64 num, .int .i64 int, .bool flag, .string text])
  have HW := Lib.hid (h.touch HTl.out (fun e => e) (fun _ _ e => e))
  obtain ⟨c2, o2, hcv, hrd, hc2, -⟩ := conv_str (w.alloc (.cells #[.int .i64 4, .int .u64 num, .int .i64 int, .bool flag, .string text] 92)) text (w.heap.size + 1) (by simp) (by omega)
  have HRD := Lib.hid hrd
  have HTo := Lib.hid (((Touch.refl (fun _ => False) (w.alloc (.cells #[.int .i64 4, .int .u64 num, .int .i64 int, .bool flag, .string text] 92))).alloc o2).drew)
  clear h hrl hrd
  go_enter Try.func45, Try.ntmps45
  go_wp2_with (
    go_at_call 84
    go_must (refine (wraw_any g r _ _ _ _ _ text.data.toList _ (by exact HW.out.touch HTo.out (fun e => e) (fun _ _ e => e)) (by exact HRD.out) (fun e => by cases e) (by rw [hss]; omega)).mono ?_)
    rintro e w1 ⟨rfl, h1⟩
    obtain ⟨r1, hw1, t1, hf1⟩ := h1
    have hbx := t1.blk (HTo.out.blk HB.out (fun e => e)) (fun e => by rcases e with e | e; exact (by omega); exact hrb e)
    have hq := hbx.cell 4
    simp at hq
    obtain ⟨c3, o3, hcv3, hrd3, hc3, hm3⟩ := conv_str w1 text _ rfl (by omega)
    have H1 := Lib.hid (And.intro hw1 (And.intro t1 (And.intro hf1 hrd3)))
    clear hw1 t1 hf1 hbx hrd3)
  go_ret
  obtain ⟨hw1, t1, hf1, hrd3⟩ := H1.out
  have s1 := t1.size
  have s0 := (HTl.out.trans HTo.out (fun _ _ e => e)).size
  have he : encItem ⟨4, num, int, flag, text⟩ = text.data.toList := by simp [encItem]
  have t3 := ((Touch.refl (fun _ => False) w1).alloc o3).drew
  rw [he]
  refine ⟨some ⟨w1.heap.size, 0, none⟩, c3, r1, by rw [hss]; rfl, (fun e => by cases e), by rw [hss]; exact hc3, hm3, by rw [hss]; exact hrd3.mono (fun q hq => ⟨by omega, fun e => by have := hw1.rlt _ e; omega⟩), hw1.touch t3 (fun e => e) (fun _ _ e => e),
    ((((HTl.out.trans HTo.out (fun _ _ e => e)).mono (fun _ _ e => e.elim)).trans t1 (fun _ _ e => e))).trans t3 (fun _ _ e => e.elim), ?_⟩
  · rcases hf1 with e | ⟨q, e, hq⟩
    · exact .inl e
    · exact .inr ⟨q, e, by simp at hq; omega⟩

theorem write_any (g : Nat) (r : Option Nat) (l : List UInt8) (x : ItemV) (w : World) (h : WAt w g r l) (hx : x.ok) (hsm : l.length ≤ 900000) :
    Calls Try.prog 45 #[.pointer (some ⟨g, 0, none⟩), .agg #[.int .i64 x.kind, .int .u64 x.num, .int .i64 x.int, .bool x.flag, .string x.text]] w (WIt w g r (l ++ encItem x) (encItem x)) := by
  by_cases h1 : x.kind = 1
  · exact write_int g r l x w h hx hsm h1
  by_cases h2 : x.kind = 2
  · exact write_flag g r l x w h hx hsm h2
  by_cases h3 : x.kind = 3
  · exact write_text g r l x w h hx hsm h3
  by_cases h4 : x.kind = 4
  · exact write_raw g r l x w h hx hsm h4
  exact write_num g r l x w h hx hsm ⟨h1, h2, h3, h4⟩
end Go.Proofs.Ytomapfklpoijbaa
