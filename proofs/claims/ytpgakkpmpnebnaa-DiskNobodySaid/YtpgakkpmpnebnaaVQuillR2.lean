/- What the calls of quill's Reader do: a walk each. quill's Reader, on: number where the bytes are a number's; Num, Int, Flag. quill's Reader, on: bytes.Clone; Open; Num, Int, Flag, Raw, Text, End. -/
import Derived.Test.YtpgakkpmpnebnaaMem
import Derived.Test.YtpgakkpmpnebnaaProg
import Derived.BigQuiet
import Derived.Deep.DeepCutAuto
import Derived.Laws.BitsAllLaws
import Derived.Deep.AppendLies
import Derived.Laws.OwnMore
import Derived.Deep.DeepMust
section
namespace Go.Proofs.Ytpgakkpmpnebnaa
open Go.RowKit
set_option maxHeartbeats 4000000
set_option maxRecDepth 100000

def be (l : List UInt8) : Nat := l.foldl (fun n c => n * 256 + c.toNat) 0
structure RNum where
  val : Nat
  mark : Bool
  left : List UInt8
  bad : Bool
def rdHead (marked : Bool) (c : UInt8) : Nat := if marked then c.toNat % 128 else c.toNat
def rdMark (marked : Bool) (c : UInt8) : Bool := marked && decide (128 ≤ c.toNat)
def rdFail : RNum := ⟨0, false, [], true⟩
def rdOk (marked : Bool) (c : UInt8) (t : List UInt8) : Bool := decide (rdHead marked c ≤ 8) && decide (rdHead marked c ≤ t.length) && !(decide (0 < rdHead marked c) && t.head? == some 0)
def rdNum (most : Nat) (marked : Bool) (bad : Bool) : List UInt8 → RNum
  | [] => rdFail
  | c :: t => if rdOk marked c t then (if be (t.take (rdHead marked c)) ≤ most then ⟨be (t.take (rdHead marked c)), rdMark marked c, t.drop (rdHead marked c), bad⟩ else rdFail) else rdFail

theorem be_snoc (l : List UInt8) (x : UInt8) : be (l ++ [x]) = be l * 256 + x.toNat := by simp [be]
theorem be_from (l : List UInt8) : ∀ n : Nat, l.foldl (fun n c => n * 256 + c.toNat) n < (n + 1) * 256 ^ l.length := by
  induction l with
  | nil => intro n; simp
  | cons x l ih =>
    intro n
    rw [List.foldl_cons, List.length_cons]
    have h1 := ih (n * 256 + x.toNat)
    have hx := B8_lt x
    have h2 : (n * 256 + x.toNat + 1) * 256 ^ l.length ≤ ((n + 1) * 256) * 256 ^ l.length := Nat.mul_le_mul_right _ (by omega)
    rw [show (n + 1) * 256 ^ (l.length + 1) = ((n + 1) * 256) * 256 ^ l.length by rw [Nat.pow_succ, Nat.mul_comm (256 ^ l.length), Nat.mul_assoc]]
    omega
theorem be_lt (l : List UInt8) : be l < 256 ^ l.length := by have := be_from l 0; rw [Nat.zero_add, Nat.one_mul] at this; exact this
theorem be_take_lt (t : List UInt8) (k : Nat) (hk : k < 8) : be (t.take k) * 256 < 18446744073709551616 := by
  have h := be_lt (t.take k)
  have h2 : 256 ^ (t.take k).length ≤ 256 ^ 7 := Nat.pow_le_pow_right (by omega) (by rw [List.length_take]; omega)
  have h3 : (256 : Nat) ^ 7 = 72057594037927936 := by decide
  omega
theorem or_add (n : Nat) (x : UInt8) (hn : n * 256 < 18446744073709551616) : bits .or .u64 ((n : Int) * 256) (x.toNat : Int) = ((n * 256 + x.toNat : Nat) : Int) := by
  have hx := B8_lt x
  have e : ((n : Int) * 256) = ((n * 256 : Nat) : Int) := by omega
  rw [e, u64_or_nat _ _ hn (by omega)]
  congr 1
  have := Nat.two_pow_add_eq_or_of_lt (i := 8) (b := x.toNat) (by omega) n
  rw [show n * 256 = 2 ^ 8 * n by omega, this]
theorem take_getD (t : List UInt8) (k : Nat) (hk : k < t.length) : t.take (k + 1) = t.take k ++ [t.getD k 0] := by
  rw [List.take_succ_eq_append_getElem hk]
  simp [List.getD, List.getElem?_eq_getElem hk]
theorem rdHead_le (m : Bool) (c : UInt8) : rdHead m c ≤ 255 := by
  have := B8_lt c
  unfold rdHead; split <;> omega

end Go.Proofs.Ytpgakkpmpnebnaa
end

section
namespace Go.Proofs.Ytpgakkpmpnebnaa
open Go.RowKit
set_option maxHeartbeats 4000000
set_option maxRecDepth 100000

end Go.Proofs.Ytpgakkpmpnebnaa
end

section
namespace Go.Proofs.Ytpgakkpmpnebnaa
open Go.RowKit
set_option maxHeartbeats 1000000
set_option maxRecDepth 100000

theorem info8 : (Try.prog.info? 5).map (fun i => (i.zero, i.size, i.bytes)) = some (some (.int .u8 0), 1, 1) := by kernel_rfl

theorem Rd.add {w : World} {F : Nat → Prop} {ad : Addr} {n : Nat} {xs : List Value} (h : Rd w F (some ad) n xs) : ∀ j u, xs[j]? = some u → w.cell? (ad.add j) = some u := by
  intro j u hj
  have hn : 0 < n := by
    rw [← h.1]
    have := (List.getElem?_eq_some_iff.1 hj).1
    omega
  obtain ⟨g, off, e, _, _, hc⟩ := h.2 hn
  injection e with e
  subst e
  have := hc j u hj
  have e : (⟨g, off, none⟩ : Addr).add j = ⟨g, off + j, none⟩ := by unfold Addr.add; split <;> simp_all
  rw [e]; exact this

@[go_sem] theorem eql_bytes_nil (w : World) (a : Option Addr) (n c : Nat) : (binOp .eql 88 (.slice a n c) (.slice none 0 0)).run Try.prog w = .ok (.bool a.isNone) w :=
  Lib.run_eql_slice_nil w 88 5 a n c 0 0 Try.underlying88

/-- A new slice that reads as xs; nothing else has turned. -/
def NewSl (w : World) (xs : List Value) (e : Ending) (w' : World) : Prop :=
  ∃ A c, e = .returned (.slice A xs.length c) ∧ xs.length ≤ c ∧ c ≤ maxLen ∧ Rd w' (fun k => w.heap.size ≤ k) A xs.length xs ∧ Touch (fun _ => False) w w'

theorem B8_one (l : List UInt8) : ∀ u ∈ l.map B8, u.oneCell' = true := by
  intro u hu
  obtain ⟨c, _, rfl⟩ := List.mem_map.1 hu
  rfl

theorem clone_any (F : Nat → Prop) (A : Option Addr) (n c : Nat) (l : List UInt8) (w : World) (h : Rd w F A n (l.map B8)) (hn : n ≤ 140737488355328) :
    Calls Try.prog 91 #[.slice A n c] w (NewSl w (l.map B8)) := by
  have hl := h.1
  rcases A with _ | ad
  · have h0 : n = 0 := by
      rcases Nat.eq_zero_or_pos n with h0 | h0
      · exact h0
      · obtain ⟨_, _, e, _⟩ := h.2 h0; cases e
    subst h0
    have hx : l.map B8 = [] := List.eq_nil_of_length_eq_zero hl
    rw [hx]
    clear h hl hx
    go_enter Try.func91, Try.ntmps91
    go_wp2
    go_ret
    exact ⟨none, 0, rfl, Nat.le_refl _, by simp, Rd.nil _ _ _, Touch.refl _ _⟩
  · have hadd := Lib.hid h.add
    have Hn := Lib.hid (show ∀ j u, (l.map B8)[j]? = some u → (w.alloc (.cells #[] 5)).cell? (ad.add j) = some u from fun j u hj => (World.cell?_alloc_lt _ _ _ (World.block_lt_of_cell? w _ (h.add j u hj))).trans (h.add j u hj))
    have h1 := Lib.hid (B8_one l)
    obtain ⟨i0, hi, hz0, hz1, hz2⟩ := info_parts info8
    have hown := World.ownsRow_lit w (base := w.heap.size) (e := 5) (size := 1) #[] 0 (Nat.le_refl _) (by simp) (by simp)
    subst hl
    clear h
    generalize l.map B8 = xs at *
    go_enter Try.func91, Try.ntmps91
    go_wp2_with (at_builtin; go_must (refine wpList_append_own _ rfl _ _ 88 rfl w.heap.size 5 i0 (.int .u8 0) 1 1 Try.underlying88 hi hz0 hz1 hz2 rfl (by decide) _ _ _ rfl hown ad xs.length c xs rfl (by simp) Hn.out h1.out (by simp only [maxLen]; omega) (by omega) (by simp) ?_); intro v' w1 hown1 hg1 _)
    go_ret
    have hz : w1.ownsRow w.heap.size 5 1 v' xs.length xs := by simpa using hown1
    obtain ⟨A', c', hv, hn1, hc1, hr⟩ := Rd.of_own hz
    refine ⟨A', c', by rw [← hv]; rfl, hn1, hc1, hr.mono (fun k hk => (hz.lt k hk).1), ?_⟩
    refine ((Touch.refl _ w).alloc _).trans (Touch.of_grown hg1) (fun k hk e => ?_)
    injection e with e
    simp at e
    omega

def rdInt (bad : Bool) (l : List UInt8) : Int := if (rdNum 9223372036854775807 true bad l).mark then -1 - ((rdNum 9223372036854775807 true bad l).val : Int) else ((rdNum 9223372036854775807 true bad l).val : Int)

theorem rdNum_le (most : Nat) (m bad : Bool) (l : List UInt8) : (rdNum most m bad l).val ≤ most := by
  unfold rdNum
  split
  · simp [rdFail]
  · split
    · split
      · assumption
      · simp [rdFail]
    · simp [rdFail]

end Go.Proofs.Ytpgakkpmpnebnaa
end
