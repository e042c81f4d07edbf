/- quill's Reader, on: bytes.Clone; Open; Num, Int, Flag, Raw, Text, End. -/
import Derived.Test.YtmgmjehebbggaaaQuillR1
import Derived.Deep.AppendLies
import Derived.Laws.OwnMore
import Derived.Deep.DeepMust
namespace Go.Proofs.Ytmgmjehebbggaaa
open Go.RowKit
set_option maxHeartbeats 1000000
set_option maxRecDepth 100000

theorem info8 : (Try.prog.info? 5).map (fun i => (i.zero, i.size, i.bytes)) = some (some (.int .u8 0), 1, 1) := by kernel_rfl

theorem Rd.add {w : World} {F : Nat → Prop} {ad : Addr} {n : Nat} {xs : List Value} (h : Rd w F (some ad) n xs) : ∀ j u, xs[j]? = some u → w.cell? (ad.add j) = some u := by
  intro j u hj
  have hn : 0 < n := by
    rw [← h.1]
    have := (List.getElem?_eq_some_iff.1 hj).1
    omega
  obtain ⟨g, off, e, _, _, hc⟩ := h.2 hn
  injection e with e
  subst e
  have := hc j u hj
  have e : (⟨g, off, none⟩ : Addr).add j = ⟨g, off + j, none⟩ := by unfold Addr.add; split <;> simp_all
  rw [e]; exact this

@[go_sem] theorem eql_bytes_nil (w : World) (a : Option Addr) (n c : Nat) : (binOp .eql 52 (.slice a n c) (.slice none 0 0)).run Try.prog w = .ok (.bool a.isNone) w :=
  Lib.run_eql_slice_nil w 52 5 a n c 0 0 Try.underlying52

/-- A new slice that reads as xs; nothing else has turned. -/
def NewSl (w : World) (xs : List Value) (e : Ending) (w' : World) : Prop :=
  ∃ A c, e = .returned (.slice A xs.length c) ∧ xs.length ≤ c ∧ c ≤ maxLen ∧ Rd w' (fun k => w.heap.size ≤ k) A xs.length xs ∧ Touch (fun _ => False) w w'

theorem B8_one (l : List UInt8) : ∀ u ∈ l.map B8, u.oneCell' = true := by
  intro u hu
  obtain ⟨c, _, rfl⟩ := List.mem_map.1 hu
  rfl

theorem clone_any (F : Nat → Prop) (A : Option Addr) (n c : Nat) (l : List UInt8) (w : World) (h : Rd w F A n (l.map B8)) (hn : n ≤ 140737488355328) :
    Calls Try.prog 51 #[.slice A n c] w (NewSl w (l.map B8)) := by
  have hl := h.1
  rcases A with _ | ad
  · have h0 : n = 0 := by
      rcases Nat.eq_zero_or_pos n with h0 | h0
      · exact h0
      · obtain ⟨_, _, e, _⟩ := h.2 h0; cases e
    subst h0
    have hx : l.map B8 = [] := List.eq_nil_of_length_eq_zero hl
    rw [hx]
    clear h hl hx
    go_enter Try.func51, Try.ntmps51
    go_wp2
    go_ret
    exact ⟨none, 0, rfl, Nat.le_refl _, by simp, Rd.nil _ _ _, Touch.refl _ _⟩
  · have hadd := Lib.hid h.add
    have Hn := Lib.hid (show ∀ j u, (l.map B8)[j]? = some u → (w.alloc (.cells #[] 5)).cell? (ad.add j) = some u from fun j u hj => (World.cell?_alloc_lt _ _ _ (World.block_lt_of_cell? w _ (h.add j u hj))).trans (h.add j u hj))
    have h1 := Lib.hid (B8_one l)
    obtain ⟨i0, hi, hz0, hz1, hz2⟩ := info_parts info8
    have hown := World.ownsRow_lit w (base := w.heap.size) (e := 5) (size := 1) #[] 0 (Nat.le_refl _) (by simp) (by simp)
    subst hl
    clear h
    generalize l.map B8 = xs at *
    go_enter Try.func51, Try.ntmps51
    go_wp2_with (at_builtin; go_must (refine wpList_append_own _ rfl _ _ 52 rfl w.heap.size 5 i0 (.int .u8 0) 1 1 Try.underlying52 hi hz0 hz1 hz2 rfl (by decide) _ _ _ rfl hown ad xs.length c xs rfl (by simp) Hn.out h1.out (by simp only [maxLen]; omega) (by omega) (by simp) ?_); intro v' w1 hown1 hg1 _)
    go_ret
    have hz : w1.ownsRow w.heap.size 5 1 v' xs.length xs := by simpa using hown1
    obtain ⟨A', c', hv, hn1, hc1, hr⟩ := Rd.of_own hz
    refine ⟨A', c', by rw [← hv]; rfl, hn1, hc1, hr.mono (fun k hk => (hz.lt k hk).1), ?_⟩
    refine ((Touch.refl _ w).alloc _).trans (Touch.of_grown hg1) (fun k hk e => ?_)
    injection e with e
    simp at e
    omega

theorem open_any (A : Option Addr) (n c : Nat) (w : World) :
    Calls Try.prog 18 #[.slice A n c] w fun e w' => e = .returned (.pointer (some ⟨w.heap.size, 0, none⟩)) ∧ w.alloc (.cells #[.slice A n c, .bool false] 87) = w' := by
  go_enter Try.func18, Try.ntmps18
  go_wp2
  go_ret
  simp

/-- What a read hands back: the value v; the reader is left as (l, bad). -/
def RPost (v : Value) (l : List UInt8) (bad : Bool) (w : World) (g : Nat) (F : Nat → Prop) (e : Ending) (w' : World) : Prop :=
  e = .returned v ∧ RdAt w' g F l bad ∧ Touch (fun k => k = g) w w'

theorem num_any (g : Nat) (F : Nat → Prop) (bad : Bool) (most : Nat) (l : List UInt8) (w : World) (h : RdAt w g F l bad) :
    Calls Try.prog 37 #[.pointer (some ⟨g, 0, none⟩), .int .u64 most] w
      (RPost (.int .u64 ((rdNum most false bad l).val : Int)) (rdNum most false bad l).left (rdNum most false bad l).bad w g F) := by
  have H := number_any g F bad most false l w h
  generalize rdNum most false bad l = R at *
  have H := Lib.hid H
  clear h
  go_enter Try.func37, Try.ntmps37
  go_wp2_with (go_at_call 55; refine H.out.mono ?_; rintro e w' ⟨rfl, h1, h2⟩)
  go_ret
  exact ⟨rfl, h1, h2⟩

def rdInt (bad : Bool) (l : List UInt8) : Int := if (rdNum 9223372036854775807 true bad l).mark then -1 - ((rdNum 9223372036854775807 true bad l).val : Int) else ((rdNum 9223372036854775807 true bad l).val : Int)

theorem rdNum_le (most : Nat) (m bad : Bool) (l : List UInt8) : (rdNum most m bad l).val ≤ most := by
  unfold rdNum
  split
  · simp [rdFail]
  · split
    · split
      · assumption
      · simp [rdFail]
    · simp [rdFail]

theorem int_any (g : Nat) (F : Nat → Prop) (bad : Bool) (l : List UInt8) (w : World) (h : RdAt w g F l bad) :
    Calls Try.prog 56 #[.pointer (some ⟨g, 0, none⟩)] w
      (RPost (.int .i64 (rdInt bad l)) (rdNum 9223372036854775807 true bad l).left (rdNum 9223372036854775807 true bad l).bad w g F) := by
  have H := number_any g F bad 9223372036854775807 true l w h
  have hle := rdNum_le 9223372036854775807 true bad l
  unfold rdInt
  generalize rdNum 9223372036854775807 true bad l = R at *
  have H := Lib.hid H
  clear h
  obtain ⟨x, mk, l', b'⟩ := R
  simp only at hle ⊢
  cases mk
  · go_enter Try.func56, Try.ntmps56
    go_wp2_with (go_at_call 55; refine H.out.mono ?_; rintro e w' ⟨rfl, h1, h2⟩)
    go_ret
    exact ⟨by simp, h1, h2⟩
  · go_enter Try.func56, Try.ntmps56
    go_wp2_with (go_at_call 55; refine H.out.mono ?_; rintro e w' ⟨rfl, h1, h2⟩)
    go_ret
    exact ⟨by simp, h1, h2⟩

theorem flag_any (g : Nat) (F : Nat → Prop) (bad : Bool) (l : List UInt8) (w : World) (h : RdAt w g F l bad) :
    Calls Try.prog 57 #[.pointer (some ⟨g, 0, none⟩)] w
      (RPost (.bool ((rdNum 1 false bad l).val == 1)) (rdNum 1 false bad l).left (rdNum 1 false bad l).bad w g F) := by
  have H := num_any g F bad 1 l w h
  generalize rdNum 1 false bad l = R at *
  have H := Lib.hid H
  clear h
  go_enter Try.func57, Try.ntmps57
  go_wp2_with (go_at_call 37; refine H.out.mono ?_; rintro e w' ⟨rfl, h1, h2⟩)
  go_ret
  exact ⟨ret_bool (by rw [Bool.eq_iff_iff]; simp; omega), h1, h2⟩
end Go.Proofs.Ytmgmjehebbggaaa
