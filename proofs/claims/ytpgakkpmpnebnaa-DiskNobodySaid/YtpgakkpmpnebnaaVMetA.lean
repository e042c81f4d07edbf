/- What meter's counts do: at, Load, CompareAndSwap, New, Len. -/
import Derived.Test.YtpgakkpmpnebnaaVQuillY
import Derived.Test.YtpgakkpmpnebnaaPlan
import Derived.Laws.LoneSync
import Derived.WalkMore
namespace Go.Proofs.Ytpgakkpmpnebnaa
open Go.RowKit
set_option maxHeartbeats 4000000
set_option maxRecDepth 100000
set_option linter.unusedVariables false

def mcells (cs : List Nat) : List Value := (cs ++ List.replicate (16 - cs.length) 0).map U64 ++ [I64 cs.length]
/-- The meter at block g has the counts cs. -/
def MAt (w : World) (g : Nat) (cs : List Nat) : Prop := cs.length ≤ 16 ∧ (∀ c ∈ cs, c ≤ 4611686018427387904) ∧ Blk w g 167 (mcells cs).toArray
theorem mcells_at (cs : List Nat) (i : Nat) (hi : i < cs.length) : (mcells cs)[i]? = some (U64 (cs.getD i 0)) := by
  rw [mcells, List.getElem?_append_left (by simp; omega), List.map_append, List.getElem?_append_left (by simpa using hi)]
  simp [List.getD, List.getElem?_eq_getElem hi]
theorem mcells_n (cs : List Nat) (h : cs.length ≤ 16) : (mcells cs)[16]? = some (I64 cs.length) := by
  have hl : ((cs ++ List.replicate (16 - cs.length) 0).map U64).length = 16 := by
    rw [List.length_map, List.length_append, List.length_replicate]; omega
  rw [mcells, List.getElem?_append_right (by omega), hl]; rfl
theorem mcells_set (cs : List Nat) (i v : Nat) (hi : i < cs.length) : (mcells cs).set i (U64 v) = mcells (cs.set i v) := by
  rw [mcells, mcells, List.set_append_left _ _ (by simp; omega), List.map_append, List.set_append_left _ _ (by simpa using hi), List.length_set, List.map_append]
  congr 2
  rw [List.map_set]
theorem MAt.cell {w : World} {g : Nat} {cs : List Nat} (h : MAt w g cs) (i : Nat) (hi : i < cs.length) : w.cell? ⟨g, i, none⟩ = some (.int .u64 (cs.getD i 0 : Nat)) := by
  rw [h.2.2.cell, List.getElem?_toArray, mcells_at cs i hi]; rfl
theorem MAt.cellN {w : World} {g : Nat} {cs : List Nat} (h : MAt w g cs) : w.cell? ⟨g, 16, none⟩ = some (.int .i64 (cs.length : Nat)) := by
  rw [h.2.2.cell, List.getElem?_toArray, mcells_n cs h.1]; rfl
theorem MAt.touch {w w' : World} {g : Nat} {cs : List Nat} {S : Nat → Prop} (h : MAt w g cs) (ht : Touch S w w') (hg : ¬ S g) : MAt w' g cs := ⟨h.1, h.2.1, ht.blk h.2.2 hg⟩
theorem MAt.set {w : World} {g : Nat} {cs : List Nat} (h : MAt w g cs) (i v : Nat) (hi : i < cs.length) (hv : v ≤ 4611686018427387904) : MAt (w.setCell ⟨g, i, none⟩ (.int .u64 (v : Nat))) g (cs.set i v) := by
  refine ⟨by simpa using h.1, ?_, ?_⟩
  · intro c hc
    rcases List.mem_or_eq_of_mem_set hc with hc | hc
    · exact h.2.1 c hc
    · omega
  · have := h.2.2.set_ i (U64 v)
    rw [List.setIfInBounds_toArray, mcells_set cs i v hi] at this
    exact this
theorem MAt.le {w : World} {g : Nat} {cs : List Nat} (h : MAt w g cs) (i : Nat) : cs.getD i 0 ≤ 4611686018427387904 := by
  rcases Nat.lt_or_ge i cs.length with hi | hi
  · exact h.2.1 _ (by simp [List.getD, List.getElem?_eq_getElem hi])
  · simp [List.getD, List.getElem?_eq_none hi]

theorem load_any (g i : Nat) (c : Nat) (w : World) (h : w.cell? ⟨g, i, none⟩ = some (.int .u64 (c : Nat))) :
    Calls Try.prog 117 #[.pointer (some ⟨g, i, none⟩)] w fun e w' => e = .returned (.int .u64 (c : Nat)) ∧ w = w' := by
  have hl := run_call_load (P := Try.prog) Try.func130 (by kernel_rfl) (by kernel_rfl) (by kernel_rfl) .u64 (by kernel_rfl) h
  go_enter Try.func117, Try.ntmps117
  go_wp2
  go_ret
  exact ⟨rfl, rfl⟩
theorem cas_hit (g i : Nat) (a b : Nat) (w : World) (h : w.cell? ⟨g, i, none⟩ = some (.int .u64 (a : Nat))) (hz : w.frozen? ⟨g, i, none⟩ = false) :
    Calls Try.prog 165 #[.pointer (some ⟨g, i, none⟩), .int .u64 (a : Nat), .int .u64 (b : Nat)] w fun e w' => e = .returned (.bool true) ∧ w.setCell ⟨g, i, none⟩ (.int .u64 (b : Nat)) = w' := by
  have hl := run_call_cas_hit (P := Try.prog) Try.func180 (by kernel_rfl) (by kernel_rfl) (by kernel_rfl) .u64 (by kernel_rfl) (y := (b : Nat)) h hz
  go_enter Try.func165, Try.ntmps165
  go_wp2
  go_ret
  exact ⟨rfl, rfl⟩
theorem cas_miss (g i : Nat) (c a b : Nat) (w : World) (h : w.cell? ⟨g, i, none⟩ = some (.int .u64 (c : Nat))) (hz : w.frozen? ⟨g, i, none⟩ = false) (hne : c ≠ a) :
    Calls Try.prog 165 #[.pointer (some ⟨g, i, none⟩), .int .u64 (a : Nat), .int .u64 (b : Nat)] w fun e w' => e = .returned (.bool false) ∧ w = w' := by
  have hl := run_call_cas_miss (P := Try.prog) Try.func180 (by kernel_rfl) (by kernel_rfl) (by kernel_rfl) .u64 (by kernel_rfl) (o := (a : Nat)) (y := (b : Nat)) h hz (by omega)
  go_enter Try.func165, Try.ntmps165
  go_wp2
  go_ret
  exact ⟨rfl, rfl⟩

theorem mlen_any (g : Nat) (cs : List Nat) (w : World) (h : MAt w g cs) :
    Calls Try.prog 129 #[.pointer (some ⟨g, 0, none⟩)] w fun e w' => e = .returned (.int .i64 (cs.length : Nat)) ∧ w = w' := by
  have h16 := h.cellN
  clear h
  go_enter Try.func129, Try.ntmps129
  go_wp2
  go_ret
  exact ⟨rfl, rfl⟩
theorem at_ok (g i : Nat) (cs : List Nat) (w : World) (h : MAt w g cs) (hi : i < cs.length) :
    Calls Try.prog 116 #[.pointer (some ⟨g, 0, none⟩), .int .i64 (i : Nat)] w fun e w' => e = .returned (.tuple #[.pointer (some ⟨g, i, none⟩), .int .i64 0]) ∧ w = w' := by
  have h16 := h.cellN
  have hn := h.1
  have h0 : ((cs.length : Int) == 0) = false := by simp; rintro rfl; simp at hi
  clear h
  go_enter Try.func116, Try.ntmps116
  go_wp2
  go_ret2
  exact ⟨rfl, rfl⟩
theorem at_out (g : Nat) (i : Int) (cs : List Nat) (w : World) (h : MAt w g cs) (h0 : 0 < cs.length) (hi : i < 0 ∨ (cs.length : Int) ≤ i) :
    Calls Try.prog 116 #[.pointer (some ⟨g, 0, none⟩), .int .i64 i] w fun e w' => e = .returned (.tuple #[.pointer none, .int .i64 2]) ∧ w = w' := by
  have h16 := h.cellN
  have hn := h.1
  have h0 : ((cs.length : Int) == 0) = false := by simp; rintro rfl; simp at h0
  clear h
  by_cases h1 : i < 0
  · clear hi
    go_enter Try.func116, Try.ntmps116
    go_wp2
    go_ret2
    exact ⟨rfl, rfl⟩
  · have h2 : (cs.length : Int) ≤ i := by omega
    clear hi
    go_enter Try.func116, Try.ntmps116
    go_wp2
    go_ret2
    exact ⟨rfl, rfl⟩
theorem at_none (g : Nat) (i : Int) (w : World) (h : MAt w g []) :
    Calls Try.prog 116 #[.pointer (some ⟨g, 0, none⟩), .int .i64 i] w fun e w' => e = .returned (.tuple #[.pointer none, .int .i64 1]) ∧ w = w' := by
  have h16 := h.cellN
  clear h
  simp only [List.length_nil] at h16
  go_enter Try.func116, Try.ntmps116
  go_wp2
  go_ret2
  exact ⟨rfl, rfl⟩
theorem at_nil (i : Int) (w : World) :
    Calls Try.prog 116 #[.pointer none, .int .i64 i] w fun e w' => e = .returned (.tuple #[.pointer none, .int .i64 1]) ∧ w = w' := by
  go_enter Try.func116, Try.ntmps116
  go_wp2
  go_ret2
  exact ⟨rfl, rfl⟩
theorem mnew_ok (n : Nat) (w : World) (h1 : 1 ≤ n) (h2 : n ≤ 16) :
    Calls Try.prog 75 #[.int .i64 (n : Nat)] w fun e w' => e = .returned (.pointer (some ⟨w.heap.size, 0, none⟩)) ∧ MAt w' w.heap.size (List.replicate n 0) ∧ Touch (fun _ => False) w w' := by
  have h1' : ¬ (n : Int) < 1 := by omega
  have h2' : ¬ 16 < (n : Int) := by omega
  have hc : mcells (List.replicate n 0) = List.replicate 16 (U64 0) ++ [I64 n] := by
    rw [mcells, List.length_replicate, List.replicate_append_replicate, show n + (16 - n) = 16 by omega, List.map_replicate]
  go_enter Try.func75, Try.ntmps75
  go_wp2
  go_ret
  refine ⟨rfl, ⟨by simpa using h2, by intro c hc; rw [List.mem_replicate] at hc; omega, ?_⟩, (Touch.refl _ _).alloc _⟩
  rw [hc]
  exact Blk.new w 167 _
theorem mnew_no (n : Int) (w : World) (h : n < 1 ∨ 16 < n) :
    Calls Try.prog 75 #[.int .i64 n] w fun e w' => e = .returned (.pointer none) ∧ w = w' := by
  by_cases h1 : n < 1
  · clear h
    go_enter Try.func75, Try.ntmps75
    go_wp2
    go_ret
    exact ⟨rfl, rfl⟩
  · have h2 : 16 < n := by omega
    clear h
    go_enter Try.func75, Try.ntmps75
    go_wp2
    go_ret
    exact ⟨rfl, rfl⟩
theorem room_any (x : Nat) (w : World) :
    Calls Try.prog 133 #[.int .u64 (x : Nat)] w fun e w' => e = .returned (.tuple #[.int .u64 ((if x ≤ 4611686018427387904 then x else 0 : Nat) : Int), .int .i64 (if x ≤ 4611686018427387904 then 0 else 10)]) ∧ w = w' := by
  by_cases h : x ≤ 4611686018427387904
  · have h' : ¬ 4611686018427387904 < (x : Int) := by omega
    rw [if_pos h, if_pos h]
    clear h
    go_enter Try.func133, Try.ntmps133
    go_wp2
    go_ret2
    exact ⟨rfl, rfl⟩
  · have h' : 4611686018427387904 < (x : Int) := by omega
    rw [if_neg h, if_neg h]
    clear h
    go_enter Try.func133, Try.ntmps133
    go_wp2
    go_ret2
    exact ⟨rfl, rfl⟩
end Go.Proofs.Ytpgakkpmpnebnaa
