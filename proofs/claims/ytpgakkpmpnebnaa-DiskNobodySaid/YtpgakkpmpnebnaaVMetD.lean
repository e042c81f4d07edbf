/- What Swap, Add, Raise, Get, Once do. What Get, Once, All, Sum do; law05.lives. -/
import Derived.Test.YtpgakkpmpnebnaaVMetB
section
namespace Go.Proofs.Ytpgakkpmpnebnaa
open Go.RowKit
set_option maxHeartbeats 4000000
set_option maxRecDepth 100000
set_option linter.unusedVariables false

def inR (cs : List Nat) (i : Int) : Prop := 0 ≤ i ∧ i < cs.length
instance (cs : List Nat) (i : Int) : Decidable (inR cs i) := inferInstanceAs (Decidable (_ ∧ _))
abbrev OpF := Nat → Nat → Nat × Int
/-- A call by turn goes through. -/
def opG (F : OpF) (cs : List Nat) (i : Int) (x : Nat) : Prop := inR cs i ∧ (F x (cs.getD i.toNat 0)).2 = 0
instance (F : OpF) (cs : List Nat) (i : Int) (x : Nat) : Decidable (opG F cs i x) := inferInstanceAs (Decidable (_ ∧ _))
def opC (F : OpF) (cs : List Nat) (i : Int) (x : Nat) : List Nat := if opG F cs i x then cs.set i.toNat (F x (cs.getD i.toNat 0)).1 else cs
def opW (F : OpF) (cs : List Nat) (i : Int) (x : Nat) : Nat := if opG F cs i x then cs.getD i.toNat 0 else 0
def opN (F : OpF) (cs : List Nat) (i : Int) (x : Nat) : Nat := if opG F cs i x then (F x (cs.getD i.toNat 0)).1 else 0
def opE (F : OpF) (cs : List Nat) (i : Int) (x : Nat) : Int := if inR cs i then (F x (cs.getD i.toNat 0)).2 else 2
theorem swapF_le (x was : Nat) : (swapF x was).2 = 0 → (swapF x was).1 ≤ 4611686018427387904 := by
  unfold swapF; split <;> simp_all
theorem addF_le (x was : Nat) : (addF x was).2 = 0 → (addF x was).1 ≤ 4611686018427387904 := by
  unfold addF; split <;> simp_all
theorem raiseF_le (x was : Nat) (h : was ≤ 4611686018427387904) : (raiseF x was).2 = 0 → (raiseF x was).1 ≤ 4611686018427387904 := by
  unfold raiseF; split <;> simp_all <;> omega

theorem madd_any (g x : Nat) (i : Int) (cs : List Nat) (w : World) (h : MAt w g cs) (h0 : 0 < cs.length) :
    Calls Try.prog 118 #[.pointer (some ⟨g, 0, none⟩), .int .i64 i, .int .u64 x] w fun e w' => e = .returned (.tuple #[.int .u64 (opN addF cs i x : Nat), .int .i64 (opE addF cs i x)]) ∧ MAt w' g (opC addF cs i x) ∧ Touch (fun k => k = g) w w' := by
  have hgl := h.2.2.lt
  have ht : Touch (fun _ => False) w (w.alloc (.cells #[.int .u64 (x : Nat)] 24)) := (Touch.refl _ w).alloc _
  have hM := h.touch ht (fun e => e)
  have HT := Lib.hid ht
  by_cases hi : inR cs i
  · obtain ⟨k, rfl⟩ := Int.eq_ofNat_of_zero_le hi.1
    have hk : k < cs.length := by have := hi.2; omega
    have HTurn := Lib.hid (turn_add g w.heap.size x k cs _ hM hk (Blk.new w 24 #[.int .u64 (x : Nat)]))
    by_cases he : (addF x (cs.getD k 0)).2 = 0
    · have HW := Lib.hid (show opE addF cs (k : Int) x = 0 ∧ opN addF cs (k : Int) x = (addF x (cs.getD k 0)).1 ∧ opC addF cs (k : Int) x = cs.set k (addF x (cs.getD k 0)).1 from
        ⟨by rw [opE, if_pos hi, Int.toNat_natCast]; exact he, by rw [opN, if_pos ⟨hi, by rw [Int.toNat_natCast]; exact he⟩, Int.toNat_natCast], by rw [opC, if_pos ⟨hi, by rw [Int.toNat_natCast]; exact he⟩, Int.toNat_natCast]⟩)
      have HM := Lib.hid ((h.set k (addF x (cs.getD k 0)).1 hk (addF_le x _ he)).touch ((Touch.refl (fun _ => False) _).alloc (.cells #[.int .u64 (x : Nat)] 24)) (fun e => e))
      simp only [he, if_true] at HTurn
      clear h hM ht hi he
      generalize (addF x (cs.getD k 0)).1 = v at *
      generalize cs.getD k 0 = was at *
      go_enter Try.func118, Try.ntmps118
      go_wp2_with (go_at_call 131; go_must (refine (HTurn.out).mono ?_); rintro e w1 ⟨rfl, rfl⟩)
      go_ret2
      rw [HW.out.1, HW.out.2.1]
      rw [HW.out.2.2]
      exact ⟨rfl, HM.out, ((Touch.refl (fun k => k = g) w).set (fun _ => rfl) _).alloc _⟩
    · have HW := Lib.hid (show opE addF cs (k : Int) x = (addF x (cs.getD k 0)).2 ∧ opN addF cs (k : Int) x = 0 ∧ opC addF cs (k : Int) x = cs from
        ⟨by rw [opE, if_pos hi, Int.toNat_natCast], by rw [opN, if_neg (fun hg => he (by have := hg.2; rwa [Int.toNat_natCast] at this))], by rw [opC, if_neg (fun hg => he (by have := hg.2; rwa [Int.toNat_natCast] at this))]⟩)
      have HM := Lib.hid hM
      simp only [if_neg he] at HTurn
      clear h hM ht hi he
      generalize (addF x (cs.getD k 0)).2 = v at *
      go_enter Try.func118, Try.ntmps118
      go_wp2_with (go_at_call 131; go_must (refine (HTurn.out).mono ?_); rintro e w1 ⟨rfl, rfl⟩)
      go_ret2
      rw [HW.out.1, HW.out.2.1]
      rw [HW.out.2.2]
      exact ⟨rfl, HM.out, HT.out.mono (fun _ _ e => e.elim)⟩
  · have HW := Lib.hid (show opE addF cs i x = 2 ∧ opN addF cs i x = 0 ∧ opC addF cs i x = cs from
      ⟨by rw [opE, if_neg hi], by rw [opN, if_neg (fun hg => hi hg.1)], by rw [opC, if_neg (fun hg => hi hg.1)]⟩)
    have HAt := at_out g i cs _ hM h0 (by unfold inR at hi; omega)
    have HTurn := Lib.hid (turn_bad _ (.func (.func 132) #[] #[.pointer (some ⟨w.heap.size, 0, none⟩)]) i 2 _ HAt (by decide))
    have HM := Lib.hid hM
    clear h hM ht hi HAt
    go_enter Try.func118, Try.ntmps118
    go_wp2_with (go_at_call 131; go_must (refine (HTurn.out).mono ?_); rintro e w1 ⟨rfl, rfl⟩)
    go_ret2
    rw [HW.out.1, HW.out.2.1]
    rw [HW.out.2.2]
    exact ⟨rfl, HM.out, HT.out.mono (fun _ _ e => e.elim)⟩
/-- Where there is no meter. -/
theorem madd_none (p : Value) (x : Nat) (i : Int) (w : World) (hat : ∀ w, Calls Try.prog 116 #[p, .int .i64 i] w fun o w' => o = .returned (.tuple #[.pointer none, .int .i64 1]) ∧ w = w') :
    Calls Try.prog 118 #[p, .int .i64 i, .int .u64 x] w fun e w' => e = .returned (.tuple #[.int .u64 0, .int .i64 1]) ∧ Touch (fun _ => False) w w' := by
  have HTurn := Lib.hid (turn_bad p (.func (.func 132) #[] #[.pointer (some ⟨w.heap.size, 0, none⟩)]) i 1 (w.alloc (.cells #[.int .u64 (x : Nat)] 24)) (hat _) (by decide))
  clear hat
  go_enter Try.func118, Try.ntmps118
  go_wp2_with (go_at_call 131; go_must (refine (HTurn.out).mono ?_); rintro e w1 ⟨rfl, rfl⟩)
  go_ret2
  exact ⟨rfl, (Touch.refl _ w).alloc _⟩

end Go.Proofs.Ytpgakkpmpnebnaa
end

section
namespace Go.Proofs.Ytpgakkpmpnebnaa
open Go.RowKit
set_option maxHeartbeats 4000000
set_option maxRecDepth 100000
set_option linter.unusedVariables false

def getV (cs : List Nat) (i : Int) : Nat := if inR cs i then cs.getD i.toNat 0 else 0
def onceB (cs : List Nat) (i : Int) : Bool := decide (inR cs i) && decide (cs.getD i.toNat 0 = 0)
def onceC (cs : List Nat) (i : Int) : List Nat := if onceB cs i = true then cs.set i.toNat 1 else cs

theorem mget_any (g : Nat) (i : Int) (cs : List Nat) (w : World) (h : MAt w g cs) (h0 : 0 < cs.length) :
    Calls Try.prog 90 #[.pointer (some ⟨g, 0, none⟩), .int .i64 i] w fun e w' => e = .returned (.int .u64 (getV cs i : Nat)) ∧ w = w' := by
  by_cases hi : inR cs i
  · obtain ⟨k, rfl⟩ := Int.eq_ofNat_of_zero_le hi.1
    have hk : k < cs.length := by have := hi.2; omega
    have HV := Lib.hid (show getV cs (k : Int) = cs.getD k 0 by rw [getV, if_pos hi, Int.toNat_natCast])
    have HA := Lib.hid (at_ok g k cs w h hk)
    have HL := Lib.hid (load_any g k (cs.getD k 0) w (h.cell k hk))
    clear h hi h0
    generalize cs.getD k 0 = v at *
    go_enter Try.func90, Try.ntmps90
    go_wp2_with (first
      | (go_at_call 116; go_must (refine HA.out.mono ?_); rintro e w1 ⟨rfl, rfl⟩)
      | (go_at_call 117; go_must (refine HL.out.mono ?_); rintro e w1 ⟨rfl, rfl⟩))
    go_ret
    rw [HV.out]
    exact ⟨rfl, rfl⟩
  · have HV := Lib.hid (show getV cs i = 0 by rw [getV, if_neg hi])
    have HA := Lib.hid (at_out g i cs w h h0 (by unfold inR at hi; omega))
    clear h hi h0
    go_enter Try.func90, Try.ntmps90
    go_wp2_with (go_at_call 116; go_must (refine HA.out.mono ?_); rintro e w1 ⟨rfl, rfl⟩)
    go_ret
    rw [HV.out]
    exact ⟨rfl, rfl⟩
theorem mget_none (p : Value) (i : Int) (w : World) (hat : ∀ w, Calls Try.prog 116 #[p, .int .i64 i] w fun o w' => o = .returned (.tuple #[.pointer none, .int .i64 1]) ∧ w = w') :
    Calls Try.prog 90 #[p, .int .i64 i] w fun e w' => e = .returned (.int .u64 0) ∧ w = w' := by
  have HA := Lib.hid (hat w)
  clear hat
  go_enter Try.func90, Try.ntmps90
  go_wp2_with (go_at_call 116; go_must (refine HA.out.mono ?_); rintro e w1 ⟨rfl, rfl⟩)
  go_ret
  exact ⟨rfl, rfl⟩

theorem infoU : (Try.prog.info? 24).map (fun i => (i.zero, i.size, i.bytes)) = some (some (.int .u64 0), 1, 8) := by kernel_rfl
theorem take_U64 (cs : List Nat) (j : Nat) (hj : j < cs.length) : (cs.take (j + 1)).map U64 = (cs.take j).map U64 ++ [.int .u64 (cs.getD j 0 : Nat)] := by
  rw [List.take_succ_eq_append_getElem hj, List.map_append]
  simp [List.getD, List.getElem?_eq_getElem hj, U64]

theorem mlen_nil (w : World) : Calls Try.prog 129 #[.pointer none] w fun e w' => e = .returned (.int .i64 0) ∧ w = w' := by
  go_enter Try.func129, Try.ntmps129
  go_wp2
  go_ret
  exact ⟨rfl, rfl⟩
/-- All together, as Go's own '+' of 64 bits has it. -/
def sumM (cs : List Nat) : Nat := cs.foldl (fun s x => (s + x) % 18446744073709551616) 0
theorem sumM_take (cs : List Nat) (j : Nat) (hj : j < cs.length) : sumM (cs.take (j + 1)) = (sumM (cs.take j) + cs.getD j 0) % 18446744073709551616 := by
  rw [sumM, List.take_succ_eq_append_getElem hj, List.foldl_append]
  simp [sumM, List.getD, List.getElem?_eq_getElem hj]
theorem sumM_lt (cs : List Nat) : sumM cs < 18446744073709551616 := by
  rcases List.eq_nil_or_concat cs with rfl | ⟨l, a, rfl⟩
  · decide
  · rw [List.concat_eq_append, sumM, List.foldl_append]; simp; omega
theorem get_U64 {l : List Nat} {j : Nat} (hj : j < l.length) : (l.map U64)[j]? = some (U64 (l.getD j 0)) := by simp [List.getD, List.getElem?_eq_getElem hj]

theorem MAt.le16 {w : World} {g : Nat} {cs : List Nat} (h : MAt w g cs) : cs.length ≤ 16 := h.1
theorem l05_1 : opC addF (List.replicate 2 0) 1 5 = [0, 5] ∧ opN addF (List.replicate 2 0) 1 5 = 5 ∧ opE addF (List.replicate 2 0) 1 5 = 0 := by decide +kernel
theorem l05_2 : opC raiseF [0, 5] 1 3 = [0, 5] ∧ opE raiseF [0, 5] 1 3 = 0 := by decide +kernel
theorem l05_3 : opC swapF [0, 5] 1 0 = [0, 0] ∧ opW swapF [0, 5] 1 0 = 5 ∧ opE swapF [0, 5] 1 0 = 0 := by decide +kernel
theorem l05_4 : getV [0, 0] 1 = 0 := by decide +kernel

end Go.Proofs.Ytpgakkpmpnebnaa
end
