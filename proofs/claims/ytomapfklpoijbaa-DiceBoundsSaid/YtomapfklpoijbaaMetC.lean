/- What Swap, Add, Raise, Get, Once do. -/
import Derived.Test.YtomapfklpoijbaaMetB
namespace Go.Proofs.Ytomapfklpoijbaa
open Go.RowKit
set_option maxHeartbeats 4000000
set_option maxRecDepth 100000
set_option linter.unusedVariables false

def inR (cs : List Nat) (i : Int) : Prop := 0 ≤ i ∧ i < cs.length
instance (cs : List Nat) (i : Int) : Decidable (inR cs i) := inferInstanceAs (Decidable (_ ∧ _))
abbrev OpF := Nat → Nat → Nat × Int
/-- A call by turn goes through. -/
def opG (F : OpF) (cs : List Nat) (i : Int) (x : Nat) : Prop := inR cs i ∧ (F x (cs.getD i.toNat 0)).2 = 0
instance (F : OpF) (cs : List Nat) (i : Int) (x : Nat) : Decidable (opG F cs i x) := inferInstanceAs (Decidable (_ ∧ _))
def opC (F : OpF) (cs : List Nat) (i : Int) (x : Nat) : List Nat := if opG F cs i x then cs.set i.toNat (F x (cs.getD i.toNat 0)).1 else cs
def opW (F : OpF) (cs : List Nat) (i : Int) (x : Nat) : Nat := if opG F cs i x then cs.getD i.toNat 0 else 0
def opN (F : OpF) (cs : List Nat) (i : Int) (x : Nat) : Nat := if opG F cs i x then (F x (cs.getD i.toNat 0)).1 else 0
def opE (F : OpF) (cs : List Nat) (i : Int) (x : Nat) : Int := if inR cs i then (F x (cs.getD i.toNat 0)).2 else 2
theorem swapF_le (x was : Nat) : (swapF x was).2 = 0 → (swapF x was).1 ≤ 4611686018427387904 := by
  unfold swapF; split <;> simp_all
theorem addF_le (x was : Nat) : (addF x was).2 = 0 → (addF x was).1 ≤ 4611686018427387904 := by
  unfold addF; split <;> simp_all
theorem raiseF_le (x was : Nat) (h : was ≤ 4611686018427387904) : (raiseF x was).2 = 0 → (raiseF x was).1 ≤ 4611686018427387904 := by
  unfold raiseF; split <;> simp_all <;> omega

theorem mswap_any (g x : Nat) (i : Int) (cs : List Nat) (w : World) (h : MAt w g cs) (h0 : 0 < cs.length) :
    Calls Try.prog 27 #[.pointer (some ⟨g, 0, none⟩), .int .i64 i, .int .u64 x] w fun e w' => e = .returned (.tuple #[.int .u64 (opW swapF cs i x : Nat), .int .i64 (opE swapF cs i x)]) ∧ MAt w' g (opC swapF cs i x) ∧ Touch (fun k => k = g) w w' := by
  have hgl := h.2.2.lt
  have ht : Touch (fun _ => False) w (w.alloc (.cells #[.int .u64 (x : Nat)] 29)) := (Touch.refl _ w).alloc _
  have hM := h.touch ht (fun e => e)
  have HT := Lib.hid ht
  by_cases hi : inR cs i
  · obtain ⟨k, rfl⟩ := Int.eq_ofNat_of_zero_le hi.1
    have hk : k < cs.length := by have := hi.2; omega
    have HTurn := Lib.hid (turn_swap g w.heap.size x k cs _ hM hk (Blk.new w 29 #[.int .u64 (x : Nat)]))
    by_cases he : (swapF x (cs.getD k 0)).2 = 0
    · have HW := Lib.hid (show opE swapF cs (k : Int) x = 0 ∧ opW swapF cs (k : Int) x = cs.getD k 0 ∧ opC swapF cs (k : Int) x = cs.set k (swapF x (cs.getD k 0)).1 from
        ⟨by rw [opE, if_pos hi, Int.toNat_natCast]; exact he, by rw [opW, if_pos ⟨hi, by rw [Int.toNat_natCast]; exact he⟩, Int.toNat_natCast], by rw [opC, if_pos ⟨hi, by rw [Int.toNat_natCast]; exact he⟩, Int.toNat_natCast]⟩)
      have HM := Lib.hid ((h.set k (swapF x (cs.getD k 0)).1 hk (swapF_le x _ he)).touch ((Touch.refl (fun _ => False) _).alloc (.cells #[.int .u64 (x : Nat)] 29)) (fun e => e))
      simp only [he, if_true] at HTurn
      clear h hM ht hi he
      generalize (swapF x (cs.getD k 0)).1 = v at *
      generalize cs.getD k 0 = was at *
      go_enter Try.func27, Try.ntmps27
      go_wp2_with (go_at_call 67; go_must (refine (HTurn.out).mono ?_); rintro e w1 ⟨rfl, rfl⟩)
      go_ret2
      rw [HW.out.1, HW.out.2.1]
      rw [HW.out.2.2]
      exact ⟨rfl, HM.out, ((Touch.refl (fun k => k = g) w).set (fun _ => rfl) _).alloc _⟩
    · have HW := Lib.hid (show opE swapF cs (k : Int) x = (swapF x (cs.getD k 0)).2 ∧ opW swapF cs (k : Int) x = 0 ∧ opC swapF cs (k : Int) x = cs from
        ⟨by rw [opE, if_pos hi, Int.toNat_natCast], by rw [opW, if_neg (fun hg => he (by have := hg.2; rwa [Int.toNat_natCast] at this))], by rw [opC, if_neg (fun hg => he (by have := hg.2; rwa [Int.toNat_natCast] at this))]⟩)
      have HM := Lib.hid hM
      simp only [if_neg he] at HTurn
      clear h hM ht hi he
      generalize (swapF x (cs.getD k 0)).2 = v at *
      go_enter Try.func27, Try.ntmps27
      go_wp2_with (go_at_call 67; go_must (refine (HTurn.out).mono ?_); rintro e w1 ⟨rfl, rfl⟩)
      go_ret2
      rw [HW.out.1, HW.out.2.1]
      rw [HW.out.2.2]
      exact ⟨rfl, HM.out, HT.out.mono (fun _ _ e => e.elim)⟩
  · have HW := Lib.hid (show opE swapF cs i x = 2 ∧ opW swapF cs i x = 0 ∧ opC swapF cs i x = cs from
      ⟨by rw [opE, if_neg hi], by rw [opW, if_neg (fun hg => hi hg.1)], by rw [opC, if_neg (fun hg => hi hg.1)]⟩)
    have HAt := at_out g i cs _ hM h0 (by unfold inR at hi; omega)
    have HTurn := Lib.hid (turn_bad _ (.func (.func 68) #[] #[.pointer (some ⟨w.heap.size, 0, none⟩)]) i 2 _ HAt (by decide))
    have HM := Lib.hid hM
    clear h hM ht hi HAt
    go_enter Try.func27, Try.ntmps27
    go_wp2_with (go_at_call 67; go_must (refine (HTurn.out).mono ?_); rintro e w1 ⟨rfl, rfl⟩)
    go_ret2
    rw [HW.out.1, HW.out.2.1]
    rw [HW.out.2.2]
    exact ⟨rfl, HM.out, HT.out.mono (fun _ _ e => e.elim)⟩
/-- Where there is no meter. -/
theorem mswap_none (p : Value) (x : Nat) (i : Int) (w : World) (hat : ∀ w, Calls Try.prog 65 #[p, .int .i64 i] w fun o w' => o = .returned (.tuple #[.pointer none, .int .i64 1]) ∧ w = w') :
    Calls Try.prog 27 #[p, .int .i64 i, .int .u64 x] w fun e w' => e = .returned (.tuple #[.int .u64 0, .int .i64 1]) ∧ Touch (fun _ => False) w w' := by
  have HTurn := Lib.hid (turn_bad p (.func (.func 68) #[] #[.pointer (some ⟨w.heap.size, 0, none⟩)]) i 1 (w.alloc (.cells #[.int .u64 (x : Nat)] 29)) (hat _) (by decide))
  clear hat
  go_enter Try.func27, Try.ntmps27
  go_wp2_with (go_at_call 67; go_must (refine (HTurn.out).mono ?_); rintro e w1 ⟨rfl, rfl⟩)
  go_ret2
  exact ⟨rfl, (Touch.refl _ w).alloc _⟩

theorem madd_any (g x : Nat) (i : Int) (cs : List Nat) (w : World) (h : MAt w g cs) (h0 : 0 < cs.length) :
    Calls Try.prog 32 #[.pointer (some ⟨g, 0, none⟩), .int .i64 i, .int .u64 x] w fun e w' => e = .returned (.tuple #[.int .u64 (opN addF cs i x : Nat), .int .i64 (opE addF cs i x)]) ∧ MAt w' g (opC addF cs i x) ∧ Touch (fun k => k = g) w w' := by
  have hgl := h.2.2.lt
  have ht : Touch (fun _ => False) w (w.alloc (.cells #[.int .u64 (x : Nat)] 29)) := (Touch.refl _ w).alloc _
  have hM := h.touch ht (fun e => e)
  have HT := Lib.hid ht
  by_cases hi : inR cs i
  · obtain ⟨k, rfl⟩ := Int.eq_ofNat_of_zero_le hi.1
    have hk : k < cs.length := by have := hi.2; omega
    have HTurn := Lib.hid (turn_add g w.heap.size x k cs _ hM hk (Blk.new w 29 #[.int .u64 (x : Nat)]))
    by_cases he : (addF x (cs.getD k 0)).2 = 0
    · have HW := Lib.hid (show opE addF cs (k : Int) x = 0 ∧ opN addF cs (k : Int) x = (addF x (cs.getD k 0)).1 ∧ opC addF cs (k : Int) x = cs.set k (addF x (cs.getD k 0)).1 from
        ⟨by rw [opE, if_pos hi, Int.toNat_natCast]; exact he, by rw [opN, if_pos ⟨hi, by rw [Int.toNat_natCast]; exact he⟩, Int.toNat_natCast], by rw [opC, if_pos ⟨hi, by rw [Int.toNat_natCast]; exact he⟩, Int.toNat_natCast]⟩)
      have HM := Lib.hid ((h.set k (addF x (cs.getD k 0)).1 hk (addF_le x _ he)).touch ((Touch.refl (fun _ => False) _).alloc (.cells #[.int .u64 (x : Nat)] 29)) (fun e => e))
      simp only [he, if_true] at HTurn
      clear h hM ht hi he
      generalize (addF x (cs.getD k 0)).1 = v at *
      generalize cs.getD k 0 = was at *
      go_enter Try.func32, Try.ntmps32
      go_wp2_with (go_at_call 67; go_must (refine (HTurn.out).mono ?_); rintro e w1 ⟨rfl, rfl⟩)
      go_ret2
      rw [HW.out.1, HW.out.2.1]
      rw [HW.out.2.2]
      exact ⟨rfl, HM.out, ((Touch.refl (fun k => k = g) w).set (fun _ => rfl) _).alloc _⟩
    · have HW := Lib.hid (show opE addF cs (k : Int) x = (addF x (cs.getD k 0)).2 ∧ opN addF cs (k : Int) x = 0 ∧ opC addF cs (k : Int) x = cs from
        ⟨by rw [opE, if_pos hi, Int.toNat_natCast], by rw [opN, if_neg (fun hg => he (by have := hg.2; rwa [Int.toNat_natCast] at this))], by rw [opC, if_neg (fun hg => he (by have := hg.2; rwa [Int.toNat_natCast] at this))]⟩)
      have HM := Lib.hid hM
      simp only [if_neg he] at HTurn
      clear h hM ht hi he
      generalize (addF x (cs.getD k 0)).2 = v at *
      go_enter Try.func32, Try.ntmps32
      go_wp2_with (go_at_call 67; go_must (refine (HTurn.out).mono ?_); rintro e w1 ⟨rfl, rfl⟩)
      go_ret2
      rw [HW.out.1, HW.out.2.1]
      rw [HW.out.2.2]
      exact ⟨rfl, HM.out, HT.out.mono (fun _ _ e => e.elim)⟩
  · have HW := Lib.hid (show opE addF cs i x = 2 ∧ opN addF cs i x = 0 ∧ opC addF cs i x = cs from
      ⟨by rw [opE, if_neg hi], by rw [opN, if_neg (fun hg => hi hg.1)], by rw [opC, if_neg (fun hg => hi hg.1)]⟩)
    have HAt := at_out g i cs _ hM h0 (by unfold inR at hi; omega)
    have HTurn := Lib.hid (turn_bad _ (.func (.func 76) #[] #[.pointer (some ⟨w.heap.size, 0, none⟩)]) i 2 _ HAt (by decide))
    have HM := Lib.hid hM
    clear h hM ht hi HAt
    go_enter Try.func32, Try.ntmps32
    go_wp2_with (go_at_call 67; go_must (refine (HTurn.out).mono ?_); rintro e w1 ⟨rfl, rfl⟩)
    go_ret2
    rw [HW.out.1, HW.out.2.1]
    rw [HW.out.2.2]
    exact ⟨rfl, HM.out, HT.out.mono (fun _ _ e => e.elim)⟩
/-- Where there is no meter. -/
theorem madd_none (p : Value) (x : Nat) (i : Int) (w : World) (hat : ∀ w, Calls Try.prog 65 #[p, .int .i64 i] w fun o w' => o = .returned (.tuple #[.pointer none, .int .i64 1]) ∧ w = w') :
    Calls Try.prog 32 #[p, .int .i64 i, .int .u64 x] w fun e w' => e = .returned (.tuple #[.int .u64 0, .int .i64 1]) ∧ Touch (fun _ => False) w w' := by
  have HTurn := Lib.hid (turn_bad p (.func (.func 76) #[] #[.pointer (some ⟨w.heap.size, 0, none⟩)]) i 1 (w.alloc (.cells #[.int .u64 (x : Nat)] 29)) (hat _) (by decide))
  clear hat
  go_enter Try.func32, Try.ntmps32
  go_wp2_with (go_at_call 67; go_must (refine (HTurn.out).mono ?_); rintro e w1 ⟨rfl, rfl⟩)
  go_ret2
  exact ⟨rfl, (Touch.refl _ w).alloc _⟩

theorem mraise_any (g x : Nat) (i : Int) (cs : List Nat) (w : World) (h : MAt w g cs) (h0 : 0 < cs.length) :
    Calls Try.prog 34 #[.pointer (some ⟨g, 0, none⟩), .int .i64 i, .int .u64 x] w fun e w' => e = .returned (.int .i64 (opE raiseF cs i x)) ∧ MAt w' g (opC raiseF cs i x) ∧ Touch (fun k => k = g) w w' := by
  have hgl := h.2.2.lt
  have ht : Touch (fun _ => False) w (w.alloc (.cells #[.int .u64 (x : Nat)] 29)) := (Touch.refl _ w).alloc _
  have hM := h.touch ht (fun e => e)
  have HT := Lib.hid ht
  by_cases hi : inR cs i
  · obtain ⟨k, rfl⟩ := Int.eq_ofNat_of_zero_le hi.1
    have hk : k < cs.length := by have := hi.2; omega
    have HTurn := Lib.hid (turn_raise g w.heap.size x k cs _ hM hk (Blk.new w 29 #[.int .u64 (x : Nat)]))
    by_cases he : (raiseF x (cs.getD k 0)).2 = 0
    · have HW := Lib.hid (show opE raiseF cs (k : Int) x = 0 ∧ opN raiseF cs (k : Int) x = (raiseF x (cs.getD k 0)).1 ∧ opC raiseF cs (k : Int) x = cs.set k (raiseF x (cs.getD k 0)).1 from
        ⟨by rw [opE, if_pos hi, Int.toNat_natCast]; exact he, by rw [opN, if_pos ⟨hi, by rw [Int.toNat_natCast]; exact he⟩, Int.toNat_natCast], by rw [opC, if_pos ⟨hi, by rw [Int.toNat_natCast]; exact he⟩, Int.toNat_natCast]⟩)
      have HM := Lib.hid ((h.set k (raiseF x (cs.getD k 0)).1 hk (raiseF_le x _ (h.le _) he)).touch ((Touch.refl (fun _ => False) _).alloc (.cells #[.int .u64 (x : Nat)] 29)) (fun e => e))
      simp only [he, if_true] at HTurn
      clear h hM ht hi he
      generalize (raiseF x (cs.getD k 0)).1 = v at *
      generalize cs.getD k 0 = was at *
      go_enter Try.func34, Try.ntmps34
      go_wp2_with (go_at_call 67; go_must (refine (HTurn.out).mono ?_); rintro e w1 ⟨rfl, rfl⟩)
      go_ret
      rw [HW.out.1]
      rw [HW.out.2.2]
      exact ⟨rfl, HM.out, ((Touch.refl (fun k => k = g) w).set (fun _ => rfl) _).alloc _⟩
    · have HW := Lib.hid (show opE raiseF cs (k : Int) x = (raiseF x (cs.getD k 0)).2 ∧ opN raiseF cs (k : Int) x = 0 ∧ opC raiseF cs (k : Int) x = cs from
        ⟨by rw [opE, if_pos hi, Int.toNat_natCast], by rw [opN, if_neg (fun hg => he (by have := hg.2; rwa [Int.toNat_natCast] at this))], by rw [opC, if_neg (fun hg => he (by have := hg.2; rwa [Int.toNat_natCast] at this))]⟩)
      have HM := Lib.hid hM
      simp only [if_neg he] at HTurn
      clear h hM ht hi he
      generalize (raiseF x (cs.getD k 0)).2 = v at *
      go_enter Try.func34, Try.ntmps34
      go_wp2_with (go_at_call 67; go_must (refine (HTurn.out).mono ?_); rintro e w1 ⟨rfl, rfl⟩)
      go_ret
      rw [HW.out.1]
      rw [HW.out.2.2]
      exact ⟨rfl, HM.out, HT.out.mono (fun _ _ e => e.elim)⟩
  · have HW := Lib.hid (show opE raiseF cs i x = 2 ∧ opN raiseF cs i x = 0 ∧ opC raiseF cs i x = cs from
      ⟨by rw [opE, if_neg hi], by rw [opN, if_neg (fun hg => hi hg.1)], by rw [opC, if_neg (fun hg => hi hg.1)]⟩)
    have HAt := at_out g i cs _ hM h0 (by unfold inR at hi; omega)
    have HTurn := Lib.hid (turn_bad _ (.func (.func 77) #[] #[.pointer (some ⟨w.heap.size, 0, none⟩)]) i 2 _ HAt (by decide))
    have HM := Lib.hid hM
    clear h hM ht hi HAt
    go_enter Try.func34, Try.ntmps34
    go_wp2_with (go_at_call 67; go_must (refine (HTurn.out).mono ?_); rintro e w1 ⟨rfl, rfl⟩)
    go_ret
    rw [HW.out.1]
    rw [HW.out.2.2]
    exact ⟨rfl, HM.out, HT.out.mono (fun _ _ e => e.elim)⟩
/-- Where there is no meter. -/
theorem mraise_none (p : Value) (x : Nat) (i : Int) (w : World) (hat : ∀ w, Calls Try.prog 65 #[p, .int .i64 i] w fun o w' => o = .returned (.tuple #[.pointer none, .int .i64 1]) ∧ w = w') :
    Calls Try.prog 34 #[p, .int .i64 i, .int .u64 x] w fun e w' => e = .returned (.int .i64 1) ∧ Touch (fun _ => False) w w' := by
  have HTurn := Lib.hid (turn_bad p (.func (.func 77) #[] #[.pointer (some ⟨w.heap.size, 0, none⟩)]) i 1 (w.alloc (.cells #[.int .u64 (x : Nat)] 29)) (hat _) (by decide))
  clear hat
  go_enter Try.func34, Try.ntmps34
  go_wp2_with (go_at_call 67; go_must (refine (HTurn.out).mono ?_); rintro e w1 ⟨rfl, rfl⟩)
  go_ret
  exact ⟨rfl, (Touch.refl _ w).alloc _⟩
end Go.Proofs.Ytomapfklpoijbaa
