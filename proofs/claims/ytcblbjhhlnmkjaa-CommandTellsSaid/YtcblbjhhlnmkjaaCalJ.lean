/- Package almanac: Next, Closed. -/
import Derived.Test.YtcblbjhhlnmkjaaCalI
namespace Go.Proofs.Ytcblbjhhlnmkjaa
open Go.RowKit Cal
set_option maxHeartbeats 4000000
set_option maxRecDepth 100000
set_option linter.unusedVariables false
attribute [local irreducible] wpPlan

theorem next_fn (f t x : Int) (b : Nat) (w : World) (hb : w.cell? ⟨b, 0, none⟩ = some (.int .i64 x)) :
    Calls Try.prog 154 #[.agg #[.int .i64 f, .int .i64 t], .pointer (some ⟨b, 0, none⟩)] w fun e w' => e = .returned (.bool (decide (x < t))) ∧ Touch (fun _ => False) w w' := by
  have HT := Lib.hid ((Touch.refl (fun _ => False) w).alloc (.cells #[.int .i64 f, .int .i64 t] 165))
  have hl := World.block_lt_of_cell? w _ hb
  simp only at hl
  have hc : (w.alloc (.cells #[.int .i64 f, .int .i64 t] 165)).cell? ⟨b, 0, none⟩ = some (.int .i64 x) := (World.cell?_alloc_lt _ _ _ hl).trans hb
  go_enter Try.func154, Try.ntmps154
  go_wp2
  go_ret
  exact ⟨rfl, HT.out⟩
theorem nextL_drop (l : List Sp) (j : Nat) (s : Sp) (hs : l[j]? = some s) (x : Int) : nextL (l.drop j) x = if x < s.t then some s else nextL (l.drop (j + 1)) x := by
  obtain ⟨h1, h2⟩ := List.getElem?_eq_some_iff.1 hs
  rw [List.drop_eq_getElem_cons h1, h2, nextL]
def IdxP (l : List Sp) (x : Int) (w : World) (e : Ending) (w' : World) : Prop :=
  (match nextL l x with | some s => ∃ j : Nat, l[j]? = some s ∧ e = .returned (.int .i64 j) | none => e = .returned (.int .i64 (-1))) ∧ Touch (fun _ => False) w w'
theorem index_any (F : Nat → Prop) (A : Option Addr) (c : Nat) (l : List Sp) (x : Int) (b : Nat) (w : World) (hr : SpR w F A l.length l) (hn : l.length ≤ 1000000) (hb : w.cell? ⟨b, 0, none⟩ = some (.int .i64 x)) :
    Calls Try.prog 153 #[.slice A l.length c, .func (.func 154) #[] #[.pointer (some ⟨b, 0, none⟩)]] w (IdxP l x w) := by
  have hbl := World.block_lt_of_cell? w _ hb
  simp only at hbl
  have HB := Lib.hid hb
  have HR := Lib.hid hr
  clear hr hb
  go_enter Try.func153, Try.ntmps153
  go_wp2_with fail
  go_loopw [8] (fun i wr => ∃ j : Nat, j ≤ l.length ∧ i = .int .i64 j ∧ nextL (l.drop j) x = nextL l x ∧ Touch (fun _ => False) w wr) (fun i _ => l.length - (intOf i).toNat)
  case atStart => exact ⟨0, by omega, rfl, rfl, Touch.refl _ _⟩
  case round =>
    obtain ⟨j, hj, rfl, hv, hT⟩ := hrel
    have HV := Lib.hid hv
    have HT := Lib.hid hT
    clear hv hT
    by_cases hjk : j < l.length
    · have ha : l[j]? = some (l[j]'hjk) := List.getElem?_eq_getElem _
      obtain ⟨g, off, rfl, hg, -, hc0, hc1⟩ := (HR.out.touch HT.out (fun _ _ e => e)).at_ ha
      have HA := Lib.hid ha
      have HD := Lib.hid (nextL_drop l j _ ha x)
      generalize l[j]'hjk = s at *
      obtain ⟨f, t⟩ := s
      simp only at hc0 hc1 HD
      clear ha
      by_cases hx : x < t
      · have hv : nextL l x = some ⟨f, t⟩ := by rw [← HV.out, HD.out, if_pos hx]
        have HN := Lib.hid hv
        clear hv
        go_wp2_with (go_at_call 154; go_must (refine (next_fn f t x b _ (by exact (HT.out.cell (p := ⟨b, 0, none⟩) hbl (fun e => e)).trans HB.out)).mono ?_); rintro e w1 ⟨rfl, t1⟩; rw [decide_eq_true hx]; have HT1 := Lib.hid (HT.out.trans t1 (fun _ _ e => e)); clear t1)
        go_ret
        refine ⟨?_, HT1.out⟩
        rw [HN.out]
        exact ⟨j, HA.out, rfl⟩
      · have HN := Lib.hid (show nextL (l.drop (j + 1)) x = nextL l x by rw [← HV.out, HD.out, if_neg hx])
        go_wp2_with (go_at_call 154; go_must (refine (next_fn f t x b _ (by exact (HT.out.cell (p := ⟨b, 0, none⟩) hbl (fun e => e)).trans HB.out)).mono ?_); rintro e w1 ⟨rfl, t1⟩; rw [decide_eq_false hx]; have HT1 := Lib.hid (HT.out.trans t1 (fun _ _ e => e)); clear t1)
        go_roundw
        case rel => exact ⟨j + 1, by omega, by go_num, HN.out, HT1.out⟩
        case measure => simp [intOf]; omega
    · obtain rfl : j = l.length := by omega
      have hv : nextL l x = none := by rw [← HV.out, List.drop_length]; rfl
      have HN := Lib.hid hv
      clear hv
      go_wp2
      go_ret
      refine ⟨?_, HT.out⟩
      rw [HN.out]
      rfl
theorem next_some (g : Nat) (cl : List Sp) (B : Option Addr) (m : Nat) (F : Nat → Prop) (x : Int) (s : Sp) (w : World) (h : AlAt w g cl B m F) (hn : cl.length ≤ 1000000) (hs : nextL cl x = some s) :
    Calls Try.prog 143 #[.pointer (some ⟨g, 0, none⟩), .int .i64 x] w fun e w' => e = .returned (.tuple #[.agg #[.int .i64 s.f, .int .i64 s.t], .bool true]) ∧ Touch (fun _ => False) w w' := by
  have ta := (((Touch.refl (fun _ => False) w).alloc (.cells #[.int .i64 x] 2)).alloc (.cells #[.int .i64 0, .int .i64 0] 165))
  have h1 := h.touch ta (fun e => e) (fun _ _ e => e)
  have HA := Lib.hid (all_any g cl B m F _ h1)
  have HI := Lib.hid (index_any F B m cl x w.heap.size _ h1.row hn (by simp))
  have HR := Lib.hid h1.row
  have HT := Lib.hid ta
  have HB := Lib.hid (show Blk _ (w.heap.size + 1) _ _ by simpa using Blk.new (w.alloc (.cells #[.int .i64 x] 2)) 165 #[.int .i64 0, .int .i64 0])
  have HS := Lib.hid hs
  clear h ta h1 hs
  go_enter Try.func143, Try.ntmps143
  go_wp2_with (first
    | (go_at_call 137; go_must (refine HA.out.mono ?_); rintro e w0 ⟨rfl, rfl⟩)
    | (go_at_call 153
       go_must (refine HI.out.mono ?_)
       rintro e w1 ⟨hi, t1⟩
       rw [HS.out] at hi
       obtain ⟨j, hj, rfl⟩ := hi
       have HT1 := Lib.hid t1
       obtain ⟨g', off', rfl, hg', -, hc0, hc1⟩ := (HR.out.touch t1 (fun _ _ e => e)).at_ hj
       have hjl : j < cl.length := (List.getElem?_eq_some_iff.1 hj).1
       have HB1 := Lib.hid (t1.blk HB.out (fun e => e))
       have q0 := HB1.out.cell 0; have q1 := HB1.out.cell 1
       have z0 := HB1.out.frozen 0; have z1 := HB1.out.frozen 1
       simp at q0 q1
       have hjn : ¬ (j : Int) < 0 := by omega
       clear t1 hj))
  have hb := (HB1.out.set_ 0 (.int .i64 s.f)).set_ 1 (.int .i64 s.t)
  have p0 := hb.cell 0; have p1 := hb.cell 1
  simp at p0 p1
  refine bodyPost_ret (v := .tuple #[.agg #[.int .i64 s.f, .int .i64 s.t], .bool true]) (by simp [results, Try.results143, go_sem, p0, p1]) rfl ⟨rfl, ?_⟩
  exact ((HT.out.trans HT1.out (fun _ _ e => e)).set (fun e => by omega) _).set (fun e => by omega) _
theorem next_none (g : Nat) (cl : List Sp) (B : Option Addr) (m : Nat) (F : Nat → Prop) (x : Int) (w : World) (h : AlAt w g cl B m F) (hn : cl.length ≤ 1000000) (hs : nextL cl x = none) :
    Calls Try.prog 143 #[.pointer (some ⟨g, 0, none⟩), .int .i64 x] w fun e w' => e = .returned (.tuple #[.agg #[.int .i64 0, .int .i64 0], .bool false]) ∧ Touch (fun _ => False) w w' := by
  have ta := (((Touch.refl (fun _ => False) w).alloc (.cells #[.int .i64 x] 2)).alloc (.cells #[.int .i64 0, .int .i64 0] 165))
  have h1 := h.touch ta (fun e => e) (fun _ _ e => e)
  have HA := Lib.hid (all_any g cl B m F _ h1)
  have HI := Lib.hid (index_any F B m cl x w.heap.size _ h1.row hn (by simp))
  have HT := Lib.hid ta
  have HB := Lib.hid (show Blk _ (w.heap.size + 1) _ _ by simpa using Blk.new (w.alloc (.cells #[.int .i64 x] 2)) 165 #[.int .i64 0, .int .i64 0])
  have HS := Lib.hid hs
  clear h ta h1 hs
  go_enter Try.func143, Try.ntmps143
  go_wp2_with (first
    | (go_at_call 137; go_must (refine HA.out.mono ?_); rintro e w0 ⟨rfl, rfl⟩)
    | (go_at_call 153
       go_must (refine HI.out.mono ?_)
       rintro e w1 ⟨hi, t1⟩
       rw [HS.out] at hi
       subst hi
       have HT1 := Lib.hid t1
       have HB1 := Lib.hid (t1.blk HB.out (fun e => e))
       have q0 := HB1.out.cell 0; have q1 := HB1.out.cell 1
       have z0 := HB1.out.frozen 0; have z1 := HB1.out.frozen 1
       simp at q0 q1
       clear t1))
  have hb := (HB1.out.set_ 0 (.int .i64 0)).set_ 1 (.int .i64 0)
  have p0 := hb.cell 0; have p1 := hb.cell 1
  simp at p0 p1
  refine bodyPost_ret (v := .tuple #[.agg #[.int .i64 0, .int .i64 0], .bool false]) (by simp [results, Try.results143, go_sem, p0, p1]) rfl ⟨rfl, ?_⟩
  exact ((HT.out.trans HT1.out (fun _ _ e => e)).set (fun e => by omega) _).set (fun e => by omega) _
theorem has_next : ∀ (l : List Sp) (e x : Int), Row e l → hasB l x = (match nextL l x with | some s => decide (s.f ≤ x) | none => false)
  | [], _, _, _ => rfl
  | s :: l, e, x, ⟨h1, h2, h3, h4⟩ => by
    rw [hasB, nextL]
    by_cases hx : x < s.t
    · rw [if_pos hx, has_none l s.t x h4 hx]; simp [hx]
    · rw [if_neg hx, has_next l s.t x h4]; simp [hx]
end Go.Proofs.Ytcblbjhhlnmkjaa
