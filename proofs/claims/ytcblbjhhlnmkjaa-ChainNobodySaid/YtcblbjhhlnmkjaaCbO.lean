/- A clock that is none (nil, or of no parts): calendar's methods. -/
import Derived.Test.YtcblbjhhlnmkjaaCbL
namespace Go.Proofs.Ytcblbjhhlnmkjaa
open Go.RowKit Cal
attribute [local go_sem] Oper.semAt_some
set_option maxHeartbeats 4000000
set_option maxRecDepth 100000
set_option linter.unusedVariables false
attribute [local irreducible] wpPlan

/-- No clock: nil, or one of no parts. -/
def NoCk (w : World) (v : Option Addr) : Prop := v = none ∨ ∃ z, v = some ⟨z, 0, none⟩ ∧ Blk w z 145 #[.pointer none, .pointer none, .int .i64 0]
theorem NoCk.touch {w w' : World} {v : Option Addr} (h : NoCk w v) (t : Touch (fun _ => False) w w') : NoCk w' v := by
  rcases h with h | ⟨z, h, hb⟩
  · exact .inl h
  · exact .inr ⟨z, h, t.blk hb (fun e => e)⟩
theorem nonone_any (v : Option Addr) (w : World) (h : NoCk w v) :
    Calls Try.prog 117 #[.pointer v] w fun e w' => e = .returned (.bool true) ∧ w = w' := by
  rcases h with rfl | ⟨z, rfl, hb⟩
  · go_enter Try.func117, Try.ntmps117
    go_wp2
    go_ret
    exact ⟨rfl, rfl⟩
  · have q := hb.cell 1
    simp at q
    clear hb
    go_enter Try.func117, Try.ntmps117
    go_wp2
    go_ret
    exact ⟨rfl, rfl⟩
theorem noelapsed_any (v : Option Addr) (x y : Int) (w : World) (h : NoCk w v) :
    Calls Try.prog 118 #[.pointer v, .int .i64 x, .int .i64 y] w fun e w' => e = .returned (.tuple #[.int .i64 0, .int .i64 1]) ∧ Touch (fun _ => False) w w' := by
  have HN := Lib.hid (nonone_any v w h)
  clear h
  go_enter Try.func118, Try.ntmps118
  go_wp2_with (go_at_call 117; go_must (refine HN.out.mono ?_); rintro e w1 ⟨rfl, rfl⟩)
  go_ret2
  exact ⟨rfl, Touch.refl _ _⟩
theorem norest_any (v : Option Addr) (x y z : Int) (w : World) (h : NoCk w v) :
    Calls Try.prog 90 #[.pointer v, .int .i64 x, .int .i64 y, .int .i64 z] w fun e w' => e = .returned (.tuple #[.int .i64 0, .int .i64 1]) ∧ Touch (fun _ => False) w w' := by
  have HN := Lib.hid (nonone_any v w h)
  have HE := Lib.hid (noelapsed_any v x z w h)
  clear h
  go_enter Try.func90, Try.ntmps90
  go_wp2_with (first
    | (go_at_call 117; go_must (refine HN.out.mono ?_); rintro e w1 ⟨rfl, rfl⟩)
    | (go_at_call 118; go_must (refine HE.out.mono ?_); rintro e w1 ⟨rfl, t1⟩; have HT1 := Lib.hid t1; clear t1))
  go_ret2
  exact ⟨rfl, HT1.out⟩
theorem nodue_any (v : Option Addr) (x y : Int) (w : World) (h : NoCk w v) :
    Calls Try.prog 120 #[.pointer v, .int .i64 x, .int .i64 y] w fun e w' => e = .returned (.tuple #[.int .i64 0, .int .i64 1]) ∧ Touch (fun _ => False) w w' := by
  obtain ⟨W0, hW0⟩ : ∃ W0, W0 = (((w.alloc (.cells #[.pointer v] 51)).alloc (.cells #[.int .i64 y] 2)).alloc (.cells #[.int .i64 0] 2)).alloc (.cells #[.int .i64 0] 34) := ⟨_, rfl⟩
  have t0 : Touch (fun _ => False) w W0 := hW0 ▸ ((((Touch.refl _ w).alloc _).alloc _).alloc _).alloc _
  have b0 : Blk W0 w.heap.size 51 #[.pointer v] := hW0 ▸ (((Blk.new w _ _).alloc _).alloc _).alloc _
  have b2 : Blk W0 (w.heap.size + 2) 2 #[.int .i64 0] := hW0 ▸ (by simpa using (Blk.new ((w.alloc (.cells #[.pointer v] 51)).alloc (.cells #[.int .i64 y] 2)) 2 #[.int .i64 0]).alloc (.cells #[.int .i64 0] 34))
  have b3 : Blk W0 (w.heap.size + 3) 34 #[.int .i64 0] := hW0 ▸ (by simpa using (Blk.new (((w.alloc (.cells #[.pointer v] 51)).alloc (.cells #[.int .i64 y] 2)).alloc (.cells #[.int .i64 0] 2)) 34 #[.int .i64 0]))
  have HN := Lib.hid (nonone_any v W0 (h.touch t0))
  have q0 := b0.cell 0
  have p2 := b2.cell 0; have z2 := b2.frozen 0
  have p3 := b3.cell 0; have z3 := b3.frozen 0
  simp at q0 p2 p3
  have HB := Lib.hid (And.intro b2 (And.intro b3 t0))
  clear b0 b2 b3 h t0
  have HW0 := Lib.hid hW0
  clear hW0
  refine (callsIn_wide (n := 4)).1 (callsIn_of_wp_marks Try.func120 rfl trivial ?_ rfl)
  simp only [Try.ntmps120, List.size_toArray, List.length_cons, List.length_nil, Nat.reduceAdd, Nat.reduceSub, Array.replicate_succ, Array.replicate_zero, List.push_toArray, List.append_toArray, List.nil_append, List.cons_append]
  gi_wp2_with fail
  rw [← HW0.out, show w.heap.size + 1 + 1 + 1 = w.heap.size + 3 from rfl, show w.heap.size + 1 + 1 = w.heap.size + 2 from rfl]
  refine ⟨trivial, ?_⟩
  gi_at_call 117
  refine (callsIn_wide.2 HN.out).mono ?_
  rintro e w1 ⟨rfl, rfl⟩
  gi_wp2
  obtain ⟨b2, b3, t0⟩ := HB.out
  have c2 := (b2.set_ 0 (.int .i64 0)).far (p := ⟨w.heap.size + 3, 0, none⟩) (by simp) (.int .i64 1)
  have c3 := (b3.far (p := ⟨w.heap.size + 2, 0, none⟩) (by simp) (.int .i64 0)).set_ 0 (.int .i64 1)
  have e0 := c2.cell 0; have e1 := c3.cell 0
  simp at e0 e1
  refine ⟨.tuple #[.int .i64 0, .int .i64 1], by simp [results, Try.results120, go_sem, e0, e1], ?_⟩
  have ts := ((Touch.refl (fun q => q = w.heap.size + 2 ∨ q = w.heap.size + 3) W0).set (b := w.heap.size + 2) (o := 0) (fun _ => .inl rfl) (.int .i64 0)).set (b := w.heap.size + 3) (o := 0) (fun _ => .inr rfl) (.int .i64 1)
  exact ⟨rfl, t0.trans ts (fun q hq e => by omega)⟩
end Go.Proofs.Ytcblbjhhlnmkjaa
