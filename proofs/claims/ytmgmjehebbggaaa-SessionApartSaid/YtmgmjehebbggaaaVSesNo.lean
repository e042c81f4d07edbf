/- No table of sessions: nil, or one that no call made. -/
import Derived.Test.YtmgmjehebbggaaaVArgsO
namespace Go.Proofs.Ytmgmjehebbggaaa
open Go.RowKit Go.Maps
set_option maxHeartbeats 4000000
set_option maxRecDepth 100000
set_option linter.unusedVariables false

/-- A table that has nothing. -/
def NoTb (w : World) (v : Value) : Prop := v = .pointer none ∨ ∃ g, v = .pointer (some ⟨g, 0, none⟩) ∧ Blk w g 66 #[.map none]
theorem NoTb.far {w w' : World} {v : Value} (h : NoTb w v) (t : Touch (fun _ => False) w w') : NoTb w' v := by
  rcases h with h | ⟨g, h, hb⟩
  · exact .inl h
  · exact .inr ⟨g, h, t.blk hb (fun e => e)⟩
theorem nnone_any {w : World} {v : Value} (h : NoTb w v) : Calls Try.prog 26 #[v] w fun e w' => e = .returned (.bool true) ∧ w = w' := by
  rcases h with rfl | ⟨g, rfl, hb⟩
  · go_enter Try.func26, Try.ntmps26
    go_wp2
    go_ret
    exact ⟨rfl, rfl⟩
  · have q0 := hb.cell 0
    simp at q0
    clear hb
    have hbin : ∀ w, (binOp .eql 64 (.map none) (.map none)).run Try.prog w = .ok (.bool true) w := fun w => by first | rfl | simp [go_sem]
    go_enter Try.func26, Try.ntmps26
    go_wp2
    go_ret
    exact ⟨rfl, rfl⟩
theorem nlast_any {w : World} {v : Value} (h : NoTb w v) (c : Nat) : Calls Try.prog 14 #[v, .int .u64 c] w fun e w' => e = .returned (.int .u64 0) ∧ w = w' := by
  have HN := Lib.hid (nnone_any h)
  clear h
  go_enter Try.func14, Try.ntmps14
  go_wp2_with (go_at_call 26; go_must (refine HN.out.mono ?_); rintro e w1 ⟨rfl, rfl⟩)
  go_ret
  exact ⟨rfl, rfl⟩
theorem nlook_any {w : World} {v : Value} (h : NoTb w v) (c q : Nat) : Calls Try.prog 10 #[v, .int .u64 c, .int .u64 q] w fun e w' => e = .returned (.tuple #[.int .i64 3, .agg #[.int .i64 0, .int .i64 0, .int .u64 0, .int .i64 0, .int .i64 0, .int .i64 0, .int .u64 0, .int .i64 0, .int .i64 0, .int .i64 0, .int .i64 0, .slice none 0 0, .int .u64 0, .int .i64 0]]) ∧ Touch (fun _ => False) w w' := by
  have HT0 := Lib.hid ((Touch.refl (fun _ => False) w).alloc (.cells #[.int .i64 0, .int .i64 0, .int .u64 0, .int .i64 0, .int .i64 0, .int .i64 0, .int .u64 0, .int .i64 0, .int .i64 0, .int .i64 0, .int .i64 0, .slice none 0 0, .int .u64 0, .int .i64 0] 35))
  have HN := Lib.hid (nnone_any (h.far HT0.out))
  clear h
  go_enter Try.func10, Try.ntmps10
  go_wp2_with (go_at_call 26; go_must (refine HN.out.mono ?_); rintro e w1 ⟨rfl, rfl⟩)
  exact bodyPost_ret (v := .tuple #[.int .i64 3, .agg #[.int .i64 0, .int .i64 0, .int .u64 0, .int .i64 0, .int .i64 0, .int .i64 0, .int .u64 0, .int .i64 0, .int .i64 0, .int .i64 0, .int .i64 0, .slice none 0 0, .int .u64 0, .int .i64 0]]) (by simp [results, Try.results10, go_sem]) rfl ⟨rfl, HT0.out⟩
theorem ndone_any {w : World} {v : Value} (h : NoTb w v) (c q : Nat) (R : Array Value) (hn : R.size = 14) (h1 : R.all (·.oneCell') = true) : Calls Try.prog 12 #[v, .int .u64 c, .int .u64 q, .agg R] w fun e w' => e = .returned (.int .i64 1) ∧ Touch (fun _ => False) w w' := by
  have HT0 := Lib.hid ((Touch.refl (fun _ => False) w).alloc (.cells R 35))
  have HN := Lib.hid (nnone_any (h.far HT0.out))
  clear h
  go_enter Try.func12, Try.ntmps12
  go_wp2_with (go_at_call 26; go_must (refine HN.out.mono ?_); rintro e w1 ⟨rfl, rfl⟩)
  go_ret
  exact ⟨rfl, HT0.out⟩
theorem ndrop_any {w : World} {v : Value} (h : NoTb w v) (c : Nat) : Calls Try.prog 24 #[v, .int .u64 c] w fun e w' => e = .returned (.bool false) ∧ w = w' := by
  have HN := Lib.hid (nlast_any h c)
  clear h
  go_enter Try.func24, Try.ntmps24
  go_wp2_with (go_at_call 14; go_must (refine HN.out.mono ?_); rintro e w1 ⟨rfl, rfl⟩)
  go_ret
  exact ⟨rfl, rfl⟩
theorem nput_any {w : World} {v : Value} (h : NoTb w v) (gw : Nat) : Calls Try.prog 33 #[v, .pointer (some ⟨gw, 0, none⟩)] w fun e w' => e = .returned (.tuple #[]) ∧ w = w' := by
  have HN := Lib.hid (nnone_any h)
  clear h
  go_enter Try.func33, Try.ntmps33
  go_wp2_with (go_at_call 26; go_must (refine HN.out.mono ?_); rintro e w1 ⟨rfl, rfl⟩)
  exact bodyPost_ret (v := .tuple #[]) (results_none (by rfl) _ _ _) rfl ⟨rfl, rfl⟩
theorem nbytes_any {w : World} {v : Value} (h : NoTb w v) : Calls Try.prog 16 #[v] w fun e w' => e = .returned (.string ⟨#[]⟩) ∧ Touch (fun _ => False) w w' := by
  have HT0 := Lib.hid ((Touch.refl (fun _ => False) w).alloc (.cells #[.slice none 0 0] 80))
  have HW0 := Lib.hid (show WAt (w.alloc (.cells #[.slice none 0 0] 80)) w.heap.size none [] from ⟨by simp, _, Blk.new w 80 #[.slice none 0 0], Own.nil _ _ _⟩)
  have HP := Lib.hid (nput_any (h.far HT0.out) w.heap.size)
  clear h
  go_enter Try.func16, Try.ntmps16
  go_wp2_with (first
    | (go_at_call 33; go_must (refine HP.out.mono ?_); rintro e w1 ⟨rfl, rfl⟩)
    | (go_at_call 34
       go_must (refine (wbytes_any w.heap.size none [] _ (by exact HW0.out) (by simp)).mono ?_)
       rintro e w2 ⟨A2, c2, rfl, u2, m2, hr2, t2⟩
       simp only [List.length_map] at u2 hr2 ⊢
       have hst := Rd.str (n := 0) hr2 c2
       have HT2 := Lib.hid (HT0.out.trans t2 (fun _ _ e => e))
       clear u2 m2 hr2 t2))
  go_ret
  exact ⟨rfl, HT2.out⟩
/-- A clone of none is one that no call made. -/
theorem nclone_any {w : World} {v : Value} (h : NoTb w v) : Calls Try.prog 23 #[v] w fun e w' => (∃ g, e = .returned (.pointer (some ⟨g, 0, none⟩)) ∧ Blk w' g 66 #[.map none] ∧ w.heap.size ≤ g) ∧ Touch (fun _ => False) w w' := by
  have HN := Lib.hid (nnone_any h)
  have HB := Lib.hid (Blk.new w 66 #[.map none])
  have HT := Lib.hid ((Touch.refl (fun _ => False) w).alloc (.cells #[.map none] 66))
  clear h
  go_enter Try.func23, Try.ntmps23
  go_wp2_with (go_at_call 26; go_must (refine HN.out.mono ?_); rintro e w1 ⟨rfl, rfl⟩)
  go_ret
  exact ⟨⟨w.heap.size, rfl, HB.out, Nat.le_refl _⟩, HT.out⟩
end Go.Proofs.Ytmgmjehebbggaaa
