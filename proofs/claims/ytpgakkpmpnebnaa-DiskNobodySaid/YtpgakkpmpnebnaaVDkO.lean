/- disk.Disk where none is: nil, or one that no call made. -/
import Derived.Test.YtpgakkpmpnebnaaVDkN
namespace Go.Proofs.Ytpgakkpmpnebnaa
open Go.RowKit Go.Maps
set_option maxHeartbeats 1000000
set_option maxRecDepth 100000
set_option linter.unusedVariables false
attribute [local irreducible] wpPlan

def NoDk (w : World) (v : Value) : Prop := v = .pointer none ∨ ∃ g, v = .pointer (some ⟨g, 0, none⟩) ∧ Blk w g 102 #[.map none, .int .i64 0, .bool false, .int .i64 0, .pointer none]
theorem NoDk.far {w w' : World} {v : Value} (h : NoDk w v) (t : Touch (fun _ => False) w w') : NoDk w' v := by
  rcases h with h | ⟨g, h, hb⟩
  · exact .inl h
  · exact .inr ⟨g, h, t.blk hb (fun e => e)⟩
theorem dnone_no {w : World} {v : Value} (h : NoDk w v) : Calls Try.prog 87 #[v] w fun e w' => e = .returned (.bool true) ∧ w = w' := by
  rcases h with rfl | ⟨g, rfl, hb⟩
  · go_enter Try.func87, Try.ntmps87
    go_wp2
    go_ret
    exact ⟨rfl, rfl⟩
  · have q0 := hb.cell 0
    simp at q0
    clear hb
    have hbin : ∀ w, (binOp .eql 99 (.map none) (.map none)).run Try.prog w = .ok (.bool true) w := fun w => by first | rfl | simp [go_sem]
    go_enter Try.func87, Try.ntmps87
    go_wp2
    go_ret
    exact ⟨rfl, rfl⟩
theorem ddown_no {w : World} {v : Value} (h : NoDk w v) : Calls Try.prog 36 #[v] w fun e w' => e = .returned (.bool false) ∧ w = w' := by
  have HN := Lib.hid (dnone_no h)
  go_enter Try.func36, Try.ntmps36
  go_wp2_with (go_at_call 87; go_must (refine HN.out.mono ?_); rintro e w1 ⟨rfl, rfl⟩)
  go_ret
  exact ⟨rfl, rfl⟩
theorem dsteps_no {w : World} {v : Value} (h : NoDk w v) : Calls Try.prog 39 #[v] w fun e w' => e = .returned (.int .u64 0) ∧ w = w' := by
  have HN := Lib.hid (dnone_no h)
  go_enter Try.func39, Try.ntmps39
  go_wp2_with (go_at_call 87; go_must (refine HN.out.mono ?_); rintro e w1 ⟨rfl, rfl⟩)
  go_ret
  exact ⟨rfl, rfl⟩
theorem dfree_no {w : World} {v : Value} (h : NoDk w v) : Calls Try.prog 37 #[v] w fun e w' => e = .returned (.int .i64 0) ∧ w = w' := by
  have HN := Lib.hid (dnone_no h)
  go_enter Try.func37, Try.ntmps37
  go_wp2_with (go_at_call 87; go_must (refine HN.out.mono ?_); rintro e w1 ⟨rfl, rfl⟩)
  go_ret
  exact ⟨rfl, rfl⟩
theorem dnames_no {w : World} {v : Value} (h : NoDk w v) : Calls Try.prog 35 #[v] w fun e w' => e = .returned (.slice none 0 0) ∧ w = w' := by
  have HN := Lib.hid (dnone_no h)
  go_enter Try.func35, Try.ntmps35
  go_wp2_with (go_at_call 87; go_must (refine HN.out.mono ?_); rintro e w1 ⟨rfl, rfl⟩)
  go_ret
  exact ⟨rfl, rfl⟩
theorem dup_no {w : World} {v : Value} (h : NoDk w v) : Calls Try.prog 94 #[v] w fun e w' => e = .returned (.int .i64 1) ∧ w = w' := by
  have HN := Lib.hid (dnone_no h)
  go_enter Try.func94, Try.ntmps94
  go_wp2_with (go_at_call 87; go_must (refine HN.out.mono ?_); rintro e w1 ⟨rfl, rfl⟩)
  go_ret
  exact ⟨rfl, rfl⟩
theorem dboot_no {w : World} {v : Value} (h : NoDk w v) : Calls Try.prog 51 #[v] w fun e w' => e = .returned (.int .i64 1) ∧ w = w' := by
  have HN := Lib.hid (dnone_no h)
  go_enter Try.func51, Try.ntmps51
  go_wp2_with (go_at_call 87; go_must (refine HN.out.mono ?_); rintro e w1 ⟨rfl, rfl⟩)
  go_ret
  exact ⟨rfl, rfl⟩
theorem darm_no {w : World} {v : Value} (h : NoDk w v) (n : Int) : Calls Try.prog 44 #[v, .int .i64 n] w fun e w' => e = .returned (.int .i64 1) ∧ w = w' := by
  have HN := Lib.hid (dup_no h)
  go_enter Try.func44, Try.ntmps44
  go_wp2_with (go_at_call 94; go_must (refine HN.out.mono ?_); rintro e w1 ⟨rfl, rfl⟩)
  go_ret
  exact ⟨rfl, rfl⟩
theorem dresize_no {w : World} {v : Value} (h : NoDk w v) (n : Int) : Calls Try.prog 50 #[v, .int .i64 n] w fun e w' => e = .returned (.int .i64 1) ∧ w = w' := by
  have HN := Lib.hid (dup_no h)
  go_enter Try.func50, Try.ntmps50
  go_wp2_with (go_at_call 94; go_must (refine HN.out.mono ?_); rintro e w1 ⟨rfl, rfl⟩)
  go_ret
  exact ⟨rfl, rfl⟩
theorem dcrash_no {w : World} {v : Value} (h : NoDk w v) (A : Option Addr) (n c : Nat) : Calls Try.prog 43 #[v, .slice A n c] w fun e w' => e = .returned (.int .i64 1) ∧ Touch (fun _ => False) w w' := by
  have ta := (Touch.refl (fun _ => False) w).alloc (.cells #[.slice A n c] 69)
  have HN := Lib.hid (dnone_no (h.far ta))
  have HT := Lib.hid ta
  clear ta
  go_enter Try.func43, Try.ntmps43
  go_wp2_with (go_at_call 87; go_must (refine HN.out.mono ?_); rintro e w1 ⟨rfl, rfl⟩)
  go_ret
  exact ⟨rfl, HT.out⟩
theorem dfiles_no {w : World} {v : Value} (h : NoDk w v) : Calls Try.prog 42 #[v] w fun e w' => e = .returned (.slice none 0 0) ∧ Touch (fun _ => False) w w' := by
  have HN := Lib.hid (dnames_no h)
  go_enter Try.func42, Try.ntmps42
  go_wp2_with (go_at_call 35; go_must (refine HN.out.mono ?_); rintro e w1 ⟨rfl, rfl⟩)
  go_loopw [2, 9] (fun l s wr => l = .slice none 0 0 ∧ s = .int .i64 0 ∧ Touch (fun _ => False) w wr) (fun _ _ _ => 0)
  case atStart => exact ⟨rfl, rfl, Touch.refl _ _⟩
  case round =>
    obtain ⟨rfl, rfl, hT⟩ := hrel
    go_wp2
    go_ret
    exact ⟨rfl, hT⟩
theorem rowCt2 : RowT 149 2 := rowCt
theorem dfile_no {w : World} {v : Value} (h : NoDk w v) (nm : List UInt8) : Calls Try.prog 95 #[v, St nm] w fun e w' => e = .returned (.tuple #[.agg #[.slice none 0 0, .int .i64 0], .int .i64 1]) ∧ Touch (fun _ => False) w w' := by
  have ta := (Touch.refl (fun _ => False) w).alloc (.cells #[.slice none 0 0, .int .i64 0] 149)
  have HB := Lib.hid (Blk.new w 149 #[.slice none 0 0, .int .i64 0])
  have HU := Lib.hid (dup_no (h.far ta))
  have HT := Lib.hid ta
  have hb := builtCt
  clear ta
  go_enter Try.func95, Try.ntmps95
  go_wp2_with (go_at_call 94; go_must (refine HU.out.mono ?_); rintro e w1 ⟨rfl, rfl⟩)
  refine bodyPost_ret (results_cell2 (cs := #[.slice none 0 0, .int .i64 0]) 4 5 rowCt rfl (by exact HB.out.whole) rfl rfl) rfl ?_
  exact ⟨rfl, HT.out⟩
theorem dread_no {w : World} {v : Value} (h : NoDk w v) (nm : List UInt8) : Calls Try.prog 52 #[v, St nm] w fun e w' => e = .returned (.tuple #[.slice none 0 0, .int .i64 1]) ∧ Touch (fun _ => False) w w' := by
  have HF := Lib.hid (dfile_no h nm)
  go_enter Try.func52, Try.ntmps52
  go_wp2_with (go_at_call 95; go_must (refine HF.out.mono ?_); rintro e w1 ⟨rfl, t1⟩; have HT1 := Lib.hid (t1.alloc (.cells #[.slice none 0 0, .int .i64 0] 149)); clear t1)
  refine bodyPost_ret (v := .tuple #[.slice none 0 0, .int .i64 1]) (by simp [results, Try.results52, go_sem]) rfl ?_
  exact ⟨rfl, HT1.out⟩
theorem dsync_no {w : World} {v : Value} (h : NoDk w v) (nm : List UInt8) : Calls Try.prog 46 #[v, St nm] w fun e w' => e = .returned (.int .i64 1) ∧ Touch (fun _ => False) w w' := by
  have HF := Lib.hid (dfile_no h nm)
  go_enter Try.func46, Try.ntmps46
  go_wp2_with (go_at_call 95; go_must (refine HF.out.mono ?_); rintro e w1 ⟨rfl, t1⟩; have HT1 := Lib.hid (t1.alloc (.cells #[.slice none 0 0, .int .i64 0] 149)); clear t1)
  go_ret
  exact ⟨rfl, HT1.out⟩
theorem dremove_no {w : World} {v : Value} (h : NoDk w v) (nm : List UInt8) : Calls Try.prog 48 #[v, St nm] w fun e w' => e = .returned (.int .i64 1) ∧ Touch (fun _ => False) w w' := by
  have HF := Lib.hid (dfile_no h nm)
  go_enter Try.func48, Try.ntmps48
  go_wp2_with (go_at_call 95; go_must (refine HF.out.mono ?_); rintro e w1 ⟨rfl, t1⟩; have HT0 := Lib.hid t1; have HT1 := Lib.hid (t1.alloc (.cells #[.slice none 0 0, .int .i64 0] 149)); clear t1)
  go_ret
  exact ⟨rfl, by first | exact HT1.out | exact HT0.out⟩
theorem dcut_no {w : World} {v : Value} (h : NoDk w v) (nm : List UInt8) (n : Int) : Calls Try.prog 47 #[v, St nm, .int .i64 n] w fun e w' => e = .returned (.int .i64 1) ∧ Touch (fun _ => False) w w' := by
  have HF := Lib.hid (dfile_no h nm)
  go_enter Try.func47, Try.ntmps47
  go_wp2_with (go_at_call 95; go_must (refine HF.out.mono ?_); rintro e w1 ⟨rfl, t1⟩; have HT1 := Lib.hid (t1.alloc (.cells #[.slice none 0 0, .int .i64 0] 149)); clear t1)
  go_ret
  exact ⟨rfl, HT1.out⟩
theorem dmove_no {w : World} {v : Value} (h : NoDk w v) (nm to_ : List UInt8) : Calls Try.prog 49 #[v, St nm, St to_] w fun e w' => e = .returned (.int .i64 1) ∧ Touch (fun _ => False) w w' := by
  have HF := Lib.hid (dfile_no h nm)
  go_enter Try.func49, Try.ntmps49
  go_wp2_with (go_at_call 95; go_must (refine HF.out.mono ?_); rintro e w1 ⟨rfl, t1⟩; have HT1 := Lib.hid (t1.alloc (.cells #[.slice none 0 0, .int .i64 0] 149)); clear t1)
  go_ret
  exact ⟨rfl, HT1.out⟩
theorem dappend_no {w : World} {v : Value} (h : NoDk w v) (nm : List UInt8) (A : Option Addr) (n c : Nat) : Calls Try.prog 45 #[v, St nm, .slice A n c] w fun e w' => e = .returned (.int .i64 1) ∧ Touch (fun _ => False) w w' := by
  have HF := Lib.hid (dfile_no h nm)
  go_enter Try.func45, Try.ntmps45
  go_wp2_with (go_at_call 95; go_must (refine HF.out.mono ?_); rintro e w1 ⟨rfl, t1⟩; have HT1 := Lib.hid (t1.alloc (.cells #[.slice none 0 0, .int .i64 0] 149)); clear t1)
  go_ret
  exact ⟨rfl, HT1.out⟩
end Go.Proofs.Ytpgakkpmpnebnaa
