/- law01.lives: the chapter's example. -/
import Derived.Test.YtomapfklpoijbaaQuillLW
namespace Go.Proofs.Ytomapfklpoijbaa
open Go.RowKit
set_option maxHeartbeats 2000000
set_option maxRecDepth 100000

theorem lives_bytes : ([] ++ encs [300]) ++ encIs [-300] = [2, 1, 44, 130, 1, 43] := by decide
theorem lives_num : rdNum 300 false false [2, 1, 44] = ⟨300, false, [], false⟩ := by
  simp [rdNum, rdOk, rdHead, rdMark, be]

theorem lives01_any (w : World) : Calls Try.prog 35 #[] w fun e w' => e = .returned (.bool true) ∧ Touch (fun _ => False) w w' := by
  -- the writer at block w.heap.size
  have HT0 := Lib.hid (((Touch.refl (fun _ => False) w).alloc (.cells #[.slice none 0 0] 83)).alloc (.cells #[U64 300] 29))
  have HW0 : WAt ((w.alloc (.cells #[.slice none 0 0] 83)).alloc (.cells #[U64 300] 29)) w.heap.size none [] :=
    ⟨by simp, _, (Blk.new w 83 #[.slice none 0 0]).alloc _, Own.nil _ _ _⟩
  have HW0 := Lib.hid HW0
  go_enter Try.func35, Try.ntmps35
  go_wp2_with (first
    | (go_at_call 39
       go_must (refine (wnum_any w.heap.size none [] (fun k => k = w.heap.size + 1) _ 1 [300] _ (by exact HW0.out) (by exact Rd.litAt _ _ (by simp) 29 [U64 300] 1 rfl) (fun k hk => ⟨by omega, by simp⟩) (by simp) (by simp)).mono ?_)
       rintro e w1 ⟨rfl, r1, hw1, t1, hf1⟩
       have HW1 := Lib.hid hw1
       have HT1 := Lib.hid ((HT0.out).trans t1 (fun q hq e => by rcases e with e | e; exact absurd e (by omega); cases e))
       have hs1 := t1.size
       simp at hs1
       have hr1 := hw1.rlt
       have HR1 := Lib.hid (show r1 ≠ some w1.heap.size from fun e => by have := hr1 _ e; omega)
       have HF1 := Lib.hid hf1
       have hl1 := hw1.lt
       clear hw1 t1 hf1 hr1)
    | (go_at_call 40
       go_must (refine (wint_any w.heap.size r1 _ (fun k => k = w1.heap.size) _ 1 [-300] _ (by exact HW1.out.touch ((Touch.refl (fun _ => False) w1).alloc (.cells #[I64 (-300)] 2)) (fun e => e) (fun _ _ e => e)) (by exact Rd.litAt _ _ (by simp) 2 [I64 (-300)] 1 rfl) (fun k hk => ⟨by omega, by rw [hk]; exact HR1.out⟩) (by simp) (by simp [encs, encN, dig, dg])).mono ?_)
       rintro e w2 ⟨rfl, r2, hw2, t2, hf2⟩
       rw [lives_bytes] at hw2
       have HW2 := Lib.hid hw2
       have HT2 := Lib.hid ((HT1.out.trans ((Touch.refl (fun _ => False) w1).alloc (.cells #[I64 (-300)] 2)) (fun _ _ e => e)).trans t2 (fun q hq e => by
         rcases e with e | e
         · omega
         · rcases HF1.out with e' | ⟨q', e', hq'⟩
           · rw [e'] at e; cases e
           · rw [e'] at e; injection e with e; simp at hq'; omega))
       have hs2 := t2.size
       simp at hs2
       have HR2 := Lib.hid hw2.rlt
       have hl2 := hw2.lt
       clear hw2 t2 hf2)
    | (go_at_call 36
       go_must (refine (open_any _ _ _ _).mono ?_)
       rintro e w3 ⟨rfl, rfl⟩)
    | (go_at_call 42
       go_must (refine (wbytes_any w.heap.size r2 [2, 1, 44, 130, 1, 43] _ (by exact HW2.out.touch (((Touch.refl (fun _ => False) w2).alloc (.cells #[.int .u8 2, .int .u8 1, .int .u8 44] 5)).alloc _) (fun e => e) (fun _ _ e => e)) (by simp)).mono ?_)
       rintro e w4 ⟨A4, c4, rfl, _, _, hr4, t4⟩
       have hs := Rd.str (n := 6) hr4 c4
       have HT4 := Lib.hid t4
       have HRD := Lib.hid (show RdAt ((w2.alloc (.cells #[.int .u8 2, .int .u8 1, .int .u8 44] 5)).alloc (.cells #[.slice (some ⟨w2.heap.size, 0, none⟩) 3 3, .bool false] 110)) (w2.heap.size + 1) (fun k => k = w2.heap.size) [2, 1, 44] false from
         ⟨by omega, some ⟨w2.heap.size, 0, none⟩, 3, by simp, by unfold maxLen; omega, by have := Blk.new (w2.alloc (.cells #[.int .u8 2, .int .u8 1, .int .u8 44] 5)) 110 #[.slice (some ⟨w2.heap.size, 0, none⟩) 3 3, .bool false]; simpa using this,
           (Rd.litAt w2 _ rfl 5 [.int .u8 2, .int .u8 1, .int .u8 44] 3 rfl).touch ((Touch.refl (fun _ => False) _).alloc _) (fun _ _ e => e)⟩)
       clear hr4 t4)
    | (go_at_call 37
       go_must (refine (num_any (w2.heap.size + 1) (fun k => k = w2.heap.size) false 300 [2, 1, 44] _ (by exact rdAt_touch HRD.out HT4.out (fun e => e) (fun _ _ e => e))).mono ?_)
       rintro e w5 h5
       rw [lives_num] at h5
       obtain ⟨rfl, hr5, t5⟩ := h5
       have HR5 := Lib.hid hr5
       have HT5 := Lib.hid t5
       clear hr5 t5)
    | (go_at_call 50
       go_must (refine (end_any (w2.heap.size + 1) (fun k => k = w2.heap.size) false [] _ (by exact HR5.out)).mono ?_)
       rintro e w6 ⟨rfl, rfl⟩))
  go_ways
  go_ret
  have t24 := ((HT2.out.alloc (.cells #[.int .u8 2, .int .u8 1, .int .u8 44] 5)).alloc (.cells #[.slice (some ⟨w2.heap.size, 0, none⟩) 3 3, .bool false] 110)).trans HT4.out (fun _ _ e => e)
  exact ⟨rfl, t24.trans HT5.out (fun q hq e => by have := HT2.out.size; omega)⟩
end Go.Proofs.Ytomapfklpoijbaa
