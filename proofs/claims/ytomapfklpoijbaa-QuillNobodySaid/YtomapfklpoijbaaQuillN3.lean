/- The walk of QuillNobody. -/
import Derived.Test.YtomapfklpoijbaaQuillN2
import Derived.Test.YtomapfklpoijbaaArgs
namespace Go.Proofs.Ytomapfklpoijbaa
open Go.RowKit Go.ChangeShapes Go.WideShapes Go.Deep
set_option maxHeartbeats 4000000
set_option maxRecDepth 100000
set_option linter.unusedVariables false

theorem wfN_i64 {n : Int} (h : (Lit.int .i64 n).wf = true) : -9223372036854775808 ≤ n ∧ n ≤ 9223372036854775807 := by
  simp [Lit.wf, IntKind.min, IntKind.max, IntKind.signed, IntKind.bits] at h; omega
theorem wfN_u64 {n : Int} (h : (Lit.int .u64 n).wf = true) : 0 ≤ n ∧ n < 18446744073709551616 := by
  simp [Lit.wf, IntKind.min, IntKind.max, IntKind.signed, IntKind.bits] at h; omega
theorem elem_itemN {H : Type} {enc : TypeId × Value → H} {w : World} {spare : Nat → Bool} {held : Bool} {fuel : Nat} {cs : List Value} {x : DataW H × List MemPlace}
    (h : DataW.trod enc Try.prog w 0 spare held fuel 92 cs = some x) : ∃ a : ItemV, cs = a.cells ∧ (a.num < 256 ^ 8 ∧ -9223372036854775808 ≤ a.int ∧ a.int ≤ 9223372036854775807) := by
  obtain ⟨hl, hf⟩ := struct_cells Try.underlying92 (by kernel_rfl) (by kernel_rfl) h
  match cs, hl with
  | [c0, c1, c2, c3, c4], _ =>
    obtain ⟨v0, n0, y0, e0, h0⟩ := hf 0 _ rfl
    obtain ⟨v1, n1, y1, e1, h1⟩ := hf 1 _ rfl
    obtain ⟨v2, n2, y2, e2, h2⟩ := hf 2 _ rfl
    obtain ⟨v3, n3, y3, e3, h3⟩ := hf 3 _ rfl
    obtain ⟨v4, n4, y4, e4, h4⟩ := hf 4 _ rfl
    simp at e0 e1 e2 e3 e4
    subst e0 e1 e2 e3 e4
    obtain ⟨k0, e0, _, w0⟩ := DataW.trod_int Try.underlying3 h0
    obtain ⟨k1, e1, _, w1⟩ := DataW.trod_int Try.underlying29 h1
    obtain ⟨k2, e2, _, w2⟩ := DataW.trod_int Try.underlying2 h2
    obtain ⟨k3, e3, _⟩ := DataW.trod_bool Try.underlying4 h3
    obtain ⟨k4, e4, _, w4⟩ := DataW.trod_string Try.underlying9 h4
    simp at e0 e1 e2 e3 e4
    subst e0 e1 e2 e3 e4
    have b1 := wfN_u64 w1
    have b2 := wfN_i64 w2
    exact ⟨⟨k0, k1.toNat, k2, k3, k4⟩, by simp [ItemV.cells]; omega, by simp; omega, b2.1, b2.2⟩

theorem nb_num (most : Nat) : rdNum most false false [] = ⟨0, false, [], true⟩ := rfl

theorem walk_QuillNobody {w : World} (x : ItemV) (hx : x.num < 256 ^ 8 ∧ -9223372036854775808 ≤ x.int ∧ x.int ≤ 9223372036854775807)
    (a1 : Int) (k1 : 0 ≤ a1 ∧ a1 ≤ 18446744073709551615) (a2 : Int) (k2 : -9223372036854775808 ≤ a2 ∧ a2 ≤ 9223372036854775807) :
    Calls Try.prog 12 #[.agg #[.int .i64 x.kind, .int .u64 x.num, .int .i64 x.int, .bool x.flag, .string x.text], .int .u64 a1, .int .i64 a2] w fun e w' => e = .returned (.bool true) ∧ Below w.heap.size w w' := by
  obtain ⟨most, rfl⟩ := Int.eq_ofNat_of_zero_le k1.1
  have HTb := Lib.hid ((Touch.refl (fun _ => False) w).alloc (.cells #[.int .i64 x.kind, .int .u64 x.num, .int .i64 x.int, .bool x.flag, .string x.text] 92))
  have hb := (Blk.new w 92 #[.int .i64 x.kind, .int .u64 x.num, .int .i64 x.int, .bool x.flag, .string x.text])
  have hq := hb.cell 4
  simp at hq
  clear hb
  by_cases hbig : 1000 < (x.text.size : Int)
  · clear hx
    obtain ⟨K, num, int, flag, text⟩ := x
    simp only at HTb hq hbig ⊢
    go_enter Try.func12, Try.ntmps12
    go_wp2_with (go_at_call 35; go_must (refine (lives01_any _).mono ?_); rintro e w1 ⟨rfl, t1⟩; have HT := Lib.hid (HTb.out.trans t1 (fun _ _ e => e)); clear t1)
    go_ret
    exact ⟨rfl, HT.out.below⟩
  · have HW := Lib.hid (fun w1 => nil_write x w1 ⟨hx.1, hx.2.1, hx.2.2, by omega⟩)
    have HTx := Lib.hid (fun w1 => nil_text w1 a2 k2)
    clear hx k1 k2
    obtain ⟨K, num, int, flag, text⟩ := x
    simp only at HTb hq hbig HW ⊢
    go_enter Try.func12, Try.ntmps12
    go_wp2_with (first
      | (go_at_call 45; go_must (refine (HW.out _).mono ?_); rintro e w1 ⟨⟨v, rfl⟩, t1⟩; have HT1 := Lib.hid (HTb.out.trans t1 (fun _ _ e => e)); clear t1)
      | (go_at_call 46; go_must (refine (nil_wlen _).mono ?_); rintro e w2 ⟨rfl, rfl⟩)
      | (go_at_call 42; go_must (refine (nil_wbytes _).mono ?_); rintro e w2 ⟨rfl, rfl⟩)
      | (go_at_call 37; have HM9 := HM2
         have HRp := Lib.hid (show RdAt (w1.alloc (.cells #[.slice none 0 0, .bool false] 110)) w1.heap.size (fun _ => False) [] false from ⟨fun e => e, none, 0, by simp, by simp, Blk.new _ _ _, Rd.nil _ _ _⟩)
         go_must (refine (num_any w1.heap.size (fun _ => False) false most [] _ (by exact HRp.out)).mono ?_); rintro e w5 ⟨rfl, h5, t5⟩; rw [nb_num] at h5 ⊢
         obtain ⟨-, A5, c5, -, -, hb5, -⟩ := h5
         have HB5 := Lib.hid hb5; have HT5 := Lib.hid ((HT1.out.alloc (.cells #[.slice none 0 0, .bool false] 110)).trans t5 (fun q hq e => by have := HT1.out.size; omega)); clear hb5 t5)
      | (go_at_call 37; go_must (refine (nil_num _ most).mono ?_); rintro e w2 ⟨rfl, rfl⟩)
      | (go_at_call 38; go_must (refine (nil_int _).mono ?_); rintro e w2 ⟨rfl, rfl⟩)
      | (go_at_call 52; go_must (refine (nil_flag _).mono ?_); rintro e w2 ⟨rfl, rfl⟩)
      | (go_at_call 53; go_must (refine (HTx.out _).mono ?_); rintro e w2 ⟨rfl, rfl⟩)
      | (go_at_call 54; go_must (refine (nil_raw _ _).mono ?_); rintro e w2 ⟨rfl, rfl⟩)
      | (go_at_call 41; have HM9 := HM2; go_must (refine (bad_any w1.heap.size A5 0 c5 true _ (by exact HB5.out)).mono ?_); rintro e w2 ⟨rfl, rfl⟩)
      | (go_at_call 41; go_must (refine (nil_bad _).mono ?_); rintro e w2 ⟨rfl, rfl⟩)
      | (go_at_call 43; go_must (refine (nil_left _).mono ?_); rintro e w2 ⟨rfl, rfl⟩)
      | (go_at_call 36; go_must (refine (open_any _ _ _ _).mono ?_); rintro e w6 ⟨rfl, rfl⟩
         have HRo := Lib.hid (show RdAt (w5.alloc (.cells #[.slice none 0 0, .bool false] 110)) w5.heap.size (fun _ => False) [] false from ⟨fun e => e, none, 0, by simp, by simp, Blk.new _ _ _, Rd.nil _ _ _⟩))
      | (go_at_call 50; have HM9 := HRo; go_must (refine (end_any w5.heap.size (fun _ => False) false [] _ (by exact HRo.out)).mono ?_); rintro e w2 ⟨rfl, rfl⟩)
      | (go_at_call 50; have HM2 := HM1
         have HRq := Lib.hid (show RdAt (w1.alloc (.cells #[.slice none 0 0, .bool false] 110)) w1.heap.size (fun _ => False) [] false from ⟨fun e => e, none, 0, by simp, by simp, Blk.new _ _ _, Rd.nil _ _ _⟩)
         go_must (refine (end_any w1.heap.size (fun _ => False) false [] _ (by exact HRq.out)).mono ?_); rintro e w2 ⟨rfl, rfl⟩)
      | (go_at_call 50; go_must (refine (nil_end _).mono ?_); rintro e w2 ⟨rfl, rfl⟩; have HM1 := Lib.hid trivial)
      | (go_at_call 35; go_must (refine (lives01_any _).mono ?_); rintro e w9 ⟨rfl, t9⟩; have HT9 := Lib.hid ((HT5.out.alloc (.cells #[.slice none 0 0, .bool false] 110)).trans t9 (fun _ _ e => e)); clear t9))
    go_ret
    exact ⟨rfl, HT9.out.below⟩
end Go.Proofs.Ytomapfklpoijbaa
