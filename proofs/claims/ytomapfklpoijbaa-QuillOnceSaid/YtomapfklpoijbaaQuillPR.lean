/- The walk of QuillReads. -/
import Derived.Test.YtomapfklpoijbaaQuillLR
import Derived.Test.YtomapfklpoijbaaQuillV
import Derived.Test.YtomapfklpoijbaaArgs
import Derived.Test.YtomapfklpoijbaaPlan
namespace Go.Proofs.Ytomapfklpoijbaa
open Go.RowKit Go.ChangeShapes Go.WideShapes Go.Deep
set_option maxHeartbeats 2000000
set_option maxRecDepth 100000
set_option linter.unusedVariables false

structure AskV where
  kind : Int
  n : Int
  most : Nat
def AskV.cells (a : AskV) : List Value := [.int .i64 a.kind, .int .i64 a.n, .int .u64 a.most]
def AskV.ok (a : AskV) : Prop := -9223372036854775808 ≤ a.n ∧ a.n ≤ 9223372036854775807

theorem wf_i64 {n : Int} (h : (Lit.int .i64 n).wf = true) : -9223372036854775808 ≤ n ∧ n ≤ 9223372036854775807 := by
  simp [Lit.wf, IntKind.min, IntKind.max, IntKind.signed, IntKind.bits] at h; omega
theorem wf_u64 {n : Int} (h : (Lit.int .u64 n).wf = true) : 0 ≤ n ∧ n < 18446744073709551616 := by
  simp [Lit.wf, IntKind.min, IntKind.max, IntKind.signed, IntKind.bits] at h; omega

theorem elem_ask {H : Type} {enc : TypeId × Value → H} {w : World} {spare : Nat → Bool} {held : Bool} {fuel : Nat} {cs : List Value} {x : DataW H × List MemPlace}
    (h : DataW.trod enc Try.prog w 0 spare held fuel 103 cs = some x) : ∃ a : AskV, cs = a.cells ∧ a.ok := by
  obtain ⟨hl, hf⟩ := struct_cells Try.underlying103 (by kernel_rfl) (by kernel_rfl) h
  match cs, hl with
  | [c0, c1, c2], _ =>
    obtain ⟨v0, n0, y0, e0, h0⟩ := hf 0 _ rfl
    obtain ⟨v1, n1, y1, e1, h1⟩ := hf 1 _ rfl
    obtain ⟨v2, n2, y2, e2, h2⟩ := hf 2 _ rfl
    simp at e0 e1 e2
    subst e0 e1 e2
    obtain ⟨k0, e0, _, w0⟩ := DataW.trod_int Try.underlying3 h0
    obtain ⟨k1, e1, _, w1⟩ := DataW.trod_int Try.underlying3 h1
    obtain ⟨k2, e2, _, w2⟩ := DataW.trod_int Try.underlying29 h2
    simp at e0 e1 e2
    subst e0 e1 e2
    have b1 := wf_i64 w1
    have b2 := wf_u64 w2
    exact ⟨⟨k0, k1, k2.toNat⟩, by simp [AskV.cells]; omega, b1⟩

theorem lives_more (w : World) (n0 n1 : Nat) (A0 A1 : Option Addr) (c0 c1 : Nat) (hn : 3000 < n0 ∨ 200 < n1) :
    Calls Try.prog 10 #[.slice A0 n0 c0, .slice A1 n1 c1] w fun e w' => e = .returned (.bool true) ∧ Below w.heap.size w w' := by
  have HL := Lib.hid (lives01_any w)
  by_cases h0 : 3000 < n0
  · clear hn
    go_enter Try.func10, Try.ntmps10
    go_wp2_with (go_at_call 35; go_must (refine HL.out.mono ?_); rintro e w1 ⟨rfl, t1⟩)
    go_ret
    exact ⟨rfl, t1.below⟩
  · have h1 : 200 < n1 := hn.resolve_left h0
    clear hn
    go_enter Try.func10, Try.ntmps10
    go_wp2_with (go_at_call 35; go_must (refine HL.out.mono ?_); rintro e w1 ⟨rfl, t1⟩)
    go_ret
    exact ⟨rfl, t1.below⟩


theorem walk_QuillReads {w : World} (A0 : Option Addr) (n0 c0 : Nat) (l0 : List UInt8) (e0 : l0.length = n0) (g0 : A0 = none → c0 = 0) (u0 : n0 ≤ c0) (m0 : c0 ≤ maxLen) (s0 : Rd w (fun k => k < w.heap.size) A0 n0 (l0.map B8))
    (A1 : Option Addr) (n1 c1 : Nat) (xs : List AskV) (e1 : xs.length = n1) (o1 : ∀ a ∈ xs, a.ok) (z1 : ∀ a ∈ xs, a.cells.length = 3) (g1 : A1 = none → c1 = 0) (u1 : n1 ≤ c1) (m1 : c1 ≤ maxLen) (s1 : RdZ w (fun k => k < w.heap.size) 3 A1 n1 (xs.flatMap AskV.cells)) :
    Calls Try.prog 10 #[.slice A0 n0 c0, .slice A1 n1 c1] w fun e w' => e = .returned (.bool true) ∧ Below w.heap.size w w' := by
  by_cases hbig : 3000 < n0 ∨ 200 < n1
  · exact lives_more w n0 n1 A0 A1 c0 c1 hbig
  have hb0 : n0 ≤ 3000 := by omega
  have hb1 : n1 ≤ 200 := by omega
  clear hbig g0 g1
  have HT0 := Lib.hid (((Touch.refl (fun _ => False) w).alloc (.cells #[.slice A0 n0 c0, .bool false] 110)).alloc (.cells #[.slice A0 n0 c0, .bool false] 101))
  have HTwo : Two ((w.alloc (.cells #[.slice A0 n0 c0, .bool false] 110)).alloc (.cells #[.slice A0 n0 c0, .bool false] 101)) w.heap.size (w.heap.size + 1) (fun k => k < w.heap.size) l0 false := by
    have r0 := s0.touch HT0.out (fun _ _ e => e)
    subst e0
    refine ⟨⟨by omega, A0, c0, u0, m0, (Blk.new w 110 _).alloc _, r0⟩, ⟨by omega, A0, c0, u0, m0, ?_, r0⟩, by omega⟩
    have := Blk.new (w.alloc (.cells #[.slice A0 l0.length c0, .bool false] 110)) 101 #[.slice A0 l0.length c0, .bool false]
    simpa using this
  have HTwo := Lib.hid HTwo
  have HL := Lib.hid lives01_any
  have HS1 := Lib.hid s1
  have HO1 := Lib.hid o1
  have HZ1 := Lib.hid z1
  have HE0 := Lib.hid e0
  have HE1 := Lib.hid e1
  have hn1 : n1 ≤ 9223372036854775807 := by omega
  clear s0 s1 o1 z1 e0 e1 m0 m1
  go_enter Try.func10, Try.ntmps10
  go_wp2_with (first
    | (go_at_call 36; go_must (refine (open_any _ _ _ _).mono ?_); rintro e w' ⟨rfl, rfl⟩))
  go_loopw [25] (fun i wr => ∃ j : Nat, j ≤ n1 ∧ i = .int .i64 j ∧ (∃ l bad, l.length ≤ 3000 ∧ Two wr w.heap.size (w.heap.size + 1) (fun k => k < w.heap.size) l bad) ∧ Touch (fun _ => False) w wr) (fun i _ => n1 - (intOf i).toNat)
  case atStart => exact ⟨0, by omega, rfl, ⟨l0, false, by rw [HE0.out]; exact hb0, HTwo.out⟩, HT0.out⟩
  case round =>
    obtain ⟨j, hj, rfl, hM, hT⟩ := hrel
    have HT := Lib.hid hT
    by_cases hjk : j < n1
    · obtain ⟨l, bad, hll, h2⟩ := hM
      have ha : xs[j]? = some (xs[j]'(by rw [HE1.out]; exact hjk)) := List.getElem?_eq_getElem _
      obtain ⟨a, off, rfl, _, _, hc⟩ := (HS1.out.touch hT (fun _ _ e => e)).at_ HZ1.out HE1.out ha
      have hak := HO1.out _ (List.mem_of_getElem? ha)
      generalize xs[j]'(by rw [HE1.out]; exact hjk) = x at *
      have c0 := hc 0 _ rfl
      have c1 := hc 1 _ rfl
      have c2 := hc 2 _ rfl
      simp only [Nat.add_zero, ← Nat.add_assoc] at c0 c1 c2
      obtain ⟨K, N, M⟩ := x
      obtain ⟨hN0, hN⟩ := hak
      simp only at c0 c1 c2 hN0 hN
      have H2 := Lib.hid h2
      clear hc ha h2 hT
      have hl3 := Lib.hid (show l.length ≤ 3000 from hll)
      have HTA := Lib.hid (((Touch.refl (fun _ => False) wr).alloc (.cells #[.int .i64 K, .int .i64 N, .int .u64 M] 103)).drew)
      have HTwoA : Two ((wr.alloc (.cells #[.int .i64 K, .int .i64 N, .int .u64 M] 103)).drew) w.heap.size (w.heap.size + 1) (fun k => k < w.heap.size) l bad :=
        ⟨rdAt_touch H2.out.1 HTA.out (fun e => e) (fun _ _ e => e), rfAt_touch H2.out.2.1 HTA.out (fun e => e) (fun _ _ e => e), H2.out.2.2⟩
      have HTwoA := Lib.hid HTwoA
      go_wp2_with fail
      refine wp_region_plan [(0, 0), (0, 1), (0, 2), (2, 3), (0, 4), (0, 5), (0, 6), (0, 7), (0, 8), (0, 9), (0, 10), (0, 11), (0, 12), (0, 13), (0, 14), (0, 15), (0, 16), (0, 17), (0, 18), (0, 19), (0, 20), (0, 21), (0, 22), (0, 23), (0, 24), (0, 25), (0, 26), (0, 27), (0, 28), (0, 29), (0, 30)] (fun k => k = w.heap.size ∨ k = w.heap.size + 1) (by kernel_rfl) (by kernel_rfl) (fun c a d v w h => by cases d <;> exact h) ?_
      iterate 3
        first
          | (refine plan_s1 rfl (by rfl) (fun Kc hKc => ?_)
             go_simp
             first
               | (refine hKc _ ?_)
             clear hKc Kc)
          | (refine plan_s0 rfl (by rfl) ?_; go_frame)
      refine plan_a1 rfl (by rfl) (fun Kc hKc => ?_)
      go_simp
      refine (read_any w.heap.size (w.heap.size + 1) (fun k => k < w.heap.size) l bad N M _ K (by omega) hN hN0 (by exact HTwoA.out)).mono ?_
      rintro e w1 ⟨rfl, l1, bad1, hl1, h1, t1⟩
      refine hKc _ _ ⟨t1, ?_⟩
      clear hKc Kc
      obtain ⟨⟨hgF, A3, cap3, hle3, hcm3, hb3, hr3⟩, ⟨hgF4, A4, cap4, hle4, hcm4, hb4, hr4⟩, hne⟩ := h1
      have HRd := Lib.hid (show RdAt w1 w.heap.size (fun k => k < w.heap.size) l1 bad1 from ⟨hgF, A3, cap3, hle3, hcm3, hb3, hr3⟩)
      have HRf := Lib.hid (show RfAt w1 (w.heap.size + 1) (fun k => k < w.heap.size) l1 bad1 from ⟨hgF4, A4, cap4, hle4, hcm4, hb4, hr4⟩)
      have q0 := hb4.cell 0
      have q1 := hb4.cell 1
      simp at q0 q1
      have HT1 := Lib.hid t1
      clear t1 hr3 hr4 hb4
      iterate 27
        first
          | (refine plan_s1 rfl (by rfl) (fun Kc hKc => ?_)
             go_simp
             first
               | (refine hKc _ ?_)
               | (refine ⟨_, calls_flip (left_any _ _ _ _ _ _ (by exact hb3)), hKc _ ?_⟩)
               | (refine ⟨_, calls_flip (bad_any _ _ _ _ _ _ (by exact hb3)), hKc _ ?_⟩)
               | (refine ⟨_, calls_flip (end_any _ _ _ _ _ (by exact HRd.out)), hKc _ ?_⟩)
               | (refine ⟨_, calls_flip (rf_end _ _ _ _ _ (by exact HRf.out)), hKc _ ?_⟩)
             clear hKc Kc)
          | (refine plan_s0 rfl (by rfl) ?_; go_frame)
      refine plan_done ?_
      go_wp2
      go_roundw
      case rel => exact ⟨j + 1, by omega, by go_num, ⟨l1, bad1, by have := hl3.out; omega, ⟨HRd.out, HRf.out, hne⟩⟩, (HT.out.trans HTA.out (fun _ _ e => e)).trans HT1.out (fun q hq e => by omega)⟩
      case measure => simp [intOf]; omega
    · obtain rfl : j = n1 := by omega
      clear hM hT
      go_wp2_with (first
        | (go_at_call 35; go_must (refine (HL.out _).mono ?_); rintro e w1 ⟨rfl, t1⟩))
      go_ret
      exact ⟨rfl, (HT.out.trans t1 (fun _ _ e => e)).below⟩
end Go.Proofs.Ytomapfklpoijbaa
