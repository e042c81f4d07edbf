/- lazy.New; week.New. -/
import Derived.Test.YtcblbjhhlnmkjaaVCalS
namespace Go.Proofs.Ytcblbjhhlnmkjaa
open Go.RowKit Cal
set_option maxHeartbeats 4000000
set_option maxRecDepth 100000
set_option linter.unusedVariables false
attribute [local irreducible] wpPlan

theorem lnew_any (g : Nat) (w : World) :
    Calls Try.prog 115 #[.func (.func 116) #[.pointer (some ⟨g, 0, none⟩)] #[]] w fun e w' => e = .returned (.pointer (some ⟨w.heap.size, 0, none⟩)) ∧ w' = w.alloc (.cells #[.int .u32 0, .int .i32 0, .int .u32 0, .int .u32 0, .int .i64 0, .func (.func 116) #[.pointer (some ⟨g, 0, none⟩)] #[], .slice none 0 0] 210) := by
  go_enter Try.func115, Try.ntmps115
  go_wp2
  go_ret
  exact ⟨rfl, rfl⟩
theorem over_last {l : List Sp} {e : Int} (h : Row e l) {s : Sp} (hs : l[l.length - 1]? = some s) : overB l = decide (604800 < s.t) := by
  have key : ∀ (l : List Sp), overB l = true ↔ ∃ x ∈ l, 604800 < x.t := by
    intro l
    induction l with
    | nil => simp [overB]
    | cons x l ih => simp [overB, ih]
  rw [Bool.eq_iff_iff, key, decide_eq_true_iff]
  constructor
  · rintro ⟨x, hx, hxt⟩
    obtain ⟨i, hi⟩ := List.mem_iff_getElem?.1 hx
    have hil := (List.getElem?_eq_some_iff.1 hi).1
    rcases Nat.lt_or_ge i (l.length - 1) with hlt | hge
    · have := Row.sorted h hi hs hlt
      have := Row.getE h hs
      omega
    · have : i = l.length - 1 := by omega
      subst this
      rw [hi] at hs; injection hs with hs; subst hs; exact hxt
  · intro hst
    exact ⟨s, List.mem_of_getElem? hs, hst⟩
def NewPn (w : World) (wk : List Sp) (e : Ending) (w' : World) : Prop :=
  ∃ g b, e = .returned (.tuple #[.pointer (some ⟨g, 0, none⟩), .int .i64 0]) ∧ PnAt w' g wk b (fun k => w.heap.size ≤ k ∧ k < w'.heap.size ∧ k ≠ b) ∧ w.heap.size ≤ b ∧ b < w'.heap.size ∧ w.heap.size ≤ g ∧ Touch (fun _ => False) w w'
theorem wnew_bad (F : Nat → Prop) (A : Option Addr) (c : Nat) (l : List Sp) (w : World) (h : SpR w F A l.length l) (hn : l.length ≤ 1000000) (hr : weekE l ≠ 0) :
    Calls Try.prog 87 #[.slice A l.length c] w fun e w' => e = .returned (.tuple #[.pointer none, .int .i64 (weekE l)]) ∧ Touch (fun _ => False) w w' := by
  have HF := Lib.hid (row_any F A c l w h hn)
  have HR := Lib.hid h
  by_cases h1 : rowE l = 0
  · rw [h1] at HF
    have ho : overB l = true := by
      unfold weekE at hr
      rw [if_neg (by simp [h1])] at hr
      cases hh : overB l
      · rw [hh] at hr; simp at hr
      · rfl
    have HV := Lib.hid (show weekE l = 2 by unfold weekE; rw [if_neg (by simp [h1]), ho]; rfl)
    have hne : l.length ≠ 0 := by
      intro e
      rw [List.eq_nil_of_length_eq_zero e] at ho
      simp [overB] at ho
    have ha : l[l.length - 1]? = some (l[l.length - 1]'(by omega)) := List.getElem?_eq_getElem _
    have hlast := over_last (rowE_row h1).1 ha
    rw [ho] at hlast
    have ht := of_decide_eq_true hlast.symm
    have HA := Lib.hid ha
    generalize l[l.length - 1]'(by omega) = s at *
    obtain ⟨f, t⟩ := s
    simp only at ht
    have hpos : 0 < l.length := by omega
    have hpos' : (0 : Int) < (l.length : Int) := by omega
    have hjl : l.length - 1 < l.length := by omega
    have hwj : ((l.length : Int) - 1).toNat = l.length - 1 := by omega
    clear h h1 ho ha hlast hr hne
    go_enter Try.func87, Try.ntmps87
    go_wp2_with (go_at_call 113; go_must (refine HF.out.mono ?_); rintro e w0 ⟨rfl, t0⟩; have HT0 := Lib.hid t0; obtain ⟨g, off, rfl, hg, -, hc0, hc1⟩ := (HR.out.touch t0 (fun _ _ e => e)).at_ HA.out; simp only at hc0 hc1; clear t0)
    go_ret2
    exact ⟨by rw [HV.out]; rfl, HT0.out⟩
  · have HV := Lib.hid (show weekE l = rowE l by unfold weekE; rw [if_pos h1])
    have hb : (rowE l != 0) = true := by simpa using h1
    generalize rowE l = v at *
    clear h h1
    go_enter Try.func87, Try.ntmps87
    go_wp2_with (go_at_call 113; go_must (refine HF.out.mono ?_); rintro e w0 ⟨rfl, t0⟩; have HT0 := Lib.hid t0; clear t0)
    go_ret2
    exact ⟨by rw [HV.out]; rfl, HT0.out⟩
theorem wnew_yes (F : Nat → Prop) (A : Option Addr) (c : Nat) (l : List Sp) (w : World) (h : SpR w F A l.length l) (hr : weekE l = 0) :
    Calls Try.prog 87 #[.slice A l.length c] w (NewPn w l) := by
  obtain ⟨hw, hrow⟩ := weekE_week hr
  have hlen := hw.2.1
  have HF := Lib.hid (row_any F A c l w h (by omega))
  rw [hrow] at HF
  have HC := Lib.hid (fun w1 h => sclone_any F A c l w1 h (by omega))
  have HR := Lib.hid h
  have HW := Lib.hid hw
  have hmf : ∀ (fn : Fn) (first cap : Array Value) (w : World), (Instr.makeFunc fn first cap).run Try.prog w = .ok (.func fn first cap) w := fun _ _ _ _ => rfl
  have HX := Lib.hid (show ∀ s, l[l.length - 1]? = some s → s.t ≤ 604800 from fun s hs => hw.2.2 s (List.mem_of_getElem? hs))
  have fin : ∀ {w0 w1 : World} {A1 : Option Addr} {c1 : Nat}, Touch (fun _ => False) w w0 → SpR w1 (fun k => w0.heap.size ≤ k) A1 l.length l → Touch (fun _ => False) w0 w1 →
      NewPn w l (.returned (.tuple #[.pointer (some ⟨w1.heap.size, 0, none⟩), .int .i64 0])) (((w1.alloc (.cells #[.slice A1 l.length c1, .pointer (some ⟨w1.heap.size + 1, 0, none⟩)] 185)).alloc (.cells #[.int .u32 0, .int .i32 0, .int .u32 0, .int .u32 0, .int .i64 0, .func (.func 116) #[.pointer (some ⟨w1.heap.size, 0, none⟩)] #[], .slice none 0 0] 210))) := by
    intro w0 w1 A1 c1 h0 hs h1
    have s0 := h0.size
    have s1 := h1.size
    have ta := (((Touch.refl (fun _ => False) w1).alloc (.cells #[.slice A1 l.length c1, .pointer (some ⟨w1.heap.size + 1, 0, none⟩)] 185)).alloc (.cells #[.int .u32 0, .int .i32 0, .int .u32 0, .int .u32 0, .int .i64 0, .func (.func 116) #[.pointer (some ⟨w1.heap.size, 0, none⟩)] #[], .slice none 0 0] 210))
    refine ⟨w1.heap.size, w1.heap.size + 1, rfl, ⟨⟨A1, c1, ?_, ?_⟩, .inl ⟨0, 0, ?_⟩, ?_, ?_, hw⟩, by omega, by simp, by omega, (h0.trans h1 (fun _ _ e => e)).trans ta (fun _ _ e => e)⟩
    · exact (Blk.new w1 _ _).alloc _
    · exact (hs.near.touch ta (fun _ _ e => e)).mono (fun k hk => ⟨by have := hk.1; omega, by have := hk.2; simp; omega, by have := hk.2; omega⟩)
    · simpa [lzC, sumsF] using Blk.new (w1.alloc (.cells #[.slice A1 l.length c1, .pointer (some ⟨w1.heap.size + 1, 0, none⟩)] 185)) 210 #[.int .u32 0, .int .i32 0, .int .u32 0, .int .u32 0, .int .i64 0, .func (.func 116) #[.pointer (some ⟨w1.heap.size, 0, none⟩)] #[], .slice none 0 0]
    · exact ⟨by omega, by simp; omega, by omega⟩
    · exact fun e => e.2.2 rfl
  have Fin := Lib.hid (fun w0 w1 A1 c1 => fin (w0 := w0) (w1 := w1) (A1 := A1) (c1 := c1))
  clear h hr hw hrow fin
  by_cases hl0 : 0 < l.length
  · have hpos' : (0 : Int) < (l.length : Int) := by omega
    have ha : l[l.length - 1]? = some (l[l.length - 1]'(by omega)) := List.getElem?_eq_getElem _
    have ht := HX.out _ ha
    have HA := Lib.hid ha
    have hjl : l.length - 1 < l.length := by omega
    have hwj : ((l.length : Int) - 1).toNat = l.length - 1 := by omega
    generalize l[l.length - 1]'(by omega) = s at *
    obtain ⟨f, t⟩ := s
    simp only at ht
    clear ha
    go_enter Try.func87, Try.ntmps87
    go_wp2_with (first
      | (go_at_call 113; go_must (refine HF.out.mono ?_); rintro e w0 ⟨rfl, t0⟩; have HT0 := Lib.hid t0; obtain ⟨g, off, rfl, hg, -, hc0, hc1⟩ := (HR.out.touch t0 (fun _ _ e => e)).at_ HA.out; simp only at hc0 hc1; clear t0)
      | (go_at_call 114; go_must (refine (HC.out _ (by exact HR.out.touch HT0.out (fun _ _ e => e))).mono ?_); rintro e w1 ⟨A1, c1, rfl, -, -, -, h4, h5⟩; have HQ := Lib.hid (And.intro h4 h5); clear h4 h5)
      | (go_at_call 115; go_must (refine (lnew_any _ _).mono ?_); rintro e w2 ⟨rfl, rfl⟩))
    go_ret2
    exact Fin.out _ _ _ _ HT0.out HQ.out.1 HQ.out.2
  · have hpos' : ¬ (0 : Int) < (l.length : Int) := by omega
    clear HX
    go_enter Try.func87, Try.ntmps87
    go_wp2_with (first
      | (go_at_call 113; go_must (refine HF.out.mono ?_); rintro e w0 ⟨rfl, t0⟩; have HT0 := Lib.hid t0; clear t0)
      | (go_at_call 114; go_must (refine (HC.out _ (by exact HR.out.touch HT0.out (fun _ _ e => e))).mono ?_); rintro e w1 ⟨A1, c1, rfl, -, -, -, h4, h5⟩; have HQ := Lib.hid (And.intro h4 h5); clear h4 h5)
      | (go_at_call 115; go_must (refine (lnew_any _ _).mono ?_); rintro e w2 ⟨rfl, rfl⟩))
    go_ret2
    exact Fin.out _ _ _ _ HT0.out HQ.out.1 HQ.out.2
end Go.Proofs.Ytcblbjhhlnmkjaa
