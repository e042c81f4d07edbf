/- disk.Disk.Free. slices.Sort at a row of strings of the call's own, by the shelf's contract; the order of strings. -/
import Derived.Test.YtpgakkpmpnebnaaVDkB
import Derived.Test.YtpgakkpmpnebnaaOwn
import Derived.Test.YtpgakkpmpnebnaaShelf
import Derived.Sort.OwnSorted
section
namespace Go.Proofs.Ytpgakkpmpnebnaa
open Go.RowKit Go.Maps
set_option maxHeartbeats 4000000
set_option maxRecDepth 100000
set_option linter.unusedVariables false
attribute [local irreducible] wpPlan

def doneT (fs : List Fi) (left : Lit → Bool) : Nat := (fs.map fun f => if left (.string f.nm) = true then 0 else f.al.length).sum
theorem doneT_start {fs : List Fi} {left : Lit → Bool} (h : ∀ f ∈ fs, left (.string f.nm) = true) : doneT fs left = 0 := by
  induction fs with
  | nil => rfl
  | cons x r ih =>
    have := ih (fun f hf => h f (by simp [hf]))
    unfold doneT at this ⊢
    rw [List.map_cons, List.sum_cons, this, if_pos (h x (by simp))]
theorem doneT_end {fs : List Fi} {left : Lit → Bool} (h : ∀ f ∈ fs, left (.string f.nm) = false) : doneT fs left = totF fs := by
  induction fs with
  | nil => rfl
  | cons x r ih =>
    have := ih (fun f hf => h f (by simp [hf]))
    unfold doneT totF at this ⊢
    rw [List.map_cons, List.sum_cons, this, if_neg (by rw [h x (by simp)]; simp)]
    simp
theorem doneT_le (fs : List Fi) (left : Lit → Bool) : doneT fs left ≤ totF fs := by
  induction fs with
  | nil => exact Nat.le_refl _
  | cons x r ih =>
    unfold doneT totF at ih ⊢
    simp only [List.map_cons, List.sum_cons]
    split <;> omega
theorem doneT_far {fs : List Fi} {left : Lit → Bool} {nm : List UInt8} (h : ∀ f ∈ fs, f.nm ≠ nm) : doneT fs (fun z => left z && !z.sameKey (.string nm)) = doneT fs left := by
  unfold doneT
  congr 1
  refine List.map_congr_left fun f hf => ?_
  have : (Lit.string f.nm).sameKey (.string nm) = false := by simpa [Lit.sameKey] using h f hf
  simp [this]
theorem doneT_step {fs : List Fi} (hs : Sorted fs) {left : Lit → Bool} {x : Fi} (hx : x ∈ fs) (hl : left (.string x.nm) = true) : doneT fs (fun z => left z && !z.sameKey (.string x.nm)) = doneT fs left + x.al.length := by
  induction fs with
  | nil => cases hx
  | cons y r ih =>
    obtain ⟨h1, h2⟩ := List.pairwise_cons.1 hs
    rcases List.mem_cons.1 hx with e | hr
    · subst e
      have hf := doneT_far (left := left) (nm := x.nm) (fs := r) (fun f hf e => by have := h1 f hf; rw [e, ltB_irr] at this; cases this)
      have hk : (Lit.string x.nm).sameKey (.string x.nm) = true := by simp [Lit.sameKey]
      unfold doneT at hf ⊢
      simp only [List.map_cons, List.sum_cons, hf, hl, hk]
      simp
      omega
    · have hn : y.nm ≠ x.nm := fun e => by have := h1 x hr; rw [e, ltB_irr] at this; cases this
      have hk : (Lit.string y.nm).sameKey (.string x.nm) = false := by simpa [Lit.sameKey] using hn
      have := ih h2 hr
      unfold doneT at this ⊢
      simp only [List.map_cons, List.sum_cons, this, hk]
      simp
      omega
theorem doneT_same {fs : List Fi} (hs : Sorted fs) {left : Lit → Bool} {x : Fi} (hx : x ∈ fs) (hl : left (.string x.nm) = true) : doneT fs left + x.al.length ≤ totF fs := by
  rw [← doneT_step hs hx hl]; exact doneT_le _ _
theorem invS : ∀ key kl, keyOf Try.prog 9 key = some kl → ∃ x : List UInt8, key = St x ∧ kl = Lit.string x := by
  intro key kl hk
  obtain ⟨s, rfl, rfl, -⟩ := WideMaps.string_of_keyOf Try.underlying9 hk
  exact ⟨s.data.toList, by simp, rfl⟩
theorem keyS_le {x : List UInt8} (hk : keyOf Try.prog 9 (St x) = some (.string x)) : x.length ≤ maxLen := by
  obtain ⟨s, h1, h2, h3⟩ := WideMaps.string_of_keyOf Try.underlying9 hk
  injection h1 with h1
  rw [← h1, stSize] at h3
  exact h3
theorem dfree_any {w : World} {g b m : Nat} {D : Dk} {F : Nat → Prop} (h : DkAt w g b m D F) :
    Calls Try.prog 37 #[.pointer (some ⟨g, 0, none⟩)] w fun e w' => e = .returned (.int .i64 D.free) ∧ Touch (fun _ => False) w w' := by
  have q0 := h.blk.cell 0
  have q1 := h.blk.cell 1
  simp [dkA] at q0 q1
  have HN := Lib.hid (dnone_any h)
  obtain ⟨f, hm, hs⟩ := h.mp
  have HM := Lib.hid hm
  have HS := Lib.hid hs
  have HSo := Lib.hid h.ok.so
  have HNm := Lib.hid h.ok.nm
  have htot := h.ok.tot
  have hroom := h.ok.room
  have HV := Lib.hid (show D.free = max (D.room - (totF D.fs : Int)) 0 from rfl)
  have hbl := h.lt.2.1
  obtain ⟨E, hE⟩ : ∃ E, E = D.free := ⟨_, rfl⟩
  rw [← hE] at HV ⊢
  generalize hfs : D.fs = fs at *
  generalize hrm : D.room = room at *
  clear h hm hs hE hfs hrm
  go_enter Try.func37, Try.ntmps37
  go_wp2_with (first
    | (go_at_call 87; go_must (refine HN.out.mono ?_); rintro e w1 ⟨rfl, rfl⟩)
    | (at_range; refine rangeV _ rfl _ _ rfl _ _ lawS Try.underlying99 b 128 f rfl HM.out ?_; intro w2 hrg t2 hz2; have HRg := Lib.hid hrg; have HT2 := Lib.hid t2; clear hrg t2 hz2; go_frame))
  obtain ⟨r, hr⟩ : ∃ r, r = w.heap.size := ⟨_, rfl⟩
  rw [← hr] at HRg ⊢
  have hrw : w.heap.size ≤ r := by omega
  clear hr
  go_loopw [3] (fun n wr => ∃ left, RangeV Try.prog 9 wr b r 128 f left ∧ n = .int .i64 (room - (doneT fs left : Int)) ∧ Touch (fun _ => False) w wr) (fun _ wr => wr.rangeLeft b r)
  case atStart =>
    refine ⟨_, HRg.out, ?_, HT2.out⟩
    rw [doneT_start (fun x hx => by
      have hn := HNm.out x hx
      obtain ⟨A, c, hf, -⟩ := (HS.out x.nm (by simp only [maxLen]; omega)).2 x (getF_of HSo.out hx)
      simp [hf])]
    simp
  case round =>
    clear HRg HT2 HM
    obtain ⟨left, hrg, rfl, hT⟩ := hrel
    have HRr := Lib.hid hrg
    have HT := Lib.hid hT
    clear hrg hT
    have hrl := HRr.out.lt
    go_wp2_with (at_next; refine nextV _ rfl _ rfl _ lawS (fun c : List UInt8 => St c) (fun c : List UInt8 => Lit.string c) invS b r 128 f left rfl HRr.out ?_ ?_)
    · intro h0
      have hdn := doneT_end (fs := fs) (left := left) (fun x hx => h0 _ ⟨_, keyS (by have := HNm.out x hx; simp only [maxLen]; omega)⟩)
      rw [hdn]
      clear h0 hdn
      have HTz := HT
      by_cases hp : (totF fs : Int) ≤ room
      · have hmx : max (room - (totF fs : Int)) 0 = room - (totF fs : Int) := by omega
        rw [hmx] at HV
        go_wp2
        go_ret
        exact ⟨by rw [HV.out]; simp <;> omega, HTz.out⟩
      · have hmx : max (room - (totF fs : Int)) 0 = 0 := by omega
        rw [hmx] at HV
        go_wp2
        go_ret
        exact ⟨by rw [HV.out]; simp <;> omega, HTz.out⟩
    · intro x v w3 hx hlx hfx hrg3 hlt t3 hen
      have hxl := keyS_le hx
      obtain ⟨fi, hfi⟩ : ∃ fi, getF fs x = some fi := by
        cases hg : getF fs x with
        | none => rw [(HS.out x hxl).1 hg] at hfx; cases hfx
        | some y => exact ⟨y, rfl⟩
      obtain ⟨A, c, hfv, -⟩ := (HS.out x hxl).2 fi hfi
      obtain ⟨hmem, hnm⟩ := getF_some hfi
      subst hnm
      rw [hfv] at hfx
      injection hfx with hfx
      subst hfx
      have HX := Lib.hid (doneT_step HSo.out hmem hlx)
      have hle := doneT_same HSo.out hmem hlx
      have hwr : IntKind.i64.wrap (room - (doneT fs left : Int) - (fi.al.length : Int)) = room - (doneT fs left : Int) - (fi.al.length : Int) := IntWalk.i64_in _ (by omega)
      have HLt := Lib.hid hlt
      have HT3 := Lib.hid (HT.out.trans t3 (fun k hk e => by omega))
      have HRr3 := Lib.hid hrg3
      have hr3 := hrg3.lt
      have hwl := HT.out.size
      unfold ctA at hen ⊢
      clear hfi hfv hmem hx hlx hlt t3 hrg3
      go_wp2
      go_roundw
      case rel =>
        have ta := (Touch.refl (fun _ => False) w3).alloc (.cells #[.slice A fi.al.length c, .int .i64 (fi.kp : Int)] 149)
        exact ⟨_, HRr3.out.touch ta (fun e => e) (fun e => e), by rw [HX.out]; congr 1; simp; omega, HT3.out.trans ta (fun _ _ e => e)⟩
      case measure =>
        rw [rangeLeftV_touch ((Touch.refl (fun _ => False) w3).alloc (.cells #[.slice A fi.al.length c, .int .i64 (fi.kp : Int)] 149)) (fun e => e) (fun e => e) HRr3.out.map.lt hr3]
        exact HLt.out
end Go.Proofs.Ytpgakkpmpnebnaa
end

section
namespace Go.Proofs.Ytpgakkpmpnebnaa
open Go.RowKit
set_option maxHeartbeats 4000000
set_option maxRecDepth 100000
set_option linter.unusedVariables false
def inS (x : List UInt8) : Prop := x.length ≤ maxLen
theorem ltB_lt : ∀ a b : List UInt8, ltB a b = true ↔ a < b
  | _, [] => by
    constructor
    · intro h; have : ltB ‹_› [] = false := (by cases ‹List UInt8› <;> rfl)
      rw [this] at h; cases h
    · intro h; exact absurd h (List.not_lt_nil _)
  | [], b :: y => by simp [ltB, Go.Op.bytesLess]
  | a :: x, b :: y => by
    rw [List.cons_lt_cons_iff, ← ltB_lt x y]
    simp [ltB, Go.Op.bytesLess]
theorem leS_iff (a b : List UInt8) : decide (a ≤ b) = true ↔ ltB b a = false := by
  rw [decide_eq_true_eq]
  show ¬ b < a ↔ _
  rw [← ltB_lt]; simp
theorem leS_trans {a b c : List UInt8} (h1 : decide (a ≤ b) = true) (h2 : decide (b ≤ c) = true) : decide (a ≤ c) = true := by
  rw [leS_iff] at h1 h2 ⊢
  cases h : ltB c a with
  | false => rfl
  | true =>
    rcases ltB_tri a b with h3 | h3 | h3
    · have := ltB_trans h h3; rw [this] at h2; cases h2
    · subst h3; rw [h] at h2; cases h2
    · rw [h3] at h1; cases h1
theorem leS_total (a b : List UInt8) : (decide (a ≤ b) || decide (b ≤ a)) = true := by
  rw [Bool.or_eq_true, leS_iff, leS_iff]
  rcases ltB_tri a b with h | h | h
  · left
    cases h2 : ltB b a with
    | false => rfl
    | true => have := ltB_trans h h2; rw [ltB_irr] at this; cases this
  · subst h; left; exact ltB_irr a
  · right
    cases h2 : ltB a b with
    | false => rfl
    | true => have := ltB_trans h h2; rw [ltB_irr] at this; cases this
theorem sortKS_any (v : Value) (r : Option Nat) (xs : List (List UInt8)) (w : World) (ho : Own w 9 1 v r xs.length (xs.map St)) (hl : xs.length ≤ 1000) :
    Calls Try.prog 114 #[v] w fun e w' => e = .returned (.tuple #[]) ∧ Own w' 9 1 v r xs.length ((xs.mergeSort fun x y => decide (x ≤ y)).map St) ∧ Touch (fun k => r = some k) w w' := by
  have hlen : (xs.mergeSort fun x y => decide (x ≤ y)).length = xs.length := List.length_mergeSort xs
  rcases ho.2 with ⟨hv, hn, hr⟩ | ⟨g, cap, cur, hr, hv, hb, hn, hc, hs, ht⟩
  · have hx : xs = [] := List.eq_nil_of_length_eq_zero hn
    subst hx hv hr
    refine (Try.slices_Sort_string_none none 0 w).mono ?_
    rintro e w' ⟨rfl, rfl⟩
    exact ⟨rfl, by simpa using Own.nil _ _ _, Touch.refl _ _⟩
  · subst hr hv
    rw [Nat.mul_one] at ht
    refine (Try.slices_Sort_string g 0 cap xs w (holds_of_block hb ht) hb.lt (by omega)).mono ?_
    rintro e w' ⟨rfl, n, os, rfl⟩
    refine ⟨rfl, ⟨by simp, .inr ⟨g, cap, _, rfl, rfl, Go.heap_sorted _ hb, hn, hc, by simp [Go.Sort.putCells, hs], ?_⟩⟩, Touch.of_grown (grownBy_sorted _)⟩
    rw [Nat.mul_one, ← hlen]
    exact take_putCells cur _ (by omega)
end Go.Proofs.Ytpgakkpmpnebnaa
end
