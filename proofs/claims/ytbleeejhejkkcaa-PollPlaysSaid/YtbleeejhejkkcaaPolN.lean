/- The walk of PollStays. -/
import Derived.Test.YtbleeejhejkkcaaPolM
import Derived.Test.YtbleeejhejkkcaaPolF
import Derived.Test.YtbleeejhejkkcaaArgsS
import Derived.Test.YtbleeejhejkkcaaMemB
namespace Go.Proofs.Ytbleeejhejkkcaa
open Go.RowKit
set_option maxHeartbeats 4000000
set_option maxRecDepth 100000
set_option linter.unusedVariables false

theorem said_len (s : SaidV) : s.cells.length = 2 := rfl
theorem countP_lt {p q : Nat → Bool} {k : Nat} : ∀ l : List Nat, (∀ i ∈ l, p i = true → q i = true) → k ∈ l → p k = false → q k = true → l.countP p + 1 ≤ l.countP q
  | [], _, h, _, _ => by cases h
  | x :: l, hs, hk, hp, hq => by
    have h1 := hs x (by simp)
    have hle : l.countP p ≤ l.countP q := List.countP_mono_left fun i hi h => hs i (List.mem_cons_of_mem _ hi) h
    simp only [List.countP_cons]
    rcases List.mem_cons.1 hk with e | e
    · subst e; rw [hp, hq]; simp; omega
    · have ih := countP_lt l (fun i hi => hs i (List.mem_cons_of_mem _ hi)) e hp hq
      cases hpx : p x
      · cases q x <;> simp <;> omega
      · rw [h1 hpx]; simp; omega
/-- How many have said something. -/
def cntF (f : Int → Option Int) : Nat := (List.range 7).countP fun (i : Nat) => (f (i : Int)).isSome
theorem cntF_le (f : Int → Option Int) : cntF f ≤ 7 := by
  have := List.countP_le_length (p := fun (i : Nat) => (f (i : Int)).isSome) (l := List.range 7)
  simpa [cntF] using this
theorem cntF_note {L : List Int} {f : Int → Option Int} {k : Int} {ok : Bool} (h : FIn L f) (hL : ∀ x ∈ L, 0 ≤ x ∧ x < 7) (hb : noteB L f k = true) : cntF f + 1 ≤ cntF (noteF L f k ok) := by
  have hb' := hb
  rw [noteB, Bool.and_eq_true] at hb'
  have hk := hL k (by simpa using hb'.1)
  have hf : f k = none := by
    cases hf : f k with
    | none => rfl
    | some v =>
      have := (h k v hf).2
      rw [hf] at hb'
      have := hb'.2
      simp at this
      omega
  unfold cntF noteF
  rw [if_pos hb]
  refine countP_lt (k := k.toNat) _ (fun i _ hi => ?_) (by simp; omega) ?_ ?_
  · simp only [setI]; split
    · rfl
    · exact hi
  · rw [Int.toNat_of_nonneg hk.1, hf]; rfl
  · rw [Int.toNat_of_nonneg hk.1]; simp [setI]
theorem noteF_no {L : List Int} {f : Int → Option Int} {k : Int} {ok : Bool} (hb : noteB L f k = false) : noteF L f k ok = f := by
  rw [noteF, if_neg (by rw [hb]; simp)]
/-- A poll in a law's loop. -/
structure PlLoop (w0 w : World) (g : Nat) (L : List Int) (b : Nat) (f : Int → Option Int) (F : Nat → Prop) : Prop where
  at_ : PlAt w g L b (2 * cntF f) f F
  node : FNode f
  in_ : FIn L f
  t : Touch (fun _ => False) w0 w
theorem PlLoop.note {w0 w w1 w' : World} {g : Nat} {L : List Int} {b : Nat} {f : Int → Option Int} {F : Nat → Prop} {n : Int} {ok : Bool} (h : PlLoop w0 w g L b f F) (hb : w0.heap.size ≤ b) (hL : ∀ x ∈ L, 0 ≤ x ∧ x < 7)
    (ta : Touch (fun _ => False) w w1) (hp : PlAt w' g L b (2 * cntF f + 2) (noteF L f n ok) F) (t : Touch (fun q => q = b) w1 w') (hn : noteB L f n = false → w1 = w') : PlLoop w0 w' g L b (noteF L f n ok) F := by
  refine ⟨?_, noteF_node h.node hL, noteF_in h.in_, (h.t.trans ta (fun _ _ e => e)).trans t (fun q hq e => by omega)⟩
  cases hc : noteB L f n
  · have e := hn hc
    subst e
    rw [noteF_no hc]
    exact h.at_.touch ta (fun e => e) (fun e => e) (fun _ _ e => e)
  · exact hp.mono (by have := cntF_note (ok := ok) h.in_ hL hc; omega)
theorem walk_PollStays {w : World} (A0 : Option Addr) (n0 c0 : Nat) (l0 : List Int) (e0 : l0.length = n0) (o0 : ∀ x ∈ l0, -9223372036854775808 ≤ x ∧ x ≤ 9223372036854775807) (g0 : A0 = none → c0 = 0) (u0 : n0 ≤ c0) (m0 : c0 ≤ maxLen) (s0 : Rd w (fun k => k < w.heap.size) A0 n0 (l0.map I64))
    (A1 : Option Addr) (n1 c1 : Nat) (l1 : List SaidV) (e1 : l1.length = n1) (o1 : ∀ x ∈ l1, inI x.node) (z1 : ∀ a ∈ l1, a.cells.length = 2) (g1 : A1 = none → c1 = 0) (u1 : n1 ≤ c1) (m1 : c1 ≤ maxLen) (s1 : RdZ w (fun k => k < w.heap.size) 2 A1 n1 (l1.flatMap SaidV.cells))
    (A2 : Option Addr) (n2 c2 : Nat) (l2 : List SaidV) (e2 : l2.length = n2) (o2 : ∀ x ∈ l2, inI x.node) (z2 : ∀ a ∈ l2, a.cells.length = 2) (g2 : A2 = none → c2 = 0) (u2 : n2 ≤ c2) (m2 : c2 ≤ maxLen) (s2 : RdZ w (fun k => k < w.heap.size) 2 A2 n2 (l2.flatMap SaidV.cells)) :
    Calls Try.prog 4 #[.slice A0 n0 c0, .slice A1 n1 c1, .slice A2 n2 c2] w fun e w' => e = .returned (.bool true) ∧ Below w.heap.size w w' := by
  subst e0 e1 e2
  unfold maxLen at m0 m1 m2
  obtain ⟨s, hs⟩ : ∃ s, s = IntKind.i64.wrap ((l1.length : Int) + (l2.length : Int)) := ⟨_, rfl⟩
  have hwr := hs.symm
  have hwr' : wrap64 ((l1.length : Int) + (l2.length : Int)) = s := by rw [← hwr, IntKind.wrap_i64, wrap64]
  have hb1 : l1.length ≤ 9223372036854775807 := by omega
  have hb2 : l2.length ≤ 9223372036854775807 := by omega
  clear hs
  have HS0 := Lib.hid s0
  have HS1 := Lib.hid s1
  have HS2 := Lib.hid s2
  have HO1 := Lib.hid o1
  have HO2 := Lib.hid o2
  clear o0 o1 o2 z1 z2 g0 g1 g2 s0 s1 s2 u0 u1 u2 m0 m1 m2
  by_cases hbig : 40 < (l0.length : Int)
  · go_enter Try.func4, Try.ntmps4
    go_wp2_with (go_at_call 10; go_must (refine (lives32_any _).mono ?_); rintro e w1 ⟨rfl, t1⟩; have HT := Lib.hid t1; clear t1)
    go_ret
    exact ⟨rfl, HT.out.below⟩
  by_cases hbig2 : 60 < s
  · go_enter Try.func4, Try.ntmps4
    go_wp2_with (go_at_call 10; go_must (refine (lives32_any _).mono ?_); rintro e w1 ⟨rfl, t1⟩; have HT := Lib.hid t1; clear t1)
    go_ret
    exact ⟨rfl, HT.out.below⟩
  have HSd := Lib.hid (rsound_any _ A0 c0 l0 w HS0.out (by omega))
  cases hs : Row.soundB l0
  · rw [hs] at HSd
    clear hs
    go_enter Try.func4, Try.ntmps4
    go_wp2_with (first
      | (go_at_call 12; go_must (refine HSd.out.mono ?_); rintro e w1 ⟨rfl, t1⟩; have HT := Lib.hid t1; clear t1)
      | (go_at_call 10; go_must (refine (lives32_any _).mono ?_); rintro e w2 ⟨rfl, t2⟩; have HT := Lib.hid (HT.out.trans t2 (fun _ _ e => e)); clear t2))
    go_ret
    exact ⟨rfl, HT.out.below⟩
  · rw [hs] at HSd
    have HSo := Lib.hid hs
    have HL := Lib.hid (((Row.sound_iff l0).1 hs).2.2)
    clear hs
    have hl0 : l0.length ≤ 40 := by omega
    go_enter Try.func4, Try.ntmps4
    go_wp2_with (first
      | (go_at_call 12; go_must (refine HSd.out.mono ?_); rintro e w1 ⟨rfl, t1⟩; have HT := Lib.hid t1; clear t1)
      | (go_at_call 11
         go_must (refine (pnew_yes _ A0 c0 l0 _ (by exact HS0.out.touch HT.out (fun _ _ e => e)) (by omega) HSo.out).mono ?_)
         rintro e w2 ⟨g, b, F, rfl, hp, hg, hb, hF, t2⟩
         have hz1 := HT.out.size
         have hgw : w.heap.size ≤ g := by omega
         have hbw : w.heap.size ≤ b := by omega
         have HP := Lib.hid (show PlLoop w w2 g l0 b (fun _ => none) F from ⟨hp, f0_node, fun k v h => (by cases h), HT.out.trans t2 (fun _ _ e => e)⟩)
         clear hp hg hb hF t2))
    go_loopw [34] (fun i wr => ∃ j : Nat, j ≤ l1.length ∧ i = .int .i64 j ∧ ∃ f, PlLoop w wr g l0 b f F) (fun i _ => l1.length - (intOf i).toNat)
    case atStart => exact ⟨0, by omega, rfl, _, HP.out⟩
    case round =>
      obtain ⟨j, hj, rfl, f, hP⟩ := hrel
      have HP1 := Lib.hid hP
      clear hP HP
      by_cases hjk : j < l1.length
      · have ha : l1[j]? = some (l1[j]'hjk) := List.getElem?_eq_getElem _
        have HI := Lib.hid (HO1.out _ (List.getElem_mem hjk))
        obtain ⟨a, off, rfl, -, -, hc⟩ := (HS1.out.touch HP1.out.t (fun _ _ e => e)).at_ (fun a _ => said_len a) rfl ha
        generalize l1[j]'hjk = x at *
        have q0 := hc 0 _ rfl
        have q1 := hc 1 _ rfl
        simp only [Nat.add_zero, ← Nat.add_assoc] at q0 q1
        obtain ⟨x, ok⟩ := x
        simp only at q0 q1 HI
        clear hc ha
        have HTA := Lib.hid ((Touch.refl (fun _ => False) wr).alloc (.cells #[.int .i64 x, .bool ok] 31))
        go_wp2_with (go_at_call 14
                     go_must (refine (pnote_any g l0 b (2 * cntF f) f F x ok _ (by exact HP1.out.at_.touch HTA.out (fun e => e) (fun e => e) (fun _ _ e => e)) HI.out (by have := cntF_le f; omega) (by omega)).mono ?_)
                     rintro e w4 ⟨rfl, h4, t4, hn4⟩
                     have HP4 := Lib.hid (HP1.out.note hbw HL.out HTA.out h4 t4 hn4)
                     clear h4 t4 hn4)
        go_roundw
        case rel => exact ⟨j + 1, by omega, by go_num, _, HP4.out⟩
        case measure => simp [intOf]; omega
      · obtain rfl : j = l1.length := by omega
        have HSt := Lib.hid (fun w1 (h1 : PlAt w1 g l0 b (2 * cntF f) f F) => state_any g l0 b _ f F w1 h1 HP1.out.node HSo.out)
        have HIn := Lib.hid (state_in l0 f)
        obtain ⟨was, hwas⟩ : ∃ was, was = stateV l0 f := ⟨_, rfl⟩
        rw [← hwas] at HSt HIn
        have HWas := Lib.hid hwas
        clear hwas
        go_wp2_with (go_at_call 15
                     go_must (refine (HSt.out _ (by exact HP1.out.at_)).mono ?_)
                     rintro e w5 ⟨rfl, t5⟩
                     have HP5 := Lib.hid (show PlLoop w w5 g l0 b f F from ⟨HP1.out.at_.touch t5 (fun e => e) (fun e => e) (fun _ _ e => e), HP1.out.node, HP1.out.in_, HP1.out.t.trans t5 (fun _ _ e => e)⟩)
                     clear t5)
        go_loopw [49] (fun i wr => ∃ j : Nat, j ≤ l2.length ∧ i = .int .i64 j ∧ ∃ f, PlLoop w wr g l0 b f F ∧ (was ≠ 1 → stateV l0 f = was)) (fun i _ => l2.length - (intOf i).toNat)
        case atStart => exact ⟨0, by omega, rfl, _, HP5.out, fun _ => HWas.out.symm⟩
        case round =>
          clear HSt HWas HP1 HP5
          obtain ⟨j, hj, rfl, f, hP, hWs⟩ := hrel
          have HP1 := Lib.hid hP
          have HWs := Lib.hid hWs
          clear hP hWs
          by_cases hjk : j < l2.length
          · have ha : l2[j]? = some (l2[j]'hjk) := List.getElem?_eq_getElem _
            have HI := Lib.hid (HO2.out _ (List.getElem_mem hjk))
            obtain ⟨a, off, rfl, -, -, hc⟩ := (HS2.out.touch HP1.out.t (fun _ _ e => e)).at_ (fun a _ => said_len a) rfl ha
            generalize l2[j]'hjk = x at *
            have q0 := hc 0 _ rfl
            have q1 := hc 1 _ rfl
            simp only [Nat.add_zero, ← Nat.add_assoc] at q0 q1
            obtain ⟨x, ok⟩ := x
            simp only at q0 q1 HI
            clear hc ha
            have HTA := Lib.hid ((Touch.refl (fun _ => False) wr).alloc (.cells #[.int .i64 x, .bool ok] 31))
            have HSt := Lib.hid (fun w1 (h1 : PlLoop w w1 g l0 b (noteF l0 f x ok) F) => state_any g l0 b _ _ F w1 h1.at_ h1.node HSo.out)
            have HW2 := Lib.hid (show was ≠ 1 → stateV l0 (noteF l0 f x ok) = was from fun h => (state_stays HSo.out HP1.out.in_ (by rw [HWs.out h]; exact h)).trans (HWs.out h))
            by_cases hw1 : was = 1
            · have HE := Lib.hid hw1
              have hbe : (was != 1) = false := by simp [hw1]
              clear hw1
              go_wp2_with (go_at_call 14
                           go_must (refine (pnote_any g l0 b (2 * cntF f) f F x ok _ (by exact HP1.out.at_.touch HTA.out (fun e => e) (fun e => e) (fun _ _ e => e)) HI.out (by have := cntF_le f; omega) (by omega)).mono ?_)
                           rintro e w4 ⟨rfl, h4, t4, hn4⟩
                           have HP4 := Lib.hid (HP1.out.note hbw HL.out HTA.out h4 t4 hn4)
                           clear h4 t4 hn4)
              go_roundw
              case rel => exact ⟨j + 1, by omega, by go_num, _, HP4.out, HW2.out⟩
              case measure => simp [intOf]; omega
            · have HW3 := Lib.hid (HW2.out hw1)
              have hbe : (was != 1) = true := by simp [hw1]
              clear hw1
              rw [HW3.out] at HSt
              go_wp2_with (first
                | (go_at_call 14
                   go_must (refine (pnote_any g l0 b (2 * cntF f) f F x ok _ (by exact HP1.out.at_.touch HTA.out (fun e => e) (fun e => e) (fun _ _ e => e)) HI.out (by have := cntF_le f; omega) (by omega)).mono ?_)
                   rintro e w4 ⟨rfl, h4, t4, hn4⟩
                   have HP4 := Lib.hid (HP1.out.note hbw HL.out HTA.out h4 t4 hn4)
                   clear h4 t4 hn4)
                | (go_at_call 15
                   go_must (refine (HSt.out _ (by exact HP4.out)).mono ?_)
                   rintro e w5 ⟨rfl, t5⟩
                   have HP5 := Lib.hid (show PlLoop w w5 g l0 b _ F from ⟨HP4.out.at_.touch t5 (fun e => e) (fun e => e) (fun _ _ e => e), HP4.out.node, HP4.out.in_, HP4.out.t.trans t5 (fun _ _ e => e)⟩)
                   clear t5))
              go_roundw
              case rel => exact ⟨j + 1, by omega, by go_num, _, HP5.out, HW2.out⟩
              case measure => simp [intOf]; omega
          · obtain rfl : j = l2.length := by omega
            obtain ⟨hw1, hw3⟩ := HIn.out
            go_wp2_with (go_at_call 10; go_must (refine (lives32_any _).mono ?_); rintro e w1 ⟨rfl, t1⟩; have HT := Lib.hid (HP1.out.t.trans t1 (fun _ _ e => e)); clear t1)
            go_ret
            exact ⟨rfl, HT.out.below⟩
end Go.Proofs.Ytbleeejhejkkcaa
