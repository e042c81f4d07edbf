/- calendar.Put. (written by gencc.py) contract.Put. (written by genctb.py) Structs by value with their cells as one array: loads, stores into a new block, as one step each. A struct's cells stored at once into a block that is known whole. -/
import Derived.Test.YtcblbjhhlnmkjaaCalG
import Derived.Test.YtcblbjhhlnmkjaaVWrA
import Derived.Test.YtcblbjhhlnmkjaaChA
import Derived.Test.YtcblbjhhlnmkjaaProg
import Derived.Test.YtcblbjhhlnmkjaaCells
import Derived.Test.YtcblbjhhlnmkjaaPlan
import Derived.Deep.MidRow
import Derived.Deep.WholeRow
import Derived.BigFrame
import Derived.Test.YtcblbjhhlnmkjaaOwn
section
namespace Go.Proofs.Ytcblbjhhlnmkjaa
open Go.RowKit Cal
set_option maxHeartbeats 4000000
set_option maxRecDepth 100000
set_option linter.unusedVariables false

def encS2 (s : Sp) : List UInt8 := encs [s.f.toNat, s.t.toNat]
def encSps (l : List Sp) : List UInt8 := l.flatMap encS2
def encRow (l : List Sp) : List UInt8 := encs [l.length] ++ encSps l
def encCa (c : Ca) : List UInt8 := encIs [c.off] ++ encRow c.wk ++ encRow c.cl
def preC (c : Ca) : Nat → List UInt8
  | 0 => []
  | 1 => encRow c.wk
  | _ => encRow c.wk ++ encRow c.cl
theorem encSps_len (l : List Sp) : (encSps l).length ≤ 18 * l.length := by
  induction l with
  | nil => simp [encSps]
  | cons s l ih =>
    have := encs_len [s.f.toNat, s.t.toNat]
    simp [encSps, encS2] at ih this ⊢; omega
theorem encRow_len (l : List Sp) : (encRow l).length ≤ 9 + 18 * l.length := by
  have := encs_len [l.length]; have := encSps_len l
  simp [encRow] at *; omega
theorem encSps_take (l : List Sp) (j : Nat) (s : Sp) (hs : l[j]? = some s) : encSps (l.take (j + 1)) = encSps (l.take j) ++ encS2 s := by
  obtain ⟨h1, h2⟩ := List.getElem?_eq_some_iff.1 hs
  rw [List.take_succ_eq_append_getElem h1, h2]; simp [encSps]
theorem SpR.go {w w' : World} {g : Nat} {r : Option Nat} {l : List UInt8} {F : Nat → Prop} {A : Option Addr} {n : Nat} {sp : List Sp} (hr : SpR w F A n sp) (h : WGo w g r l w') (hF : ∀ k, F k → k ≠ g ∧ r ≠ some k) : SpR w' F A n sp := by
  obtain ⟨r', _, t, _⟩ := h
  exact hr.touch t (fun k hk e => by rcases e with e | e; exact (hF k hk).1 e; exact (hF k hk).2 e)
theorem cput_any (g : Nat) (r : Option Nat) (l : List UInt8) (c : Ca) (F : Nat → Prop) (A B : Option Addr) (k m : Nat) (w : World) (h : WAt w g r l) (hr : CaR w F c A B) (hF : ∀ q, F q → q ≠ g ∧ r ≠ some q)
    (hbd : ∀ s ∈ c.wk ++ c.cl, 0 ≤ s.f ∧ s.f < 9223372036854775808 ∧ 0 ≤ s.t ∧ s.t < 9223372036854775808) (ho : -9223372036854775808 ≤ c.off ∧ c.off ≤ 9223372036854775807) (h1 : c.wk.length ≤ 1000) (h2 : c.cl.length ≤ 1000) (hsm : l.length ≤ 50000) :
    Calls Try.prog 58 #[.pointer (some ⟨g, 0, none⟩), .agg #[.int .i64 c.off, .slice A c.wk.length k, .slice B c.cl.length m]] w (WPost w g r (l ++ encCa c)) := by
  have hgl := h.lt
  have hrl := h.ltr
  have t0 := (Touch.refl (fun _ => False) w).alloc (.cells #[.int .i64 c.off, .slice A c.wk.length k, .slice B c.cl.length m] 25)
  have HT0 := Lib.hid t0
  have HBx := Lib.hid (Blk.new w 25 #[.int .i64 c.off, .slice A c.wk.length k, .slice B c.cl.length m])
  have HG := Lib.hid (show WGo (w.alloc (.cells #[.int .i64 c.off, .slice A c.wk.length k, .slice B c.cl.length m] 25)) g r l _ from WGo.start (h.touch t0 (fun e => e) (fun _ _ e => e)))
  have HR := Lib.hid (hr.touch t0 (fun _ _ e => e))
  have hg1 : w.heap.size ≠ g := by omega
  have hr1 : r ≠ some w.heap.size := fun e => by have := hrl _ e; omega
  have HF := Lib.hid hF
  have HBd := Lib.hid hbd
  have HO := Lib.hid ho
  clear h hr hF hbd t0 ho hrl
  go_enter Try.func58, Try.ntmps58
  go_wp2_with (go_at_call 60; go_must (refine (wint_lit HG.out [c.off] _ (by simp) _ rfl 1 1 rfl (fun n hn => by simp at hn; subst hn; exact HO.out) (by simp; omega)).mono ?_); rintro e w1 ⟨rfl, g1⟩; have HG1 := Lib.hid g1; have hbx := g1.blk HBx.out hg1 hr1; have q1 := hbx.cell 1; have q2 := hbx.cell 2; simp at q1 q2; clear g1 hbx)
  clear q1 q2
  go_loopw [18] (fun i wr => ∃ j : Nat, j ≤ 2 ∧ i = .int .i64 j ∧ WGo (w.alloc (.cells #[.int .i64 c.off, .slice A c.wk.length k, .slice B c.cl.length m] 25)) g r (l ++ encIs [c.off] ++ preC c j) wr) (fun i _ => 2 - (intOf i).toNat)
  case atStart => exact ⟨0, by omega, rfl, by simpa [preC] using HG1.out⟩
  case round =>
    obtain ⟨j, hj, rfl, hG⟩ := hrel
    by_cases hjk : j < 2
    · rcases j with _ | _ | j
      · have hix : ∀ w' : World, (Instr.index 163 (.agg #[.slice A c.wk.length k, .slice B c.cl.length m]) (.int .i64 0)).run Try.prog w' = .ok (.slice A c.wk.length k) w' := fun _ => by kernel_rfl
        have HQ := Lib.hid (show WGo (w.alloc (.cells #[.int .i64 c.off, .slice A c.wk.length k, .slice B c.cl.length m] 25)) g r (l ++ encIs [c.off]) wr from by have := hG; simpa [preC] using this)
        have hql : (l ++ encIs [c.off]).length ≤ 130000 := by
          have e1 := encIs_len [c.off]; have e2 := encRow_len c.wk; have e3 := encRow_len c.cl
          simp at e1 ⊢; omega
        have HB := Lib.hid (show ∀ s ∈ c.wk, 0 ≤ s.f ∧ s.f < 9223372036854775808 ∧ 0 ≤ s.t ∧ s.t < 9223372036854775808 from fun s hs => HBd.out s (by simp [hs]))
        have HRw := Lib.hid (show SpR (w.alloc (.cells #[.int .i64 c.off, .slice A c.wk.length k, .slice B c.cl.length m] 25)) F A c.wk.length c.wk from (HR.out).wk)
        have hLl : c.wk.length ≤ 1000 := h1
        obtain ⟨Q, hQ⟩ : ∃ Q, Q = l ++ encIs [c.off] := ⟨_, rfl⟩
        have HQe := Lib.hid hQ
        rw [← hQ] at HQ hql
        clear hQ hG
        have hcv : IntKind.u64.wrap ((c.wk.length : Nat) : Int) = ((c.wk.length : Nat) : Int) := IntWalk.u64_in _ (by omega)
        go_wp2_with (go_at_call 57; go_must (refine (wnum_lit HQ.out [c.wk.length] _ (by simp) _ rfl 1 1 rfl (fun n hn => by simp at hn; omega) (by simp; omega)).mono ?_); rintro e w2 ⟨rfl, g2⟩; have HG2 := Lib.hid g2; clear g2)
        clear hcv
        go_loopw [29] (fun i w3 => ∃ q : Nat, q ≤ c.wk.length ∧ i = .int .i64 q ∧ WGo (w.alloc (.cells #[.int .i64 c.off, .slice A c.wk.length k, .slice B c.cl.length m] 25)) g r (Q ++ encs [c.wk.length] ++ encSps (c.wk.take q)) w3) (fun i _ => c.wk.length - (intOf i).toNat)
        case atStart => exact ⟨0, by omega, rfl, by simpa [encSps] using HG2.out⟩
        case round =>
          obtain ⟨q, hq, rfl, hG3⟩ := hrel
          have HG3 := Lib.hid hG3
          by_cases hqk : q < c.wk.length
          · have ha : c.wk[q]? = some (c.wk[q]'hqk) := List.getElem?_eq_getElem _
            obtain ⟨gb, off, e0, hgb, -, hc0, hc1⟩ := (HRw.out.go hG3 HF.out).at_ ha
            have hbs := HB.out _ (List.getElem_mem hqk)
            have HTk := Lib.hid (encSps_take c.wk q _ ha)
            have hl2 := encSps_len (c.wk.take q)
            have hl3 : (c.wk.take q).length ≤ 1000 := by simp; omega
            generalize c.wk[q]'hqk = s at *
            obtain ⟨f, t⟩ := s
            simp only at hc0 hc1 hbs HTk
            obtain ⟨b1, b2, b3, b4⟩ := hbs
            obtain ⟨f, rfl⟩ : ∃ f' : Nat, f = (f' : Int) := ⟨f.toNat, by omega⟩
            obtain ⟨t, rfl⟩ : ∃ t' : Nat, t = (t' : Int) := ⟨t.toNat, by omega⟩
            have hcf : IntKind.u64.wrap ((f : Nat) : Int) = (f : Int) := IntWalk.u64_in _ (by omega)
            have hct : IntKind.u64.wrap ((t : Nat) : Int) = (t : Int) := IntWalk.u64_in _ (by omega)
            obtain ⟨Y, hY⟩ : ∃ Y, Y = Q ++ encs [c.wk.length] ++ encSps (c.wk.take q) := ⟨_, rfl⟩
            have hYl : Y.length ≤ 200000 := by
              have e1 := encs_len [c.wk.length]
              rw [hY]; simp at e1 ⊢; simp at hl2; omega
            have HYe := Lib.hid hY
            rw [← hY] at HG3 hG3
            have HG3 := Lib.hid (hG3.far ((Touch.refl (fun _ => False) wr).alloc (.cells #[.int .i64 (f : Int), .int .i64 (t : Int)] 165)))
            clear hY ha hl2 hl3 hG3
            subst_eqs
            go_wp2_with (go_at_call 57; go_must (refine (wnum_lit HG3.out [f, t] _ (by simp) _ rfl 2 2 rfl (fun n hn => by simp at hn; omega) (by simp; omega)).mono ?_); rintro e w4 ⟨rfl, g4⟩; have HG4 := Lib.hid g4; clear g4)
            go_roundw
            case rel => exact ⟨q + 1, by omega, by go_num, by rw [HTk.out]; have := HG4.out; rw [HYe.out] at this; simpa [encS2] using this⟩
            case measure => simp [intOf]; omega
          · obtain rfl : q = c.wk.length := by omega
            have hG3 := HG3.out
            rw [List.take_length, HQe.out] at hG3
            have HG3 := Lib.hid hG3
            clear hG3
            go_wp2
            go_roundw
            case rel => exact ⟨1, by omega, by go_num, by have := HG3.out; simpa [preC, encRow] using this⟩
            case measure => simp [intOf]
      · have hix : ∀ w' : World, (Instr.index 163 (.agg #[.slice A c.wk.length k, .slice B c.cl.length m]) (.int .i64 1)).run Try.prog w' = .ok (.slice B c.cl.length m) w' := fun _ => by kernel_rfl
        have HQ := Lib.hid (show WGo (w.alloc (.cells #[.int .i64 c.off, .slice A c.wk.length k, .slice B c.cl.length m] 25)) g r (l ++ encIs [c.off] ++ encRow c.wk) wr from by have := hG; simpa [preC] using this)
        have hql : (l ++ encIs [c.off] ++ encRow c.wk).length ≤ 130000 := by
          have e1 := encIs_len [c.off]; have e2 := encRow_len c.wk; have e3 := encRow_len c.cl
          simp at e1 ⊢; omega
        have HB := Lib.hid (show ∀ s ∈ c.cl, 0 ≤ s.f ∧ s.f < 9223372036854775808 ∧ 0 ≤ s.t ∧ s.t < 9223372036854775808 from fun s hs => HBd.out s (by simp [hs]))
        have HRw := Lib.hid (show SpR (w.alloc (.cells #[.int .i64 c.off, .slice A c.wk.length k, .slice B c.cl.length m] 25)) F B c.cl.length c.cl from (HR.out).cl)
        have hLl : c.cl.length ≤ 1000 := h2
        obtain ⟨Q, hQ⟩ : ∃ Q, Q = l ++ encIs [c.off] ++ encRow c.wk := ⟨_, rfl⟩
        have HQe := Lib.hid hQ
        rw [← hQ] at HQ hql
        clear hQ hG
        have hcv : IntKind.u64.wrap ((c.cl.length : Nat) : Int) = ((c.cl.length : Nat) : Int) := IntWalk.u64_in _ (by omega)
        go_wp2_with (go_at_call 57; go_must (refine (wnum_lit HQ.out [c.cl.length] _ (by simp) _ rfl 1 1 rfl (fun n hn => by simp at hn; omega) (by simp; omega)).mono ?_); rintro e w2 ⟨rfl, g2⟩; have HG2 := Lib.hid g2; clear g2)
        clear hcv
        go_loopw [29] (fun i w3 => ∃ q : Nat, q ≤ c.cl.length ∧ i = .int .i64 q ∧ WGo (w.alloc (.cells #[.int .i64 c.off, .slice A c.wk.length k, .slice B c.cl.length m] 25)) g r (Q ++ encs [c.cl.length] ++ encSps (c.cl.take q)) w3) (fun i _ => c.cl.length - (intOf i).toNat)
        case atStart => exact ⟨0, by omega, rfl, by simpa [encSps] using HG2.out⟩
        case round =>
          obtain ⟨q, hq, rfl, hG3⟩ := hrel
          have HG3 := Lib.hid hG3
          by_cases hqk : q < c.cl.length
          · have ha : c.cl[q]? = some (c.cl[q]'hqk) := List.getElem?_eq_getElem _
            obtain ⟨gb, off, e0, hgb, -, hc0, hc1⟩ := (HRw.out.go hG3 HF.out).at_ ha
            have hbs := HB.out _ (List.getElem_mem hqk)
            have HTk := Lib.hid (encSps_take c.cl q _ ha)
            have hl2 := encSps_len (c.cl.take q)
            have hl3 : (c.cl.take q).length ≤ 1000 := by simp; omega
            generalize c.cl[q]'hqk = s at *
            obtain ⟨f, t⟩ := s
            simp only at hc0 hc1 hbs HTk
            obtain ⟨b1, b2, b3, b4⟩ := hbs
            obtain ⟨f, rfl⟩ : ∃ f' : Nat, f = (f' : Int) := ⟨f.toNat, by omega⟩
            obtain ⟨t, rfl⟩ : ∃ t' : Nat, t = (t' : Int) := ⟨t.toNat, by omega⟩
            have hcf : IntKind.u64.wrap ((f : Nat) : Int) = (f : Int) := IntWalk.u64_in _ (by omega)
            have hct : IntKind.u64.wrap ((t : Nat) : Int) = (t : Int) := IntWalk.u64_in _ (by omega)
            obtain ⟨Y, hY⟩ : ∃ Y, Y = Q ++ encs [c.cl.length] ++ encSps (c.cl.take q) := ⟨_, rfl⟩
            have hYl : Y.length ≤ 200000 := by
              have e1 := encs_len [c.cl.length]
              rw [hY]; simp at e1 ⊢; simp at hl2; omega
            have HYe := Lib.hid hY
            rw [← hY] at HG3 hG3
            have HG3 := Lib.hid (hG3.far ((Touch.refl (fun _ => False) wr).alloc (.cells #[.int .i64 (f : Int), .int .i64 (t : Int)] 165)))
            clear hY ha hl2 hl3 hG3
            subst_eqs
            go_wp2_with (go_at_call 57; go_must (refine (wnum_lit HG3.out [f, t] _ (by simp) _ rfl 2 2 rfl (fun n hn => by simp at hn; omega) (by simp; omega)).mono ?_); rintro e w4 ⟨rfl, g4⟩; have HG4 := Lib.hid g4; clear g4)
            go_roundw
            case rel => exact ⟨q + 1, by omega, by go_num, by rw [HTk.out]; have := HG4.out; rw [HYe.out] at this; simpa [encS2] using this⟩
            case measure => simp [intOf]; omega
          · obtain rfl : q = c.cl.length := by omega
            have hG3 := HG3.out
            rw [List.take_length, HQe.out] at hG3
            have HG3 := Lib.hid hG3
            clear hG3
            go_wp2
            go_roundw
            case rel => exact ⟨2, by omega, by go_num, by have := HG3.out; simpa [preC, encRow] using this⟩
            case measure => simp [intOf]
      · omega
    · obtain rfl : j = 2 := by omega
      have HG2 := Lib.hid hG
      clear hG
      go_wp2
      go_end0
      have hG := HG2.out
      exact ⟨rfl, WGo.next (HT0.out.mono (fun _ _ e => e.elim)) (.inl rfl) (by simpa [preC, encCa] using hG)⟩
end Go.Proofs.Ytcblbjhhlnmkjaa
end

section
namespace Go.Proofs.Ytcblbjhhlnmkjaa
open Go.RowKit Cal
set_option maxHeartbeats 4000000
set_option maxRecDepth 100000
set_option linter.unusedVariables false
attribute [local irreducible] wpPlan

/-- A contract's bytes. -/
def encK (c : Co) : List UInt8 := encs [c.cal.toNat, c.lv.length] ++ encSps c.lv ++ encs [c.rt.toNat, c.bk.toNat]
theorem encK_len (c : Co) (h : c.lv.length ≤ 60) : (encK c).length ≤ 36 + 18 * c.lv.length := by
  have e1 := encs_len [c.cal.toNat, c.lv.length]; have e2 := encSps_len c.lv; have e3 := encs_len [c.rt.toNat, c.bk.toNat]
  simp [encK] at *; omega
theorem kput_any (g : Nat) (r : Option Nat) (l : List UInt8) (c : Co) (F : Nat → Prop) (A : Option Addr) (n : Nat) (w : World) (h : WAt w g r l) (hr : SpR w F A c.lv.length c.lv) (hF : ∀ q, F q → q ≠ g ∧ r ≠ some q) (hgd : goodB c = true) (hsm : l.length ≤ 50000) :
    Calls Try.prog 59 #[.pointer (some ⟨g, 0, none⟩), .agg #[.int .i64 c.cal, .slice A c.lv.length n, .int .i64 c.rt, .int .i64 c.bk]] w (WPost w g r (l ++ encK c)) := by
  have hgl := h.lt
  have hrl := h.ltr
  obtain ⟨b1, b2, b3, b4, b5, b6, b7, b8⟩ := good_hd hgd
  have HBd := Lib.hid (good_lv hgd)
  have HEk := Lib.hid (show encK c = encs [c.cal.toNat, c.lv.length] ++ encSps c.lv ++ encs [c.rt.toNat, c.bk.toNat] from rfl)
  have t0 := (Touch.refl (fun _ => False) w).alloc (.cells #[.int .i64 c.cal, .slice A c.lv.length n, .int .i64 c.rt, .int .i64 c.bk] 28)
  have HT0 := Lib.hid t0
  have HBx := Lib.hid (Blk.new w 28 #[.int .i64 c.cal, .slice A c.lv.length n, .int .i64 c.rt, .int .i64 c.bk])
  have HG := Lib.hid (show WGo (w.alloc (.cells #[.int .i64 c.cal, .slice A c.lv.length n, .int .i64 c.rt, .int .i64 c.bk] 28)) g r l _ from WGo.start (h.touch t0 (fun e => e) (fun _ _ e => e)))
  have HR := Lib.hid (hr.touch t0 (fun _ _ e => e))
  have hg1 : w.heap.size ≠ g := by omega
  have hr1 : r ≠ some w.heap.size := fun e => by have := hrl _ e; omega
  have HF := Lib.hid hF
  generalize encK c = E at *
  obtain ⟨cal, lv, rt, bk⟩ := c
  simp only at *
  obtain ⟨cal, rfl⟩ : ∃ k : Nat, cal = (k : Int) := ⟨cal.toNat, by omega⟩
  obtain ⟨rt, rfl⟩ : ∃ k : Nat, rt = (k : Int) := ⟨rt.toNat, by omega⟩
  obtain ⟨bk, rfl⟩ : ∃ k : Nat, bk = (k : Int) := ⟨bk.toNat, by omega⟩
  simp only [Int.toNat_natCast] at HEk
  clear h hr hF t0 hrl hgd
  have hcv : IntKind.u64.wrap ((lv.length : Nat) : Int) = ((lv.length : Nat) : Int) := IntWalk.u64_in _ (by omega)
  have hcc : IntKind.u64.wrap ((cal : Nat) : Int) = ((cal : Nat) : Int) := IntWalk.u64_in _ (by omega)
  go_enter Try.func59, Try.ntmps59
  go_wp2_with (go_at_call 57; go_must (refine (wnum_lit HG.out [cal, lv.length] _ (by simp) _ rfl 2 2 rfl (fun n hn => by simp at hn; omega) (by simp; omega)).mono ?_); rintro e w1 ⟨rfl, g1⟩; have HG1 := Lib.hid g1; have hbx := g1.blk HBx.out hg1 hr1; have q1 := hbx.cell 1; simp at q1; clear g1 hbx)
  clear q1 hcv hcc
  go_loopw [19] (fun i wr => ∃ q : Nat, q ≤ lv.length ∧ i = .int .i64 q ∧ WGo (w.alloc (.cells #[.int .i64 (cal : Int), .slice A lv.length n, .int .i64 (rt : Int), .int .i64 (bk : Int)] 28)) g r (l ++ encs [cal, lv.length] ++ encSps (lv.take q)) wr) (fun i _ => lv.length - (intOf i).toNat)
  case atStart => exact ⟨0, by omega, rfl, by simpa [encSps] using HG1.out⟩
  case round =>
    obtain ⟨q, hq, rfl, hG3⟩ := hrel
    have HG3 := Lib.hid hG3
    by_cases hqk : q < lv.length
    · have ha : lv[q]? = some (lv[q]'hqk) := List.getElem?_eq_getElem _
      obtain ⟨gb, off, e0, hgb, -, hc0, hc1⟩ := (HR.out.go hG3 HF.out).at_ ha
      have hbs := HBd.out _ (List.getElem_mem hqk)
      have HTk := Lib.hid (encSps_take lv q _ ha)
      have hl2 := encSps_len (lv.take q)
      have hl3 : (lv.take q).length ≤ 6 := by simp; omega
      generalize lv[q]'hqk = s at *
      obtain ⟨f, t⟩ := s
      simp only at hc0 hc1 hbs HTk
      obtain ⟨c1, c2, c3, c4⟩ := hbs
      obtain ⟨f, rfl⟩ : ∃ f' : Nat, f = (f' : Int) := ⟨f.toNat, by omega⟩
      obtain ⟨t, rfl⟩ : ∃ t' : Nat, t = (t' : Int) := ⟨t.toNat, by omega⟩
      have hcf : IntKind.u64.wrap ((f : Nat) : Int) = (f : Int) := IntWalk.u64_in _ (by omega)
      have hct : IntKind.u64.wrap ((t : Nat) : Int) = (t : Int) := IntWalk.u64_in _ (by omega)
      obtain ⟨Y, hY⟩ : ∃ Y, Y = l ++ encs [cal, lv.length] ++ encSps (lv.take q) := ⟨_, rfl⟩
      have hYl : Y.length ≤ 60000 := by
        have e1 := encs_len [cal, lv.length]
        rw [hY]; simp at e1 ⊢; simp at hl2; omega
      have HYe := Lib.hid hY
      rw [← hY] at HG3 hG3
      have HG3 := Lib.hid (hG3.far ((Touch.refl (fun _ => False) wr).alloc (.cells #[.int .i64 (f : Int), .int .i64 (t : Int)] 153)))
      clear hY ha hl2 hl3 hG3 HBx HG1 HG
      subst_eqs
      go_wp2_with (go_at_call 57; go_must (refine (wnum_lit HG3.out [f, t] _ (by simp) _ rfl 2 2 rfl (fun n hn => by simp at hn; omega) (by simp; omega)).mono ?_); rintro e w4 ⟨rfl, g4⟩; have HG4 := Lib.hid g4; clear g4)
      go_roundw
      case rel => exact ⟨q + 1, by omega, by go_num, by rw [HTk.out]; have := HG4.out; rw [HYe.out] at this; simpa [encS2] using this⟩
      case measure => simp [intOf]; omega
    · obtain rfl : q = lv.length := by omega
      have hG4 := hG3
      rw [List.take_length] at hG4
      obtain ⟨Y, hY⟩ : ∃ Y, Y = l ++ encs [cal, lv.length] ++ encSps lv := ⟨_, rfl⟩
      have hYl : Y.length ≤ 60000 := by
        have e1 := encs_len [cal, lv.length]
        have e2 := encSps_len lv
        rw [hY]; simp at e1 ⊢; omega
      have HYe := Lib.hid hY
      rw [← hY] at hG4
      have HG4 := Lib.hid hG4
      have hbx := hG4.blk HBx.out hg1 hr1
      have q2 := hbx.cell 2; have q3 := hbx.cell 3
      simp at q2 q3
      have hcr : IntKind.u64.wrap ((rt : Nat) : Int) = ((rt : Nat) : Int) := IntWalk.u64_in _ (by omega)
      have hcb : IntKind.u64.wrap ((bk : Nat) : Int) = ((bk : Nat) : Int) := IntWalk.u64_in _ (by omega)
      clear hG3 hG4 hbx HG3 hY HG1 HG
      go_wp2_with (go_at_call 57; go_must (refine (wnum_lit HG4.out [rt, bk] _ (by simp) _ rfl 2 2 rfl (fun n hn => by simp at hn; omega) (by simp; omega)).mono ?_); rintro e w5 ⟨rfl, g5⟩; have HG5 := Lib.hid g5; clear g5)
      go_end0
      have hG := HG5.out
      rw [HYe.out] at hG
      exact ⟨rfl, WGo.next (HT0.out.mono (fun _ _ e => e.elim)) (.inl rfl) (by rw [HEk.out]; simpa using hG)⟩
end Go.Proofs.Ytcblbjhhlnmkjaa
end

section
namespace Go.Proofs.Ytcblbjhhlnmkjaa
open Go.RowKit
/-- A type whose values are n cells. -/
structure RowT (t : TypeId) (n : Nat) : Prop where
  d : ∃ d, Try.prog.underlying t = some d ∧ d.isRow = true
  z : (Try.prog.info? t).map (·.size) = some n
theorem RowT.load {t : TypeId} {n : Nat} (h : RowT t n) {w : World} {b o : Nat} {cs : Array Value} (hn : cs.size = n) (hc : w.rangeAt b o cs.toList) : (Instr.loadAt t (.pointer (some ⟨b, o, none⟩))).run Try.prog w = .ok (.agg cs) w := by
  obtain ⟨d, h1, h2⟩ := h.d
  have := run_loadAt_mid (P := Try.prog) w b o t cs.toList d hc h1 h2 (by rw [h.z]; simp [hn])
  simpa using this
theorem RowT.new {t : TypeId} {n : Nat} (h : RowT t n) (w : World) (c cs : Array Value) (hc : c.size = n) (hn : cs.size = n) (h1 : cs.all (·.oneCell') = true) :
    (Instr.storeAt t (.pointer (some ⟨w.heap.size, 0, none⟩)) (.agg cs)).run Try.prog (w.alloc (.cells c t)) = .ok () (w.alloc (.cells cs t)) :=
  run_storeAt_new w t c cs (by rw [h.z]; simp [hn]) (by omega) h1
theorem Blk.range {w : World} {g : Nat} {t : TypeId} {C : Array Value} (h : Blk w g t C) (o n : Nat) : w.rangeAt g o (C.extract o (o + n)).toList := World.rangeAt_of_block h o n
theorem Blk.whole {w : World} {g : Nat} {t : TypeId} {C : Array Value} (h : Blk w g t C) : w.rangeAt g 0 C.toList := by
  have := h.range 0 C.size
  simpa using this
section
variable {ops : Array Oper} {rest : List Oper} {o : Oper} {a : Act} {w : World} {Q : Exit → Act → World → Prop}
/-- A load. -/
theorem loadC {t : TypeId} {n : Nat} (R : RowT t n) (x : Operand) (ho : o.op = .load t x) (hw : Region.wanted o (yielded ops a.tmps) = true) (b k : Nat) (hx : a.eval x = .pointer (some ⟨b, k, none⟩)) (cs : Array Value) (hn : cs.size = n) (hc : w.rangeAt b k cs.toList)
    (h : wpList Try.prog ops Q rest (a.put o.dst (.agg cs)) w) : wpList Try.prog ops Q (o :: rest) a w := by
  obtain ⟨d, h1, h2⟩ := R.d
  refine BigFrame.wpList_want hw ?_
  intro K hK
  refine wp_load_mid t x ho b k hx cs.toList d hc h1 h2 (by rw [R.z]; simp [hn]) ?_
  exact hK _ _ (by simpa using h)
/-- A store of a whole value into the block that was made last. -/
theorem storeC {t : TypeId} {n : Nat} (R : RowT t n) (x y : Operand) (ho : o.op = .store t x y) (hw : Region.wanted o (yielded ops a.tmps) = true) (W : World) (c cs : Array Value) (hW : w = W.alloc (.cells c t)) (hx : a.eval x = .pointer (some ⟨W.heap.size, 0, none⟩)) (hy : a.eval y = .agg cs) (hcn : c.size = n) (hn : cs.size = n) (h1 : cs.all (·.oneCell') = true)
    (h : wpList Try.prog ops Q rest (a.put o.dst undef) (W.alloc (.cells cs t))) : wpList Try.prog ops Q (o :: rest) a w := by
  subst hW
  refine BigFrame.wpList_want hw ?_
  intro K hK
  unfold Oper.wp execOp
  simp only [ho, hx, hy, Instr.storeAt, Instr.sureAddr, Sem.run_bind, Sem.run_pure, Result.andThen_ok, run_storeVar_new (P := Try.prog) W t c cs (by rw [R.z]; simp [hn]) (by omega) h1]
  exact hK _ _ h
/-- A held load in a region walked by a plan. -/
theorem plan_hC {T : Nat → Prop} {t : TypeId} {n : Nat} (R : RowT t n) {i : Nat} {rest : List Stp} (hi : ops[i]? = some o) (x : Operand) (ho : o.op = .load t x) (hw : Region.wanted o (yielded ops a.tmps) = true) (b k : Nat) (hx : a.eval x = .pointer (some ⟨b, k, none⟩)) (cs : Array Value) (hn : cs.size = n)
    (hc : ∀ w', Touch T w w' → w'.rangeAt b k cs.toList) (h : wpPlan Try.prog ops Q T rest (a.put o.dst (.agg cs)) w) : wpPlan Try.prog ops Q T ((1, i) :: rest) a w := by
  obtain ⟨d, h1, h2⟩ := R.d
  refine plan_h hi hw (fun w' ht => ?_) h
  unfold execOp
  simp only [ho, hx, Instr.loadAt, Instr.sureAddr, Sem.run_bind, Sem.run_pure, Result.andThen_ok, run_loadVar_mid (P := Try.prog) w' b k t cs.toList d (hc w' ht) h1 h2 (by rw [R.z]; simp [hn])]
end
end Go.Proofs.Ytcblbjhhlnmkjaa
end

section
namespace Go.Proofs.Ytcblbjhhlnmkjaa
open Go.RowKit
theorem setAll_whole : ∀ (vs : List Value) (cs : Array Value), cs.size = vs.length → setAll cs 0 vs = vs.toArray := by
  have key : ∀ (vs : List Value) (o : Nat) (cs : Array Value), o + vs.length ≤ cs.size → ∀ k, (setAll cs o vs)[k]? = if o ≤ k ∧ k < o + vs.length then vs[k - o]? else cs[k]? := by
    intro vs
    induction vs with
    | nil => intro o cs h k; rw [setAll, if_neg (by simp <;> omega)]
    | cons v vs ih =>
      intro o cs h k
      simp only [List.length_cons] at h
      rw [setAll, ih (o + 1) (cs.setIfInBounds o v) (by simp; omega) k]
      by_cases h1 : k = o
      · subst h1
        rw [if_neg (by omega), if_pos (by simp)]
        simp [Array.getElem?_setIfInBounds]; omega
      · by_cases h2 : o + 1 ≤ k ∧ k < o + 1 + vs.length
        · rw [if_pos h2, if_pos (by simp; omega), show k - o = (k - (o + 1)) + 1 by omega, List.getElem?_cons_succ]
        · rw [if_neg h2, if_neg (by simp; omega)]
          simp [Ne.symm h1]
  intro vs cs h
  apply Array.ext_getElem?
  intro k
  rw [key vs 0 cs (by omega) k]
  by_cases hk : k < vs.length
  · rw [if_pos (by omega)]; simp
  · rw [if_neg (by omega)]
    rw [Array.getElem?_eq_none (by omega)]; simp; omega
section
variable {ops : Array Oper} {rest : List Oper} {o : Oper} {a : Act} {w : World} {Q : Exit → Act → World → Prop}
theorem storeM {t : TypeId} {n : Nat} (R : RowT t n) (x y : Operand) (ho : o.op = .store t x y) (hw : Region.wanted o (yielded ops a.tmps) = true) (b : Nat) (hx : a.eval x = .pointer (some ⟨b, 0, none⟩)) (cs : Array Value) (hy : a.eval y = .agg cs) (T : TypeId) (C : Array Value) (hb : Blk w b T C) (hC : C.size = n) (hn : cs.size = n) (h1 : cs.all (·.oneCell') = true)
    (h : ∀ w', Blk w' b T cs → Touch (fun q => q = b) w w' → wpList Try.prog ops Q rest (a.put o.dst undef) w') : wpList Try.prog ops Q (o :: rest) a w := by
  refine BigFrame.wpList_want hw ?_
  intro K hK
  have hth : w.there b 0 cs.size := fun j hj => by
    have e := hb.cell j
    have hf := hb.frozen j
    simp only [Nat.zero_add] at *
    rw [Array.getElem?_eq_getElem (by omega)] at e
    exact ⟨by rw [e]; rfl, hf⟩
  have hB := hb.setCells cs.toList 0
  have hT : Touch (fun q => q = b) w (w.setCells b 0 cs.toList) := Touch.setCells cs.toList 0 w (Touch.refl _ _) (fun _ => rfl)
  rw [setAll_whole _ _ (by simp; omega)] at hB
  refine wp_store_mid t x y ho b 0 cs hx hy hth (by rw [R.z]; simp [hn]) h1 ?_
  exact hK _ _ (h _ (by simpa using hB) hT)
end
end Go.Proofs.Ytcblbjhhlnmkjaa
end
