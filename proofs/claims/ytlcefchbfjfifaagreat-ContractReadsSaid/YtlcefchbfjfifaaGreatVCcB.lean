/- calendar.Put. (written by gencc.py) -/
import Derived.Test.YtlcefchbfjfifaaGreatVCalJ
import Derived.Test.YtlcefchbfjfifaaGreatVWrA
namespace Go.Proofs.YtlcefchbfjfifaaGreat
open Go.RowKit Cal
set_option maxHeartbeats 4000000
set_option maxRecDepth 100000
set_option linter.unusedVariables false

def encS2 (s : Sp) : List UInt8 := encs [s.f.toNat, s.t.toNat]
def encSps (l : List Sp) : List UInt8 := l.flatMap encS2
def encRow (l : List Sp) : List UInt8 := encs [l.length] ++ encSps l
def encCa (c : Ca) : List UInt8 := encIs [c.off] ++ encRow c.wk ++ encRow c.cl
def preC (c : Ca) : Nat → List UInt8
  | 0 => []
  | 1 => encRow c.wk
  | _ => encRow c.wk ++ encRow c.cl
theorem encSps_len (l : List Sp) : (encSps l).length ≤ 18 * l.length := by
  induction l with
  | nil => simp [encSps]
  | cons s l ih =>
    have := encs_len [s.f.toNat, s.t.toNat]
    simp [encSps, encS2] at ih this ⊢; omega
theorem encRow_len (l : List Sp) : (encRow l).length ≤ 9 + 18 * l.length := by
  have := encs_len [l.length]; have := encSps_len l
  simp [encRow] at *; omega
theorem encSps_take (l : List Sp) (j : Nat) (s : Sp) (hs : l[j]? = some s) : encSps (l.take (j + 1)) = encSps (l.take j) ++ encS2 s := by
  obtain ⟨h1, h2⟩ := List.getElem?_eq_some_iff.1 hs
  rw [List.take_succ_eq_append_getElem h1, h2]; simp [encSps]
theorem SpR.go {w w' : World} {g : Nat} {r : Option Nat} {l : List UInt8} {F : Nat → Prop} {A : Option Addr} {n : Nat} {sp : List Sp} (hr : SpR w F A n sp) (h : WGo w g r l w') (hF : ∀ k, F k → k ≠ g ∧ r ≠ some k) : SpR w' F A n sp := by
  obtain ⟨r', _, t, _⟩ := h
  exact hr.touch t (fun k hk e => by rcases e with e | e; exact (hF k hk).1 e; exact (hF k hk).2 e)
theorem cput_any (g : Nat) (r : Option Nat) (l : List UInt8) (c : Ca) (F : Nat → Prop) (A B : Option Addr) (k m : Nat) (w : World) (h : WAt w g r l) (hr : CaR w F c A B) (hF : ∀ q, F q → q ≠ g ∧ r ≠ some q)
    (hbd : ∀ s ∈ c.wk ++ c.cl, 0 ≤ s.f ∧ s.f < 9223372036854775808 ∧ 0 ≤ s.t ∧ s.t < 9223372036854775808) (ho : -9223372036854775808 ≤ c.off ∧ c.off ≤ 9223372036854775807) (h1 : c.wk.length ≤ 1000) (h2 : c.cl.length ≤ 1000) (hsm : l.length ≤ 50000) :
    Calls Tryz.prog 89 #[.pointer (some ⟨g, 0, none⟩), .agg #[.int .i64 c.off, .slice A c.wk.length k, .slice B c.cl.length m]] w (WPost w g r (l ++ encCa c)) := by
  have hgl := h.lt
  have hrl := h.ltr
  have t0 := (Touch.refl (fun _ => False) w).alloc (.cells #[.int .i64 c.off, .slice A c.wk.length k, .slice B c.cl.length m] 51)
  have HT0 := Lib.hid t0
  have HBx := Lib.hid (Blk.new w 51 #[.int .i64 c.off, .slice A c.wk.length k, .slice B c.cl.length m])
  have HG := Lib.hid (show WGo (w.alloc (.cells #[.int .i64 c.off, .slice A c.wk.length k, .slice B c.cl.length m] 51)) g r l _ from WGo.start (h.touch t0 (fun e => e) (fun _ _ e => e)))
  have HR := Lib.hid (hr.touch t0 (fun _ _ e => e))
  have hg1 : w.heap.size ≠ g := by omega
  have hr1 : r ≠ some w.heap.size := fun e => by have := hrl _ e; omega
  have HF := Lib.hid hF
  have HBd := Lib.hid hbd
  have HO := Lib.hid ho
  clear h hr hF hbd t0 ho hrl
  go_enter Tryz.func89, Tryz.ntmps89
  go_wp2_with (go_at_call 117; go_must (refine (wint_lit HG.out [c.off] _ (by simp) _ rfl 1 1 rfl (fun n hn => by simp at hn; subst hn; exact HO.out) (by simp; omega)).mono ?_); rintro e w1 ⟨rfl, g1⟩; have HG1 := Lib.hid g1; have hbx := g1.blk HBx.out hg1 hr1; have q1 := hbx.cell 1; have q2 := hbx.cell 2; simp at q1 q2; clear g1 hbx)
  clear q1 q2
  go_loopw [18] (fun i wr => ∃ j : Nat, j ≤ 2 ∧ i = .int .i64 j ∧ WGo (w.alloc (.cells #[.int .i64 c.off, .slice A c.wk.length k, .slice B c.cl.length m] 51)) g r (l ++ encIs [c.off] ++ preC c j) wr) (fun i _ => 2 - (intOf i).toNat)
  case atStart => exact ⟨0, by omega, rfl, by simpa [preC] using HG1.out⟩
  case round =>
    obtain ⟨j, hj, rfl, hG⟩ := hrel
    by_cases hjk : j < 2
    · rcases j with _ | _ | j
      · have hix : ∀ w' : World, (Instr.index 210 (.agg #[.slice A c.wk.length k, .slice B c.cl.length m]) (.int .i64 0)).run Tryz.prog w' = .ok (.slice A c.wk.length k) w' := fun _ => by kernel_rfl
        have HQ := Lib.hid (show WGo (w.alloc (.cells #[.int .i64 c.off, .slice A c.wk.length k, .slice B c.cl.length m] 51)) g r (l ++ encIs [c.off]) wr from by have := hG; simpa [preC] using this)
        have hql : (l ++ encIs [c.off]).length ≤ 130000 := by
          have e1 := encIs_len [c.off]; have e2 := encRow_len c.wk; have e3 := encRow_len c.cl
          simp at e1 ⊢; omega
        have HB := Lib.hid (show ∀ s ∈ c.wk, 0 ≤ s.f ∧ s.f < 9223372036854775808 ∧ 0 ≤ s.t ∧ s.t < 9223372036854775808 from fun s hs => HBd.out s (by simp [hs]))
        have HRw := Lib.hid (show SpR (w.alloc (.cells #[.int .i64 c.off, .slice A c.wk.length k, .slice B c.cl.length m] 51)) F A c.wk.length c.wk from (HR.out).wk)
        have hLl : c.wk.length ≤ 1000 := h1
        obtain ⟨Q, hQ⟩ : ∃ Q, Q = l ++ encIs [c.off] := ⟨_, rfl⟩
        have HQe := Lib.hid hQ
        rw [← hQ] at HQ hql
        clear hQ hG
        have hcv : IntKind.u64.wrap ((c.wk.length : Nat) : Int) = ((c.wk.length : Nat) : Int) := IntWalk.u64_in _ (by omega)
        go_wp2_with (go_at_call 41; go_must (refine (wnum_lit HQ.out [c.wk.length] _ (by simp) _ rfl 1 1 rfl (fun n hn => by simp at hn; omega) (by simp; omega)).mono ?_); rintro e w2 ⟨rfl, g2⟩; have HG2 := Lib.hid g2; clear g2)
        clear hcv
        go_loopw [29] (fun i w3 => ∃ q : Nat, q ≤ c.wk.length ∧ i = .int .i64 q ∧ WGo (w.alloc (.cells #[.int .i64 c.off, .slice A c.wk.length k, .slice B c.cl.length m] 51)) g r (Q ++ encs [c.wk.length] ++ encSps (c.wk.take q)) w3) (fun i _ => c.wk.length - (intOf i).toNat)
        case atStart => exact ⟨0, by omega, rfl, by simpa [encSps] using HG2.out⟩
        case round =>
          obtain ⟨q, hq, rfl, hG3⟩ := hrel
          have HG3 := Lib.hid hG3
          by_cases hqk : q < c.wk.length
          · have ha : c.wk[q]? = some (c.wk[q]'hqk) := List.getElem?_eq_getElem _
            obtain ⟨gb, off, e0, hgb, -, hc0, hc1⟩ := (HRw.out.go hG3 HF.out).at_ ha
            have hbs := HB.out _ (List.getElem_mem hqk)
            have HTk := Lib.hid (encSps_take c.wk q _ ha)
            have hl2 := encSps_len (c.wk.take q)
            have hl3 : (c.wk.take q).length ≤ 1000 := by simp; omega
            generalize c.wk[q]'hqk = s at *
            obtain ⟨f, t⟩ := s
            simp only at hc0 hc1 hbs HTk
            obtain ⟨b1, b2, b3, b4⟩ := hbs
            obtain ⟨f, rfl⟩ : ∃ f' : Nat, f = (f' : Int) := ⟨f.toNat, by omega⟩
            obtain ⟨t, rfl⟩ : ∃ t' : Nat, t = (t' : Int) := ⟨t.toNat, by omega⟩
            have hcf : IntKind.u64.wrap ((f : Nat) : Int) = (f : Int) := IntWalk.u64_in _ (by omega)
            have hct : IntKind.u64.wrap ((t : Nat) : Int) = (t : Int) := IntWalk.u64_in _ (by omega)
            obtain ⟨Y, hY⟩ : ∃ Y, Y = Q ++ encs [c.wk.length] ++ encSps (c.wk.take q) := ⟨_, rfl⟩
            have hYl : Y.length ≤ 200000 := by
              have e1 := encs_len [c.wk.length]
              rw [hY]; simp at e1 ⊢; simp at hl2; omega
            have HYe := Lib.hid hY
            rw [← hY] at HG3 hG3
            have HG3 := Lib.hid (hG3.far ((Touch.refl (fun _ => False) wr).alloc (.cells #[.int .i64 (f : Int), .int .i64 (t : Int)] 92)))
            clear hY ha hl2 hl3 hG3
            subst_eqs
            go_wp2_with (go_at_call 41; go_must (refine (wnum_lit HG3.out [f, t] _ (by simp) _ rfl 2 2 rfl (fun n hn => by simp at hn; omega) (by simp; omega)).mono ?_); rintro e w4 ⟨rfl, g4⟩; have HG4 := Lib.hid g4; clear g4)
            go_roundw
            case rel => exact ⟨q + 1, by omega, by go_num, by rw [HTk.out]; have := HG4.out; rw [HYe.out] at this; simpa [encS2] using this⟩
            case measure => simp [intOf]; omega
          · obtain rfl : q = c.wk.length := by omega
            have hG3 := HG3.out
            rw [List.take_length, HQe.out] at hG3
            have HG3 := Lib.hid hG3
            clear hG3
            go_wp2
            go_roundw
            case rel => exact ⟨1, by omega, by go_num, by have := HG3.out; simpa [preC, encRow] using this⟩
            case measure => simp [intOf]
      · have hix : ∀ w' : World, (Instr.index 210 (.agg #[.slice A c.wk.length k, .slice B c.cl.length m]) (.int .i64 1)).run Tryz.prog w' = .ok (.slice B c.cl.length m) w' := fun _ => by kernel_rfl
        have HQ := Lib.hid (show WGo (w.alloc (.cells #[.int .i64 c.off, .slice A c.wk.length k, .slice B c.cl.length m] 51)) g r (l ++ encIs [c.off] ++ encRow c.wk) wr from by have := hG; simpa [preC] using this)
        have hql : (l ++ encIs [c.off] ++ encRow c.wk).length ≤ 130000 := by
          have e1 := encIs_len [c.off]; have e2 := encRow_len c.wk; have e3 := encRow_len c.cl
          simp at e1 ⊢; omega
        have HB := Lib.hid (show ∀ s ∈ c.cl, 0 ≤ s.f ∧ s.f < 9223372036854775808 ∧ 0 ≤ s.t ∧ s.t < 9223372036854775808 from fun s hs => HBd.out s (by simp [hs]))
        have HRw := Lib.hid (show SpR (w.alloc (.cells #[.int .i64 c.off, .slice A c.wk.length k, .slice B c.cl.length m] 51)) F B c.cl.length c.cl from (HR.out).cl)
        have hLl : c.cl.length ≤ 1000 := h2
        obtain ⟨Q, hQ⟩ : ∃ Q, Q = l ++ encIs [c.off] ++ encRow c.wk := ⟨_, rfl⟩
        have HQe := Lib.hid hQ
        rw [← hQ] at HQ hql
        clear hQ hG
        have hcv : IntKind.u64.wrap ((c.cl.length : Nat) : Int) = ((c.cl.length : Nat) : Int) := IntWalk.u64_in _ (by omega)
        go_wp2_with (go_at_call 41; go_must (refine (wnum_lit HQ.out [c.cl.length] _ (by simp) _ rfl 1 1 rfl (fun n hn => by simp at hn; omega) (by simp; omega)).mono ?_); rintro e w2 ⟨rfl, g2⟩; have HG2 := Lib.hid g2; clear g2)
        clear hcv
        go_loopw [29] (fun i w3 => ∃ q : Nat, q ≤ c.cl.length ∧ i = .int .i64 q ∧ WGo (w.alloc (.cells #[.int .i64 c.off, .slice A c.wk.length k, .slice B c.cl.length m] 51)) g r (Q ++ encs [c.cl.length] ++ encSps (c.cl.take q)) w3) (fun i _ => c.cl.length - (intOf i).toNat)
        case atStart => exact ⟨0, by omega, rfl, by simpa [encSps] using HG2.out⟩
        case round =>
          obtain ⟨q, hq, rfl, hG3⟩ := hrel
          have HG3 := Lib.hid hG3
          by_cases hqk : q < c.cl.length
          · have ha : c.cl[q]? = some (c.cl[q]'hqk) := List.getElem?_eq_getElem _
            obtain ⟨gb, off, e0, hgb, -, hc0, hc1⟩ := (HRw.out.go hG3 HF.out).at_ ha
            have hbs := HB.out _ (List.getElem_mem hqk)
            have HTk := Lib.hid (encSps_take c.cl q _ ha)
            have hl2 := encSps_len (c.cl.take q)
            have hl3 : (c.cl.take q).length ≤ 1000 := by simp; omega
            generalize c.cl[q]'hqk = s at *
            obtain ⟨f, t⟩ := s
            simp only at hc0 hc1 hbs HTk
            obtain ⟨b1, b2, b3, b4⟩ := hbs
            obtain ⟨f, rfl⟩ : ∃ f' : Nat, f = (f' : Int) := ⟨f.toNat, by omega⟩
            obtain ⟨t, rfl⟩ : ∃ t' : Nat, t = (t' : Int) := ⟨t.toNat, by omega⟩
            have hcf : IntKind.u64.wrap ((f : Nat) : Int) = (f : Int) := IntWalk.u64_in _ (by omega)
            have hct : IntKind.u64.wrap ((t : Nat) : Int) = (t : Int) := IntWalk.u64_in _ (by omega)
            obtain ⟨Y, hY⟩ : ∃ Y, Y = Q ++ encs [c.cl.length] ++ encSps (c.cl.take q) := ⟨_, rfl⟩
            have hYl : Y.length ≤ 200000 := by
              have e1 := encs_len [c.cl.length]
              rw [hY]; simp at e1 ⊢; simp at hl2; omega
            have HYe := Lib.hid hY
            rw [← hY] at HG3 hG3
            have HG3 := Lib.hid (hG3.far ((Touch.refl (fun _ => False) wr).alloc (.cells #[.int .i64 (f : Int), .int .i64 (t : Int)] 92)))
            clear hY ha hl2 hl3 hG3
            subst_eqs
            go_wp2_with (go_at_call 41; go_must (refine (wnum_lit HG3.out [f, t] _ (by simp) _ rfl 2 2 rfl (fun n hn => by simp at hn; omega) (by simp; omega)).mono ?_); rintro e w4 ⟨rfl, g4⟩; have HG4 := Lib.hid g4; clear g4)
            go_roundw
            case rel => exact ⟨q + 1, by omega, by go_num, by rw [HTk.out]; have := HG4.out; rw [HYe.out] at this; simpa [encS2] using this⟩
            case measure => simp [intOf]; omega
          · obtain rfl : q = c.cl.length := by omega
            have hG3 := HG3.out
            rw [List.take_length, HQe.out] at hG3
            have HG3 := Lib.hid hG3
            clear hG3
            go_wp2
            go_roundw
            case rel => exact ⟨2, by omega, by go_num, by have := HG3.out; simpa [preC, encRow] using this⟩
            case measure => simp [intOf]
      · omega
    · obtain rfl : j = 2 := by omega
      have HG2 := Lib.hid hG
      clear hG
      go_wp2
      go_end0
      have hG := HG2.out
      exact ⟨rfl, WGo.next (HT0.out.mono (fun _ _ e => e.elim)) (.inl rfl) (by simpa [preC, encCa] using hG)⟩
end Go.Proofs.YtlcefchbfjfifaaGreat
