/- contract.Put. (written by genctb.py) The cells of a block, all at once. -/
import Derived.Test.YtlcefchbfjfifaaVChA
import Derived.Test.YtlcefchbfjfifaaVCcB
import Derived.Test.YtlcefchbfjfifaaVArgs
section
namespace Go.Proofs.Ytlcefchbfjfifaa
open Go.RowKit Cal
set_option maxHeartbeats 4000000
set_option maxRecDepth 100000
set_option linter.unusedVariables false
attribute [local irreducible] wpPlan

/-- A contract's bytes. -/
def encK (c : Co) : List UInt8 := encs [c.cal.toNat, c.lv.length] ++ encSps c.lv ++ encs [c.rt.toNat, c.bk.toNat]
theorem encK_len (c : Co) (h : c.lv.length ≤ 60) : (encK c).length ≤ 36 + 18 * c.lv.length := by
  have e1 := encs_len [c.cal.toNat, c.lv.length]; have e2 := encSps_len c.lv; have e3 := encs_len [c.rt.toNat, c.bk.toNat]
  simp [encK] at *; omega
theorem kput_any (g : Nat) (r : Option Nat) (l : List UInt8) (c : Co) (F : Nat → Prop) (A : Option Addr) (n : Nat) (w : World) (h : WAt w g r l) (hr : SpR w F A c.lv.length c.lv) (hF : ∀ q, F q → q ≠ g ∧ r ≠ some q) (hgd : goodB c = true) (hsm : l.length ≤ 50000) :
    Calls Try.prog 46 #[.pointer (some ⟨g, 0, none⟩), .agg #[.int .i64 c.cal, .slice A c.lv.length n, .int .i64 c.rt, .int .i64 c.bk]] w (WPost w g r (l ++ encK c)) := by
  have hgl := h.lt
  have hrl := h.ltr
  obtain ⟨b1, b2, b3, b4, b5, b6, b7, b8⟩ := good_hd hgd
  have HBd := Lib.hid (good_lv hgd)
  have HEk := Lib.hid (show encK c = encs [c.cal.toNat, c.lv.length] ++ encSps c.lv ++ encs [c.rt.toNat, c.bk.toNat] from rfl)
  have t0 := (Touch.refl (fun _ => False) w).alloc (.cells #[.int .i64 c.cal, .slice A c.lv.length n, .int .i64 c.rt, .int .i64 c.bk] 33)
  have HT0 := Lib.hid t0
  have HBx := Lib.hid (Blk.new w 33 #[.int .i64 c.cal, .slice A c.lv.length n, .int .i64 c.rt, .int .i64 c.bk])
  have HG := Lib.hid (show WGo (w.alloc (.cells #[.int .i64 c.cal, .slice A c.lv.length n, .int .i64 c.rt, .int .i64 c.bk] 33)) g r l _ from WGo.start (h.touch t0 (fun e => e) (fun _ _ e => e)))
  have HR := Lib.hid (hr.touch t0 (fun _ _ e => e))
  have hg1 : w.heap.size ≠ g := by omega
  have hr1 : r ≠ some w.heap.size := fun e => by have := hrl _ e; omega
  have HF := Lib.hid hF
  generalize encK c = E at *
  obtain ⟨cal, lv, rt, bk⟩ := c
  simp only at *
  obtain ⟨cal, rfl⟩ : ∃ k : Nat, cal = (k : Int) := ⟨cal.toNat, by omega⟩
  obtain ⟨rt, rfl⟩ : ∃ k : Nat, rt = (k : Int) := ⟨rt.toNat, by omega⟩
  obtain ⟨bk, rfl⟩ : ∃ k : Nat, bk = (k : Int) := ⟨bk.toNat, by omega⟩
  simp only [Int.toNat_natCast] at HEk
  clear h hr hF t0 hrl hgd
  have hcv : IntKind.u64.wrap ((lv.length : Nat) : Int) = ((lv.length : Nat) : Int) := IntWalk.u64_in _ (by omega)
  have hcc : IntKind.u64.wrap ((cal : Nat) : Int) = ((cal : Nat) : Int) := IntWalk.u64_in _ (by omega)
  go_enter Try.func46, Try.ntmps46
  go_wp2_with (go_at_call 44; go_must (refine (wnum_lit HG.out [cal, lv.length] _ (by simp) _ rfl 2 2 rfl (fun n hn => by simp at hn; omega) (by simp; omega)).mono ?_); rintro e w1 ⟨rfl, g1⟩; have HG1 := Lib.hid g1; have hbx := g1.blk HBx.out hg1 hr1; have q1 := hbx.cell 1; simp at q1; clear g1 hbx)
  clear q1 hcv hcc
  go_loopw [19] (fun i wr => ∃ q : Nat, q ≤ lv.length ∧ i = .int .i64 q ∧ WGo (w.alloc (.cells #[.int .i64 (cal : Int), .slice A lv.length n, .int .i64 (rt : Int), .int .i64 (bk : Int)] 33)) g r (l ++ encs [cal, lv.length] ++ encSps (lv.take q)) wr) (fun i _ => lv.length - (intOf i).toNat)
  case atStart => exact ⟨0, by omega, rfl, by simpa [encSps] using HG1.out⟩
  case round =>
    obtain ⟨q, hq, rfl, hG3⟩ := hrel
    have HG3 := Lib.hid hG3
    by_cases hqk : q < lv.length
    · have ha : lv[q]? = some (lv[q]'hqk) := List.getElem?_eq_getElem _
      obtain ⟨gb, off, e0, hgb, -, hc0, hc1⟩ := (HR.out.go hG3 HF.out).at_ ha
      have hbs := HBd.out _ (List.getElem_mem hqk)
      have HTk := Lib.hid (encSps_take lv q _ ha)
      have hl2 := encSps_len (lv.take q)
      have hl3 : (lv.take q).length ≤ 6 := by simp; omega
      generalize lv[q]'hqk = s at *
      obtain ⟨f, t⟩ := s
      simp only at hc0 hc1 hbs HTk
      obtain ⟨c1, c2, c3, c4⟩ := hbs
      obtain ⟨f, rfl⟩ : ∃ f' : Nat, f = (f' : Int) := ⟨f.toNat, by omega⟩
      obtain ⟨t, rfl⟩ : ∃ t' : Nat, t = (t' : Int) := ⟨t.toNat, by omega⟩
      have hcf : IntKind.u64.wrap ((f : Nat) : Int) = (f : Int) := IntWalk.u64_in _ (by omega)
      have hct : IntKind.u64.wrap ((t : Nat) : Int) = (t : Int) := IntWalk.u64_in _ (by omega)
      obtain ⟨Y, hY⟩ : ∃ Y, Y = l ++ encs [cal, lv.length] ++ encSps (lv.take q) := ⟨_, rfl⟩
      have hYl : Y.length ≤ 60000 := by
        have e1 := encs_len [cal, lv.length]
        rw [hY]; simp at e1 ⊢; simp at hl2; omega
      have HYe := Lib.hid hY
      rw [← hY] at HG3 hG3
      have HG3 := Lib.hid (hG3.far ((Touch.refl (fun _ => False) wr).alloc (.cells #[.int .i64 (f : Int), .int .i64 (t : Int)] 120)))
      clear hY ha hl2 hl3 hG3 HBx HG1 HG
      subst_eqs
      go_wp2_with (go_at_call 44; go_must (refine (wnum_lit HG3.out [f, t] _ (by simp) _ rfl 2 2 rfl (fun n hn => by simp at hn; omega) (by simp; omega)).mono ?_); rintro e w4 ⟨rfl, g4⟩; have HG4 := Lib.hid g4; clear g4)
      go_roundw
      case rel => exact ⟨q + 1, by omega, by go_num, by rw [HTk.out]; have := HG4.out; rw [HYe.out] at this; simpa [encS2] using this⟩
      case measure => simp [intOf]; omega
    · obtain rfl : q = lv.length := by omega
      have hG4 := hG3
      rw [List.take_length] at hG4
      obtain ⟨Y, hY⟩ : ∃ Y, Y = l ++ encs [cal, lv.length] ++ encSps lv := ⟨_, rfl⟩
      have hYl : Y.length ≤ 60000 := by
        have e1 := encs_len [cal, lv.length]
        have e2 := encSps_len lv
        rw [hY]; simp at e1 ⊢; omega
      have HYe := Lib.hid hY
      rw [← hY] at hG4
      have HG4 := Lib.hid hG4
      have hbx := hG4.blk HBx.out hg1 hr1
      have q2 := hbx.cell 2; have q3 := hbx.cell 3
      simp at q2 q3
      have hcr : IntKind.u64.wrap ((rt : Nat) : Int) = ((rt : Nat) : Int) := IntWalk.u64_in _ (by omega)
      have hcb : IntKind.u64.wrap ((bk : Nat) : Int) = ((bk : Nat) : Int) := IntWalk.u64_in _ (by omega)
      clear hG3 hG4 hbx HG3 hY HG1 HG
      go_wp2_with (go_at_call 44; go_must (refine (wnum_lit HG4.out [rt, bk] _ (by simp) _ rfl 2 2 rfl (fun n hn => by simp at hn; omega) (by simp; omega)).mono ?_); rintro e w5 ⟨rfl, g5⟩; have HG5 := Lib.hid g5; clear g5)
      go_end0
      have hG := HG5.out
      rw [HYe.out] at hG
      exact ⟨rfl, WGo.next (HT0.out.mono (fun _ _ e => e.elim)) (.inl rfl) (by rw [HEk.out]; simpa using hG)⟩
end Go.Proofs.Ytlcefchbfjfifaa
end

section
namespace Go.Proofs.Ytlcefchbfjfifaa
open Go.RowKit
theorem Blk.c2 {w : World} {g : Nat} {t : TypeId} {a0 a1 : Value} (h : Blk w g t #[a0, a1]) : w.cell? ⟨g, 0, none⟩ = some a0 ∧ w.cell? ⟨g, 1, none⟩ = some a1 := ⟨h.cell 0, h.cell 1⟩
theorem Blk.z2 {w : World} {g : Nat} {t : TypeId} {cs : Array Value} (h : Blk w g t cs) : w.frozen? ⟨g, 0, none⟩ = false ∧ w.frozen? ⟨g, 1, none⟩ = false := ⟨h.frozen 0, h.frozen 1⟩
theorem Blk.c3 {w : World} {g : Nat} {t : TypeId} {a0 a1 a2 : Value} (h : Blk w g t #[a0, a1, a2]) : w.cell? ⟨g, 0, none⟩ = some a0 ∧ w.cell? ⟨g, 1, none⟩ = some a1 ∧ w.cell? ⟨g, 2, none⟩ = some a2 := ⟨h.cell 0, h.cell 1, h.cell 2⟩
theorem Blk.z3 {w : World} {g : Nat} {t : TypeId} {cs : Array Value} (h : Blk w g t cs) : w.frozen? ⟨g, 0, none⟩ = false ∧ w.frozen? ⟨g, 1, none⟩ = false ∧ w.frozen? ⟨g, 2, none⟩ = false := ⟨h.frozen 0, h.frozen 1, h.frozen 2⟩
theorem Blk.c4 {w : World} {g : Nat} {t : TypeId} {a0 a1 a2 a3 : Value} (h : Blk w g t #[a0, a1, a2, a3]) : w.cell? ⟨g, 0, none⟩ = some a0 ∧ w.cell? ⟨g, 1, none⟩ = some a1 ∧ w.cell? ⟨g, 2, none⟩ = some a2 ∧ w.cell? ⟨g, 3, none⟩ = some a3 := ⟨h.cell 0, h.cell 1, h.cell 2, h.cell 3⟩
theorem Blk.z4 {w : World} {g : Nat} {t : TypeId} {cs : Array Value} (h : Blk w g t cs) : w.frozen? ⟨g, 0, none⟩ = false ∧ w.frozen? ⟨g, 1, none⟩ = false ∧ w.frozen? ⟨g, 2, none⟩ = false ∧ w.frozen? ⟨g, 3, none⟩ = false := ⟨h.frozen 0, h.frozen 1, h.frozen 2, h.frozen 3⟩
theorem Blk.c5 {w : World} {g : Nat} {t : TypeId} {a0 a1 a2 a3 a4 : Value} (h : Blk w g t #[a0, a1, a2, a3, a4]) : w.cell? ⟨g, 0, none⟩ = some a0 ∧ w.cell? ⟨g, 1, none⟩ = some a1 ∧ w.cell? ⟨g, 2, none⟩ = some a2 ∧ w.cell? ⟨g, 3, none⟩ = some a3 ∧ w.cell? ⟨g, 4, none⟩ = some a4 := ⟨h.cell 0, h.cell 1, h.cell 2, h.cell 3, h.cell 4⟩
theorem Blk.z5 {w : World} {g : Nat} {t : TypeId} {cs : Array Value} (h : Blk w g t cs) : w.frozen? ⟨g, 0, none⟩ = false ∧ w.frozen? ⟨g, 1, none⟩ = false ∧ w.frozen? ⟨g, 2, none⟩ = false ∧ w.frozen? ⟨g, 3, none⟩ = false ∧ w.frozen? ⟨g, 4, none⟩ = false := ⟨h.frozen 0, h.frozen 1, h.frozen 2, h.frozen 3, h.frozen 4⟩
theorem Blk.c6 {w : World} {g : Nat} {t : TypeId} {a0 a1 a2 a3 a4 a5 : Value} (h : Blk w g t #[a0, a1, a2, a3, a4, a5]) : w.cell? ⟨g, 0, none⟩ = some a0 ∧ w.cell? ⟨g, 1, none⟩ = some a1 ∧ w.cell? ⟨g, 2, none⟩ = some a2 ∧ w.cell? ⟨g, 3, none⟩ = some a3 ∧ w.cell? ⟨g, 4, none⟩ = some a4 ∧ w.cell? ⟨g, 5, none⟩ = some a5 := ⟨h.cell 0, h.cell 1, h.cell 2, h.cell 3, h.cell 4, h.cell 5⟩
theorem Blk.z6 {w : World} {g : Nat} {t : TypeId} {cs : Array Value} (h : Blk w g t cs) : w.frozen? ⟨g, 0, none⟩ = false ∧ w.frozen? ⟨g, 1, none⟩ = false ∧ w.frozen? ⟨g, 2, none⟩ = false ∧ w.frozen? ⟨g, 3, none⟩ = false ∧ w.frozen? ⟨g, 4, none⟩ = false ∧ w.frozen? ⟨g, 5, none⟩ = false := ⟨h.frozen 0, h.frozen 1, h.frozen 2, h.frozen 3, h.frozen 4, h.frozen 5⟩
theorem Blk.c7 {w : World} {g : Nat} {t : TypeId} {a0 a1 a2 a3 a4 a5 a6 : Value} (h : Blk w g t #[a0, a1, a2, a3, a4, a5, a6]) : w.cell? ⟨g, 0, none⟩ = some a0 ∧ w.cell? ⟨g, 1, none⟩ = some a1 ∧ w.cell? ⟨g, 2, none⟩ = some a2 ∧ w.cell? ⟨g, 3, none⟩ = some a3 ∧ w.cell? ⟨g, 4, none⟩ = some a4 ∧ w.cell? ⟨g, 5, none⟩ = some a5 ∧ w.cell? ⟨g, 6, none⟩ = some a6 := ⟨h.cell 0, h.cell 1, h.cell 2, h.cell 3, h.cell 4, h.cell 5, h.cell 6⟩
theorem Blk.z7 {w : World} {g : Nat} {t : TypeId} {cs : Array Value} (h : Blk w g t cs) : w.frozen? ⟨g, 0, none⟩ = false ∧ w.frozen? ⟨g, 1, none⟩ = false ∧ w.frozen? ⟨g, 2, none⟩ = false ∧ w.frozen? ⟨g, 3, none⟩ = false ∧ w.frozen? ⟨g, 4, none⟩ = false ∧ w.frozen? ⟨g, 5, none⟩ = false ∧ w.frozen? ⟨g, 6, none⟩ = false := ⟨h.frozen 0, h.frozen 1, h.frozen 2, h.frozen 3, h.frozen 4, h.frozen 5, h.frozen 6⟩
theorem Blk.c8 {w : World} {g : Nat} {t : TypeId} {a0 a1 a2 a3 a4 a5 a6 a7 : Value} (h : Blk w g t #[a0, a1, a2, a3, a4, a5, a6, a7]) : w.cell? ⟨g, 0, none⟩ = some a0 ∧ w.cell? ⟨g, 1, none⟩ = some a1 ∧ w.cell? ⟨g, 2, none⟩ = some a2 ∧ w.cell? ⟨g, 3, none⟩ = some a3 ∧ w.cell? ⟨g, 4, none⟩ = some a4 ∧ w.cell? ⟨g, 5, none⟩ = some a5 ∧ w.cell? ⟨g, 6, none⟩ = some a6 ∧ w.cell? ⟨g, 7, none⟩ = some a7 := ⟨h.cell 0, h.cell 1, h.cell 2, h.cell 3, h.cell 4, h.cell 5, h.cell 6, h.cell 7⟩
theorem Blk.z8 {w : World} {g : Nat} {t : TypeId} {cs : Array Value} (h : Blk w g t cs) : w.frozen? ⟨g, 0, none⟩ = false ∧ w.frozen? ⟨g, 1, none⟩ = false ∧ w.frozen? ⟨g, 2, none⟩ = false ∧ w.frozen? ⟨g, 3, none⟩ = false ∧ w.frozen? ⟨g, 4, none⟩ = false ∧ w.frozen? ⟨g, 5, none⟩ = false ∧ w.frozen? ⟨g, 6, none⟩ = false ∧ w.frozen? ⟨g, 7, none⟩ = false := ⟨h.frozen 0, h.frozen 1, h.frozen 2, h.frozen 3, h.frozen 4, h.frozen 5, h.frozen 6, h.frozen 7⟩
theorem Blk.c9 {w : World} {g : Nat} {t : TypeId} {a0 a1 a2 a3 a4 a5 a6 a7 a8 : Value} (h : Blk w g t #[a0, a1, a2, a3, a4, a5, a6, a7, a8]) : w.cell? ⟨g, 0, none⟩ = some a0 ∧ w.cell? ⟨g, 1, none⟩ = some a1 ∧ w.cell? ⟨g, 2, none⟩ = some a2 ∧ w.cell? ⟨g, 3, none⟩ = some a3 ∧ w.cell? ⟨g, 4, none⟩ = some a4 ∧ w.cell? ⟨g, 5, none⟩ = some a5 ∧ w.cell? ⟨g, 6, none⟩ = some a6 ∧ w.cell? ⟨g, 7, none⟩ = some a7 ∧ w.cell? ⟨g, 8, none⟩ = some a8 := ⟨h.cell 0, h.cell 1, h.cell 2, h.cell 3, h.cell 4, h.cell 5, h.cell 6, h.cell 7, h.cell 8⟩
theorem Blk.z9 {w : World} {g : Nat} {t : TypeId} {cs : Array Value} (h : Blk w g t cs) : w.frozen? ⟨g, 0, none⟩ = false ∧ w.frozen? ⟨g, 1, none⟩ = false ∧ w.frozen? ⟨g, 2, none⟩ = false ∧ w.frozen? ⟨g, 3, none⟩ = false ∧ w.frozen? ⟨g, 4, none⟩ = false ∧ w.frozen? ⟨g, 5, none⟩ = false ∧ w.frozen? ⟨g, 6, none⟩ = false ∧ w.frozen? ⟨g, 7, none⟩ = false ∧ w.frozen? ⟨g, 8, none⟩ = false := ⟨h.frozen 0, h.frozen 1, h.frozen 2, h.frozen 3, h.frozen 4, h.frozen 5, h.frozen 6, h.frozen 7, h.frozen 8⟩
theorem Blk.c14 {w : World} {g : Nat} {t : TypeId} {a0 a1 a2 a3 a4 a5 a6 a7 a8 a9 a10 a11 a12 a13 : Value} (h : Blk w g t #[a0, a1, a2, a3, a4, a5, a6, a7, a8, a9, a10, a11, a12, a13]) : w.cell? ⟨g, 0, none⟩ = some a0 ∧ w.cell? ⟨g, 1, none⟩ = some a1 ∧ w.cell? ⟨g, 2, none⟩ = some a2 ∧ w.cell? ⟨g, 3, none⟩ = some a3 ∧ w.cell? ⟨g, 4, none⟩ = some a4 ∧ w.cell? ⟨g, 5, none⟩ = some a5 ∧ w.cell? ⟨g, 6, none⟩ = some a6 ∧ w.cell? ⟨g, 7, none⟩ = some a7 ∧ w.cell? ⟨g, 8, none⟩ = some a8 ∧ w.cell? ⟨g, 9, none⟩ = some a9 ∧ w.cell? ⟨g, 10, none⟩ = some a10 ∧ w.cell? ⟨g, 11, none⟩ = some a11 ∧ w.cell? ⟨g, 12, none⟩ = some a12 ∧ w.cell? ⟨g, 13, none⟩ = some a13 := ⟨h.cell 0, h.cell 1, h.cell 2, h.cell 3, h.cell 4, h.cell 5, h.cell 6, h.cell 7, h.cell 8, h.cell 9, h.cell 10, h.cell 11, h.cell 12, h.cell 13⟩
theorem Blk.z14 {w : World} {g : Nat} {t : TypeId} {cs : Array Value} (h : Blk w g t cs) : w.frozen? ⟨g, 0, none⟩ = false ∧ w.frozen? ⟨g, 1, none⟩ = false ∧ w.frozen? ⟨g, 2, none⟩ = false ∧ w.frozen? ⟨g, 3, none⟩ = false ∧ w.frozen? ⟨g, 4, none⟩ = false ∧ w.frozen? ⟨g, 5, none⟩ = false ∧ w.frozen? ⟨g, 6, none⟩ = false ∧ w.frozen? ⟨g, 7, none⟩ = false ∧ w.frozen? ⟨g, 8, none⟩ = false ∧ w.frozen? ⟨g, 9, none⟩ = false ∧ w.frozen? ⟨g, 10, none⟩ = false ∧ w.frozen? ⟨g, 11, none⟩ = false ∧ w.frozen? ⟨g, 12, none⟩ = false ∧ w.frozen? ⟨g, 13, none⟩ = false := ⟨h.frozen 0, h.frozen 1, h.frozen 2, h.frozen 3, h.frozen 4, h.frozen 5, h.frozen 6, h.frozen 7, h.frozen 8, h.frozen 9, h.frozen 10, h.frozen 11, h.frozen 12, h.frozen 13⟩
theorem Blk.c15 {w : World} {g : Nat} {t : TypeId} {a0 a1 a2 a3 a4 a5 a6 a7 a8 a9 a10 a11 a12 a13 a14 : Value} (h : Blk w g t #[a0, a1, a2, a3, a4, a5, a6, a7, a8, a9, a10, a11, a12, a13, a14]) : w.cell? ⟨g, 0, none⟩ = some a0 ∧ w.cell? ⟨g, 1, none⟩ = some a1 ∧ w.cell? ⟨g, 2, none⟩ = some a2 ∧ w.cell? ⟨g, 3, none⟩ = some a3 ∧ w.cell? ⟨g, 4, none⟩ = some a4 ∧ w.cell? ⟨g, 5, none⟩ = some a5 ∧ w.cell? ⟨g, 6, none⟩ = some a6 ∧ w.cell? ⟨g, 7, none⟩ = some a7 ∧ w.cell? ⟨g, 8, none⟩ = some a8 ∧ w.cell? ⟨g, 9, none⟩ = some a9 ∧ w.cell? ⟨g, 10, none⟩ = some a10 ∧ w.cell? ⟨g, 11, none⟩ = some a11 ∧ w.cell? ⟨g, 12, none⟩ = some a12 ∧ w.cell? ⟨g, 13, none⟩ = some a13 ∧ w.cell? ⟨g, 14, none⟩ = some a14 := ⟨h.cell 0, h.cell 1, h.cell 2, h.cell 3, h.cell 4, h.cell 5, h.cell 6, h.cell 7, h.cell 8, h.cell 9, h.cell 10, h.cell 11, h.cell 12, h.cell 13, h.cell 14⟩
theorem Blk.z15 {w : World} {g : Nat} {t : TypeId} {cs : Array Value} (h : Blk w g t cs) : w.frozen? ⟨g, 0, none⟩ = false ∧ w.frozen? ⟨g, 1, none⟩ = false ∧ w.frozen? ⟨g, 2, none⟩ = false ∧ w.frozen? ⟨g, 3, none⟩ = false ∧ w.frozen? ⟨g, 4, none⟩ = false ∧ w.frozen? ⟨g, 5, none⟩ = false ∧ w.frozen? ⟨g, 6, none⟩ = false ∧ w.frozen? ⟨g, 7, none⟩ = false ∧ w.frozen? ⟨g, 8, none⟩ = false ∧ w.frozen? ⟨g, 9, none⟩ = false ∧ w.frozen? ⟨g, 10, none⟩ = false ∧ w.frozen? ⟨g, 11, none⟩ = false ∧ w.frozen? ⟨g, 12, none⟩ = false ∧ w.frozen? ⟨g, 13, none⟩ = false ∧ w.frozen? ⟨g, 14, none⟩ = false := ⟨h.frozen 0, h.frozen 1, h.frozen 2, h.frozen 3, h.frozen 4, h.frozen 5, h.frozen 6, h.frozen 7, h.frozen 8, h.frozen 9, h.frozen 10, h.frozen 11, h.frozen 12, h.frozen 13, h.frozen 14⟩
theorem Blk.c17 {w : World} {g : Nat} {t : TypeId} {a0 a1 a2 a3 a4 a5 a6 a7 a8 a9 a10 a11 a12 a13 a14 a15 a16 : Value} (h : Blk w g t #[a0, a1, a2, a3, a4, a5, a6, a7, a8, a9, a10, a11, a12, a13, a14, a15, a16]) : w.cell? ⟨g, 0, none⟩ = some a0 ∧ w.cell? ⟨g, 1, none⟩ = some a1 ∧ w.cell? ⟨g, 2, none⟩ = some a2 ∧ w.cell? ⟨g, 3, none⟩ = some a3 ∧ w.cell? ⟨g, 4, none⟩ = some a4 ∧ w.cell? ⟨g, 5, none⟩ = some a5 ∧ w.cell? ⟨g, 6, none⟩ = some a6 ∧ w.cell? ⟨g, 7, none⟩ = some a7 ∧ w.cell? ⟨g, 8, none⟩ = some a8 ∧ w.cell? ⟨g, 9, none⟩ = some a9 ∧ w.cell? ⟨g, 10, none⟩ = some a10 ∧ w.cell? ⟨g, 11, none⟩ = some a11 ∧ w.cell? ⟨g, 12, none⟩ = some a12 ∧ w.cell? ⟨g, 13, none⟩ = some a13 ∧ w.cell? ⟨g, 14, none⟩ = some a14 ∧ w.cell? ⟨g, 15, none⟩ = some a15 ∧ w.cell? ⟨g, 16, none⟩ = some a16 := ⟨h.cell 0, h.cell 1, h.cell 2, h.cell 3, h.cell 4, h.cell 5, h.cell 6, h.cell 7, h.cell 8, h.cell 9, h.cell 10, h.cell 11, h.cell 12, h.cell 13, h.cell 14, h.cell 15, h.cell 16⟩
theorem Blk.z17 {w : World} {g : Nat} {t : TypeId} {cs : Array Value} (h : Blk w g t cs) : w.frozen? ⟨g, 0, none⟩ = false ∧ w.frozen? ⟨g, 1, none⟩ = false ∧ w.frozen? ⟨g, 2, none⟩ = false ∧ w.frozen? ⟨g, 3, none⟩ = false ∧ w.frozen? ⟨g, 4, none⟩ = false ∧ w.frozen? ⟨g, 5, none⟩ = false ∧ w.frozen? ⟨g, 6, none⟩ = false ∧ w.frozen? ⟨g, 7, none⟩ = false ∧ w.frozen? ⟨g, 8, none⟩ = false ∧ w.frozen? ⟨g, 9, none⟩ = false ∧ w.frozen? ⟨g, 10, none⟩ = false ∧ w.frozen? ⟨g, 11, none⟩ = false ∧ w.frozen? ⟨g, 12, none⟩ = false ∧ w.frozen? ⟨g, 13, none⟩ = false ∧ w.frozen? ⟨g, 14, none⟩ = false ∧ w.frozen? ⟨g, 15, none⟩ = false ∧ w.frozen? ⟨g, 16, none⟩ = false := ⟨h.frozen 0, h.frozen 1, h.frozen 2, h.frozen 3, h.frozen 4, h.frozen 5, h.frozen 6, h.frozen 7, h.frozen 8, h.frozen 9, h.frozen 10, h.frozen 11, h.frozen 12, h.frozen 13, h.frozen 14, h.frozen 15, h.frozen 16⟩
end Go.Proofs.Ytlcefchbfjfifaa
end
