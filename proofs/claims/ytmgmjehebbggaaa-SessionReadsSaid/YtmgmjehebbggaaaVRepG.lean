/- What reply.Put writes. What ref16.Put and ref19.Put write: the same bytes. -/
import Derived.Test.YtmgmjehebbggaaaVRepE
import Derived.Test.YtmgmjehebbggaaaPlan
section
namespace Go.Proofs.Ytmgmjehebbggaaa
open Go.RowKit
set_option maxHeartbeats 4000000
set_option maxRecDepth 100000
set_option linter.unusedVariables false

theorem wnum_go {w w1 : World} {g : Nat} {r : Option Nat} {l : List UInt8} {F : Nat → Prop} {A : Option Addr} {c : Nat} {ns : List Nat} (h : WGo w g r l w1) (hr : Rd w F A ns.length (ns.map U64)) (hF : ∀ k, F k → k ≠ g ∧ r ≠ some k) (hF2 : ∀ k, F k → k < w.heap.size)
    (hns : ∀ n ∈ ns, n < 256 ^ 8) (hsm : l.length + 9 * ns.length ≤ 1000000) :
    Calls Try.prog 47 #[.pointer (some ⟨g, 0, none⟩), .slice A ns.length c] w1 fun e w2 => e = .returned (.tuple #[]) ∧ WGo w g r (l ++ encs ns) w2 := by
  have hrd := h.rd hr hF
  obtain ⟨r1, hw1, t1, hf1⟩ := h
  refine (wnum_any g r1 l F A c ns _ hw1 hrd (fun k hk => ⟨(hF k hk).1, fun e => ?_⟩) hns hsm).mono ?_
  · rcases hf1 with e' | ⟨q, e', hq⟩
    · exact (hF k hk).2 (e'.symm.trans e)
    · rw [e'] at e; injection e with e; have := hF2 k hk; omega
  rintro e w2 ⟨rfl, h2⟩
  exact ⟨rfl, WGo.next t1 hf1 h2⟩
def encTk (t : TkN) : List UInt8 := bif tkNone t.v then [] else encs t.nums
def encR (code time : Nat) (t : TkN) (fired : List Nat) (notice dead : Nat) : List UInt8 :=
  encs [code] ++ encIs [(time : Int)] ++ encFs [!tkNone t.v] ++ encTk t ++ encs [fired.length] ++ encs fired ++ encs [notice, dead]
theorem encTk_len (t : TkN) : (encTk t).length ≤ 81 := by
  unfold encTk
  cases tkNone t.v
  · have := encs_len t.nums; simpa [TkN.nums] using this
  · simp
def TkN.bd (t : TkN) : Prop := t.contract < 16 ∧ t.state ≤ 4 ∧ t.level < 6 ∧ t.gen ≤ 1152921504606846976 ∧ t.from_ ≤ 1125899906842624 ∧ t.left ≤ 1125899906842624 ∧ t.due ≤ 1125899906842624 ∧ t.told ≤ 2147483648

theorem rput_any (g : Nat) (r : Option Nat) (l : List UInt8) (code time : Nat) (t : TkN) (F : Nat → Prop) (A : Option Addr) (c : Nat) (fired : List Nat) (notice dead : Nat) (w : World) (h : WAt w g r l)
    (hr : Rd w F A fired.length (fired.map U64)) (hF : ∀ k, F k → k ≠ g ∧ r ≠ some k) (hF2 : ∀ k, F k → k < w.heap.size)
    (ht : t.ok) (hb : t.bd) (h1 : code ≤ 99) (h2 : time ≤ 1125899906842624) (h3 : fired.length ≤ 64) (h4 : ∀ n ∈ fired, n < 256 ^ 8) (h5 : notice < 18446744073709551616) (h6 : dead ≤ 128) (hsm : l.length ≤ 10000) :
    Calls Try.prog 50 #[.pointer (some ⟨g, 0, none⟩), .agg #[.int .i64 code, .int .i64 time, .int .u64 t.id, .int .i64 t.contract, .int .i64 t.state, .int .i64 t.level, .int .u64 t.gen, .int .i64 t.from_, .int .i64 t.left, .int .i64 t.due, .int .i64 t.told, .slice A fired.length c, .int .u64 notice, .int .i64 dead]] w (WPost w g r (l ++ encR code time t fired notice dead)) := by
  have hgl := h.lt
  have hrl := h.ltr
  have HN := Lib.hid (fun w1 => none_any t.v w1)
  have HTk := Lib.hid (fun w0 w1 l1 (hg : WGo w0 g r l1 w1) (hl : l1.length + 81 ≤ 1000000) => tput_any g r l1 t w1 w0 hg ht hb hl)
  have hel := encTk_len t
  obtain ⟨E, hE⟩ : ∃ E, E = encTk t := ⟨_, rfl⟩
  have HR := Lib.hid (show l ++ encR code time t fired notice dead = l ++ encs [code] ++ encIs [(time : Int)] ++ encFs [!tkNone t.v] ++ E ++ encs [fired.length] ++ encs fired ++ encs [notice, dead] by
    rw [encR, ← hE]; simp only [List.append_assoc])
  have HE := Lib.hid (show E = bif tkNone t.v then [] else encs t.nums by rw [hE]; rfl)
  rw [← hE] at hel
  clear hE
  generalize hQ : l ++ encR code time t fired notice dead = Q at HR ⊢
  clear hQ
  obtain ⟨id, con, st, lev, gen, fr, le, du, to_⟩ := t
  generalize (TkN.mk id con st lev gen fr le du to_).nums = N at HTk HE
  simp only [TkN.v] at HN HTk HE HR ⊢
  generalize tkNone ⟨id, con, st, lev, gen, fr, le, du, to_⟩ = no at HN HE HR
  have t0 := (Touch.refl (fun _ => False) w).alloc (.cells #[.int .i64 code, .int .i64 time, .int .u64 id, .int .i64 con, .int .i64 st, .int .i64 lev, .int .u64 gen, .int .i64 fr, .int .i64 le, .int .i64 du, .int .i64 to_, .slice A fired.length c, .int .u64 notice, .int .i64 dead] 35)
  have HBk := Lib.hid (Blk.new w 35 #[.int .i64 code, .int .i64 time, .int .u64 id, .int .i64 con, .int .i64 st, .int .i64 lev, .int .u64 gen, .int .i64 fr, .int .i64 le, .int .i64 du, .int .i64 to_, .slice A fired.length c, .int .u64 notice, .int .i64 dead])
  have HG := Lib.hid (show WGo (w.alloc (.cells #[.int .i64 code, .int .i64 time, .int .u64 id, .int .i64 con, .int .i64 st, .int .i64 lev, .int .u64 gen, .int .i64 fr, .int .i64 le, .int .i64 du, .int .i64 to_, .slice A fired.length c, .int .u64 notice, .int .i64 dead] 35)) g r l _ from WGo.start (h.touch t0 (fun e => e) (fun _ _ e => e)))
  have HRd := Lib.hid (hr.touch t0 (fun _ _ e => e))
  have hg1 : w.heap.size ≠ g := by omega
  have hr1 : r ≠ some w.heap.size := fun e => by have := hrl _ e; omega
  have HF := Lib.hid hF
  have HP := Lib.hid h4
  have hF2' : ∀ k, F k → k < (w.alloc (.cells #[.int .i64 code, .int .i64 time, .int .u64 id, .int .i64 con, .int .i64 st, .int .i64 lev, .int .u64 gen, .int .i64 fr, .int .i64 le, .int .i64 du, .int .i64 to_, .slice A fired.length c, .int .u64 notice, .int .i64 dead] 35)).heap.size := fun k hk => by have := hF2 k hk; simp; omega
  have HF2 := Lib.hid hF2'
  have HE0 := Lib.hid (fun (Q' : List UInt8) (w9 : World) (hq : Q' = Q) (hg : WGo (w.alloc (.cells #[.int .i64 code, .int .i64 time, .int .u64 id, .int .i64 con, .int .i64 st, .int .i64 lev, .int .u64 gen, .int .i64 fr, .int .i64 le, .int .i64 du, .int .i64 to_, .slice A fired.length c, .int .u64 notice, .int .i64 dead] 35)) g r Q' w9) => show WPost w g r Q (.returned (.tuple #[])) w9 from ⟨rfl, WGo.next (t0.mono (fun _ _ e => e.elim)) (.inl rfl) (hq ▸ hg)⟩)
  clear hF2 hF2' hF hr h h4 t0 hrl
  have hl1 := encs_len [code]
  have hl2 := encIs_len [(time : Int)]
  have hl3 := encFs_len [!no]
  have hl4 := encs_len [fired.length]
  have hl5 := encs_len fired
  simp at hl1 hl2 hl3 hl4 hl5
  cases no
  · simp only [Bool.not_false, Bool.not_true] at hl3
    have HEe := Lib.hid (HE.out.trans (show _ = encs N from rfl))
    rw [HEe.out] at hel HR
    go_enter Try.func50, Try.ntmps50
    go_wp2_with (first
      | (go_at_call 47; have M9 := M3; go_must (refine (wnum_lit HG.out [notice, dead] _ (by simp) _ rfl 2 2 rfl (by simp; omega) (by simp; omega)).mono ?_); rintro e w2 ⟨rfl, h2⟩; have HG := Lib.hid h2; clear h2)
      | (go_at_call 47; have M9 := M2; go_must (refine (wnum_go HG.out HRd.out HF.out HF2.out HP.out (by simp; omega)).mono ?_); rintro e w2 ⟨rfl, h2⟩; have HG := Lib.hid h2; have hbx := h2.blk HBk.out hg1 hr1; have M3 := Lib.hid trivial; have q12 := hbx.cell 12; have q13 := hbx.cell 13; simp at q12 q13; clear h2 hbx)
      | (go_at_call 47; have M9 := M1; go_must (refine (wnum_lit HG.out [fired.length] _ (by simp) _ rfl 1 1 rfl (by simp; omega) (by simp; omega)).mono ?_); rintro e w2 ⟨rfl, h2⟩; have HG := Lib.hid h2; have hbx := h2.blk HBk.out hg1 hr1; have M2 := Lib.hid trivial; have q11 := hbx.cell 11; simp at q11; clear h2 hbx)
      | (go_at_call 47; go_must (refine (wnum_lit HG.out [code] _ (by simp) _ rfl 1 1 rfl (by simp; omega) (by simp; omega)).mono ?_); rintro e w2 ⟨rfl, h2⟩; have HG := Lib.hid h2; have hbx := h2.blk HBk.out hg1 hr1; have M1 := Lib.hid trivial; have q1 := hbx.cell 1; simp at q1; clear h2 hbx)
      | (go_at_call 70; go_must (refine (wint_lit HG.out [(time : Int)] _ (by simp) _ rfl 1 1 rfl (by simp; omega) (by simp; omega)).mono ?_); rintro e w2 ⟨rfl, h2⟩; have HG := Lib.hid h2; have hbx := h2.blk HBk.out hg1 hr1; have q2 := hbx.cell 2; have q3 := hbx.cell 3; have q4 := hbx.cell 4; have q5 := hbx.cell 5; have q6 := hbx.cell 6; have q7 := hbx.cell 7; have q8 := hbx.cell 8; have q9 := hbx.cell 9; have q10 := hbx.cell 10; simp at q2 q3 q4 q5 q6 q7 q8 q9 q10; clear h2 hbx)
      | (go_at_call 44; go_must (refine (HN.out _).mono ?_); rintro e w2 ⟨rfl, t2⟩; have h2 := HG.out.far t2; have HG := Lib.hid h2; have hbx := h2.blk HBk.out hg1 hr1; clear t2; have q2 := hbx.cell 2; have q3 := hbx.cell 3; have q4 := hbx.cell 4; have q5 := hbx.cell 5; have q6 := hbx.cell 6; have q7 := hbx.cell 7; have q8 := hbx.cell 8; have q9 := hbx.cell 9; have q10 := hbx.cell 10; have q11 := hbx.cell 11; simp at q2 q3 q4 q5 q6 q7 q8 q9 q10 q11; clear h2 hbx)
      | (go_at_call 71; go_must (refine (wflag_lit HG.out [true] _ (by simp) _ rfl 1 1 rfl (by simp; omega)).mono ?_); rintro e w2 ⟨rfl, h2⟩; have HG := Lib.hid h2; have hbx := h2.blk HBk.out hg1 hr1; have q2 := hbx.cell 2; have q3 := hbx.cell 3; have q4 := hbx.cell 4; have q5 := hbx.cell 5; have q6 := hbx.cell 6; have q7 := hbx.cell 7; have q8 := hbx.cell 8; have q9 := hbx.cell 9; have q10 := hbx.cell 10; have q11 := hbx.cell 11; simp at q2 q3 q4 q5 q6 q7 q8 q9 q10 q11; clear h2 hbx)
      | (go_at_call 72; go_must (refine (HTk.out _ _ _ HG.out (by simp; omega)).mono ?_); rintro e w2 ⟨rfl, h2⟩; have HG := Lib.hid h2; have hbx := h2.blk HBk.out hg1 hr1; have q11 := hbx.cell 11; simp at q11; clear h2 hbx))
    go_end0
    exact HE0.out _ _ HR.out.symm HG.out
  · simp only [Bool.not_false, Bool.not_true] at hl3
    have HEe := Lib.hid (HE.out.trans (show _ = [] from rfl))
    rw [HEe.out, List.append_nil] at HR
    go_enter Try.func50, Try.ntmps50
    go_wp2_with (first
      | (go_at_call 47; have M9 := M3; go_must (refine (wnum_lit HG.out [notice, dead] _ (by simp) _ rfl 2 2 rfl (by simp; omega) (by simp; omega)).mono ?_); rintro e w2 ⟨rfl, h2⟩; have HG := Lib.hid h2; clear h2)
      | (go_at_call 47; have M9 := M2; go_must (refine (wnum_go HG.out HRd.out HF.out HF2.out HP.out (by simp; omega)).mono ?_); rintro e w2 ⟨rfl, h2⟩; have HG := Lib.hid h2; have hbx := h2.blk HBk.out hg1 hr1; have M3 := Lib.hid trivial; have q12 := hbx.cell 12; have q13 := hbx.cell 13; simp at q12 q13; clear h2 hbx)
      | (go_at_call 47; have M9 := M1; go_must (refine (wnum_lit HG.out [fired.length] _ (by simp) _ rfl 1 1 rfl (by simp; omega) (by simp; omega)).mono ?_); rintro e w2 ⟨rfl, h2⟩; have HG := Lib.hid h2; have hbx := h2.blk HBk.out hg1 hr1; have M2 := Lib.hid trivial; have q11 := hbx.cell 11; simp at q11; clear h2 hbx)
      | (go_at_call 47; go_must (refine (wnum_lit HG.out [code] _ (by simp) _ rfl 1 1 rfl (by simp; omega) (by simp; omega)).mono ?_); rintro e w2 ⟨rfl, h2⟩; have HG := Lib.hid h2; have hbx := h2.blk HBk.out hg1 hr1; have M1 := Lib.hid trivial; have q1 := hbx.cell 1; simp at q1; clear h2 hbx)
      | (go_at_call 70; go_must (refine (wint_lit HG.out [(time : Int)] _ (by simp) _ rfl 1 1 rfl (by simp; omega) (by simp; omega)).mono ?_); rintro e w2 ⟨rfl, h2⟩; have HG := Lib.hid h2; have hbx := h2.blk HBk.out hg1 hr1; have q2 := hbx.cell 2; have q3 := hbx.cell 3; have q4 := hbx.cell 4; have q5 := hbx.cell 5; have q6 := hbx.cell 6; have q7 := hbx.cell 7; have q8 := hbx.cell 8; have q9 := hbx.cell 9; have q10 := hbx.cell 10; simp at q2 q3 q4 q5 q6 q7 q8 q9 q10; clear h2 hbx)
      | (go_at_call 44; go_must (refine (HN.out _).mono ?_); rintro e w2 ⟨rfl, t2⟩; have h2 := HG.out.far t2; have HG := Lib.hid h2; have hbx := h2.blk HBk.out hg1 hr1; clear t2; have q2 := hbx.cell 2; have q3 := hbx.cell 3; have q4 := hbx.cell 4; have q5 := hbx.cell 5; have q6 := hbx.cell 6; have q7 := hbx.cell 7; have q8 := hbx.cell 8; have q9 := hbx.cell 9; have q10 := hbx.cell 10; have q11 := hbx.cell 11; simp at q2 q3 q4 q5 q6 q7 q8 q9 q10 q11; clear h2 hbx)
      | (go_at_call 71; go_must (refine (wflag_lit HG.out [false] _ (by simp) _ rfl 1 1 rfl (by simp; omega)).mono ?_); rintro e w2 ⟨rfl, h2⟩; have HG := Lib.hid h2; have hbx := h2.blk HBk.out hg1 hr1; have q2 := hbx.cell 2; have q3 := hbx.cell 3; have q4 := hbx.cell 4; have q5 := hbx.cell 5; have q6 := hbx.cell 6; have q7 := hbx.cell 7; have q8 := hbx.cell 8; have q9 := hbx.cell 9; have q10 := hbx.cell 10; have q11 := hbx.cell 11; simp at q2 q3 q4 q5 q6 q7 q8 q9 q10 q11; clear h2 hbx))
    go_end0
    exact HE0.out _ _ HR.out.symm HG.out
end Go.Proofs.Ytmgmjehebbggaaa
end

section
namespace Go.Proofs.Ytmgmjehebbggaaa
open Go.RowKit
set_option maxHeartbeats 4000000
set_option maxRecDepth 100000
set_option linter.unusedVariables false

theorem ftk_any (t : TkN) (w : World) (ht : t.ok) (hb : t.bd) :
    Calls Try.prog 54 #[.agg #[.int .u64 t.id, .int .i64 t.contract, .int .i64 t.state, .int .i64 t.level, .int .u64 t.gen, .int .i64 t.from_, .int .i64 t.left, .int .i64 t.due, .int .i64 t.told]] w (NewOwn w (encs t.nums)) := by
  have hel : 0 < (encs t.nums).length := by simp [encs, TkN.nums, encN]
  have hnl : t.nums.length = 9 := rfl
  obtain ⟨id, con, st, lev, gen, fr, le, du, to_⟩ := t
  obtain ⟨b1, b2, b3, b4, b5, b6, b7, b8⟩ := hb
  have HK := Lib.hid (fun j (hj : j < (TkN.nums ⟨id, con, st, lev, gen, fr, le, du, to_⟩).length) => ht _ (List.getElem_mem hj))
  simp only at b1 b2 b3 b4 b5 b6 b7 b8 ⊢
  obtain ⟨W1, hW1⟩ : ∃ W1, W1 = ((w.alloc (.cells #[.int .u64 id, .int .i64 con, .int .i64 st, .int .i64 lev, .int .u64 gen, .int .i64 fr, .int .i64 le, .int .i64 du, .int .i64 to_] 32)).alloc (.cells #[.int .u64 id, .int .u64 con, .int .u64 st, .int .u64 lev, .int .u64 gen, .int .u64 fr, .int .u64 le, .int .u64 du, .int .u64 to_] 29)) := ⟨_, rfl⟩
  have HT0 := Lib.hid (show Touch (fun _ => False) w W1 from hW1 ▸ (((Touch.refl (fun _ => False) w).alloc _).alloc _))
  have HRd := Lib.hid (show Rd W1 (fun k => k = w.heap.size + 1) (some ⟨w.heap.size + 1, 0, none⟩) 9 ((TkN.nums ⟨id, con, st, lev, gen, fr, le, du, to_⟩).map U64) from hW1 ▸ Rd.litB (w.alloc (.cells #[.int .u64 id, .int .i64 con, .int .i64 st, .int .i64 lev, .int .u64 gen, .int .i64 fr, .int .i64 le, .int .i64 du, .int .i64 to_] 32)) _ (by simp) 29 ((TkN.nums ⟨id, con, st, lev, gen, fr, le, du, to_⟩).map U64) 9 rfl)
  have HW1 := Lib.hid hW1
  clear ht hW1
  generalize (TkN.nums ⟨id, con, st, lev, gen, fr, le, du, to_⟩) = N at *
  go_enter Try.func54, Try.ntmps54
  go_wp2_with fail
  rw [← HW1.out]
  clear HW1
  go_loopw [3, 33] (fun b i wr => ∃ j : Nat, j ≤ 9 ∧ i = .int .i64 j ∧ OwnX W1 wr (encs (N.take j)) b) (fun _ i _ => 9 - (intOf i).toNat)
  case atStart => exact ⟨0, by omega, rfl, by simpa [encs] using OwnX.start (Touch.refl _ W1)⟩
  case round =>
    obtain ⟨j, hj, rfl, hM⟩ := hrel
    have HM := Lib.hid hM
    clear hM
    by_cases hjk : j < 9
    · obtain ⟨_, _, _, tm⟩ := HM.out
      obtain ⟨a, off, ea, _, _, hc⟩ := (HRd.out.touch tm (fun _ _ e => e)).2 (by omega)
      injection ea with ea
      injection ea with ea1 ea2
      subst ea1 ea2
      have hcj := hc j (U64 (N.getD j 0)) (by simp [List.getD, List.getElem?_eq_getElem (show j < N.length by omega)])
      simp only [U64, Nat.zero_add] at hcj
      have HE := Lib.hid (encs_take N j (by omega))
      have hnj : N.getD j 0 < 18446744073709551616 := by rw [List.getD, List.getElem?_eq_getElem (show j < N.length by omega)]; exact HK.out j (by omega)
      have hl1 := encs_len (N.take j)
      have hl3 : (N.take j).length ≤ 9 := by simp; omega
      have hl2 := encN_len 0 (N.getD j 0)
      clear hc tm
      generalize N.getD j 0 = n at *
      go_wp2_with (first
        | (go_at_call 35
           go_must (refine (fnum_any n _ (by omega)).mono ?_)
           rintro e w2 h2
           have hm2 := HM.out.far h2.choose_spec.choose_spec.2.2.2
           obtain ⟨x, rfl, hx2⟩ := OwnX.of (Touch.refl _ _) h2
           have HM2 := Lib.hid hm2
           have HX2 := Lib.hid hx2
           clear h2 hm2 hx2)
        | (at_builtin
           go_must (refine own_append_list rfl _ _ rfl _ _ _ _ rfl rfl HM2.out HX2.out (by omega) ?_)
           intro v3 w3 h3 t3
           have HM3 := Lib.hid h3
           clear h3 t3))
      go_roundw
      case rel => exact ⟨j + 1, by omega, by go_num, by rw [HE.out]; exact HM3.out⟩
      case measure => simp [intOf]; omega
    · obtain rfl : j = 9 := by omega
      go_wp2
      go_ret
      exact NewOwn.before HT0.out (OwnX.new (by have := HM.out; rwa [List.take_of_length_le (by omega)] at this) hel)
end Go.Proofs.Ytmgmjehebbggaaa
end
