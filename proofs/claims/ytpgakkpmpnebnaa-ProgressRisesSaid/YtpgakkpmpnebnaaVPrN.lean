/- Progress: maps.DeleteFunc with Set's closure; a line laid. -/
import Derived.Test.YtpgakkpmpnebnaaVPrM
import Derived.Test.YtpgakkpmpnebnaaVPrX
namespace Go.Proofs.Ytpgakkpmpnebnaa
open Go.RowKit Go.Maps Prg
set_option maxHeartbeats 4000000
set_option maxRecDepth 100000
set_option linter.unusedVariables false

theorem RangeV.congr {P : Program} {k : TypeId} {w : World} {b r n : Nat} {f f' : Lit → Option Value} {left left' : Lit → Bool} (h : RangeV P k w b r n f left) (hf : ∀ kl, KeysOf P k kl → f kl = f' kl) (hl : ∀ kl, KeysOf P k kl → left kl = left' kl) : RangeV P k w b r n f' left' := by
  obtain ⟨D, lf, cnt, hrg, hs, hl0⟩ := h
  exact ⟨D, lf, cnt, hrg, fun kl hk => by rw [← hf kl hk]; exact hs kl hk, fun kl hk => (hl0 kl hk).trans (hl kl hk)⟩
def keepT (t : Tb) (nodes : List Int) : Tb := fun i => if i ∈ nodes then t i else none
open Classical in
noncomputable def delT (t : Tb) (nodes : List Int) (left : Lit → Bool) : Tb := fun i => if left (.int .i64 i) = true ∨ i ∈ nodes then t i else none
theorem int_keys {i : Int} (h : inI i) : KeysOf Try.prog 3 (.int .i64 i) := ⟨_, keyI h⟩
theorem pset1_any (F : Nat → Prop) (A : Option Addr) (c : Nat) (nodes : List Int) (nb : Nat) (x : Int) (v : Value) (w : World) (hb : Blk w nb 23 #[.slice A nodes.length c]) (hr : Rd w F A nodes.length (nodes.map I64)) (hsm : nodes.length ≤ 1000000) :
    Calls Try.prog 71 #[.int .i64 x, v, .pointer (some ⟨nb, 0, none⟩)] w fun e w' => e = .returned (.bool (!nodes.contains x)) ∧ w = w' := by
  have HH := Lib.hid (mhas_any F A c nodes x w hr hsm)
  have c0 := hb.cell 0
  simp at c0
  clear hb hr
  generalize nodes.contains x = y at *
  go_enter Try.func71, Try.ntmps71
  go_wp2_with (go_at_call 72; go_must (refine HH.out.mono ?_); rintro e w1 ⟨rfl, rfl⟩)
  go_ret
  exact ⟨rfl, rfl⟩
theorem Rd.lt_ {w : World} {F : Nat → Prop} {A : Option Addr} {n : Nat} {xs : List Value} (h : Rd w F A n xs) : Rd w (fun k => F k ∧ k < w.heap.size) A n xs :=
  ⟨h.1, fun hn => by obtain ⟨g, off, e, hl, hF, hc⟩ := h.2 hn; exact ⟨g, off, e, hl, ⟨hF, hl⟩, hc⟩⟩
theorem lnP_del (t : Tb) (nodes : List Int) (left : Lit → Bool) (p : Int → Nat) (i : Int) : lnP (delT t nodes left) p (.int .i64 i) = if left (.int .i64 i) = true ∨ i ∈ nodes then lnP t p (.int .i64 i) else none := by
  rw [lnP_at, lnP_at]; unfold delT; split <;> rfl
theorem delRange_any (F F0 : Nat → Prop) (A : Option Addr) (c : Nat) (nodes : List Int) (nb b n : Nat) (t : Tb) (p : Int → Nat) (w : World) (hM : MapV Try.prog 3 w b n (lnP t p)) (hb : Blk w nb 23 #[.slice A nodes.length c]) (hr : Rd w F0 A nodes.length (nodes.map I64)) (hF0 : ¬ F0 b) (hnb : nb ≠ b) (hsm : nodes.length ≤ 1000000) :
    Calls Try.prog 70 #[.map (some b), .func (.func 71) #[] #[.pointer (some ⟨nb, 0, none⟩)]] w fun e w' => e = .returned (.tuple #[]) ∧ MapV Try.prog 3 w' b n (lnP (keepT t nodes) p) ∧ Touch (fun q => q = b) w w' := by
  have HM := Lib.hid hM
  have HB := Lib.hid hb
  have HR := Lib.hid hr
  have hbl := hM.lt
  have hnl := hb.lt
  clear hM hb hr
  go_enter Try.func70, Try.ntmps70
  go_wp2_with (at_range; refine rangeV _ rfl _ _ rfl _ _ lawI Try.underlying52 b n _ rfl HM.out ?_; intro w2 hrg t2 hz2; have HRg := Lib.hid hrg; have HT2 := Lib.hid t2; clear hrg t2 hz2; go_frame)
  obtain ⟨r, hr⟩ : ∃ r, r = w.heap.size := ⟨_, rfl⟩
  rw [← hr] at HRg ⊢
  have hrw : w.heap.size ≤ r := by omega
  have hbr : b ≠ r := by omega
  clear hr
  go_loopw [4, 5] (fun _ _ wr => ∃ left, RangeV Try.prog 3 wr b r n (lnP (delT t nodes left) p) left ∧ Touch (fun q => q = b) w wr) (fun _ _ wr => wr.rangeLeft b r)
  case atStart =>
    refine ⟨_, HRg.out.congr (fun kl hk => ?_) (fun _ _ => rfl), HT2.out.mono (fun _ _ e => e.elim)⟩
    obtain ⟨k, hki, rfl⟩ := keysI hk
    rw [lnP_del]
    split
    · rfl
    · rename_i h
      cases hl : lnP t p (.int .i64 k) with
      | none => rfl
      | some v => exact absurd (Or.inl (by rw [hl]; rfl)) h
  case round =>
    clear HRg HT2
    obtain ⟨left, hrg, hT⟩ := hrel
    have HRr := Lib.hid hrg
    have HT := Lib.hid hT
    clear hrg hT
    have hrl := HRr.out.lt
    go_wp2_with (at_next; refine nextV _ rfl _ rfl _ lawI (fun c : Int => Value.int .i64 c) (fun c : Int => Lit.int .i64 c) (fun key kl hk => by obtain ⟨x, rfl, _, hw⟩ := Maps.keyOf_int_inv Try.underlying3 hk; exact ⟨x, rfl, by simpa using ‹kl = _›⟩) b r n _ left rfl HRr.out ?_ ?_)
    · intro h0
      have H0 := Lib.hid h0
      clear h0
      go_wp2_with fail
      go_end0
      refine ⟨rfl, ?_, HT.out⟩
      refine HRr.out.map.congr fun kl hk => ?_
      have h1 := H0.out kl hk
      obtain ⟨k, hki, rfl⟩ := keysI hk
      rw [lnP_del, h1, lnP_at, lnP_at]
      unfold keepT
      by_cases h : k ∈ nodes <;> simp [h]
    · intro x v w3 hx hlx hfx hrg3 hlt t3 hen
      have HRr3 := Lib.hid hrg3
      have HT3 := Lib.hid t3
      have HLt := Lib.hid hlt
      have hxi : inI x := by
        obtain ⟨x', ex, _, hw⟩ := Maps.keyOf_int_inv Try.underlying3 hx
        injection ex with _ ex
        subst ex
        simp [Lit.wf, IntKind.min, IntKind.max, IntKind.signed, IntKind.bits] at hw
        exact hw
      have HS := Lib.hid (pset1_any (fun k => F0 k ∧ k < w.heap.size) A c nodes nb x v w3 (t3.blk (HT.out.blk HB.out hnb) (by omega)) ((HR.out.lt_.touch HT.out (fun k hk e => hF0 (e ▸ hk.1))).touch t3 (fun k hk e => by have := hk.2; omega)) hsm)
      have hdx := fun kl (hk : KeysOf Try.prog 3 kl) => hk
      clear hrg3 hlt hx
      cases hy : nodes.contains x
      · rw [hy] at HS
        have HY := Lib.hid (show x ∉ nodes by simpa using hy)
        clear hy hlx hfx hdx t3
        go_wp2_with (first
          | (go_at_call 71; go_must (refine HS.out.mono ?_); rintro e w4 ⟨rfl, rfl⟩)
          | (at_delete; refine delRangeV _ rfl _ _ _ _ rfl _ lawI Try.underlying52 b r n _ _ rfl HRr3.out _ _ rfl (keyI hxi) ?_; intro w5 hrg5 t5 hle5; have HRr5 := Lib.hid hrg5; have HT5 := Lib.hid t5; have HLe := Lib.hid hle5; clear hrg5 t5 hle5; go_frame))
        go_roundw
        case rel =>
          refine ⟨_, HRr5.out.congr (fun kl hk => ?_) (fun _ _ => rfl), (HT.out.trans HT3.out (fun q hq e => by omega)).trans HT5.out (fun _ _ e => e)⟩
          obtain ⟨k, hki, rfl⟩ := keysI hk
          rw [lnP_del]
          unfold delV
          by_cases e : k = x
          · subst e
            rw [if_pos rfl, if_neg]
            rintro (h | h)
            · simp [WideAt.sameKey_self (lawI.key (keyI hki))] at h
            · exact HY.out h
          · rw [if_neg (fun e' => e (by injection e')), lnP_del]
            have hs : (Lit.int IntKind.i64 k).sameKey (Lit.int IntKind.i64 x) = false := sameKey_ne (fun e' => e (by injection e'))
            simp [hs]
        case measure => exact Nat.lt_of_le_of_lt HLe.out HLt.out
      · rw [hy] at HS
        have HY := Lib.hid (show x ∈ nodes by simpa using hy)
        clear hy hlx hfx hdx t3
        go_wp2_with (go_at_call 71; go_must (refine HS.out.mono ?_); rintro e w4 ⟨rfl, rfl⟩)
        go_roundw
        case rel =>
          refine ⟨_, HRr3.out.congr (fun kl hk => ?_) (fun _ _ => rfl), HT.out.trans HT3.out (fun q hq e => by omega)⟩
          obtain ⟨k, hki, rfl⟩ := keysI hk
          rw [lnP_del, lnP_del]
          by_cases e : k = x
          · subst e
            rw [if_pos (Or.inr HY.out), if_pos (Or.inr HY.out)]
          · have hs : (Lit.int IntKind.i64 k).sameKey (Lit.int IntKind.i64 x) = false := sameKey_ne (fun e' => e (by injection e'))
            simp [hs]
        case measure => exact HLt.out
end Go.Proofs.Ytpgakkpmpnebnaa
