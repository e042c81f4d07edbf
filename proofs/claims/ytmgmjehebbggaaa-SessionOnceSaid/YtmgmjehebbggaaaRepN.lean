/- What reply.Bytes and reply.Refused do; law19.lives. -/
import Derived.Test.YtmgmjehebbggaaaRepK
import Derived.Test.YtmgmjehebbggaaaRepM
import Derived.Test.YtmgmjehebbggaaaRepO
namespace Go.Proofs.Ytmgmjehebbggaaa
open Go.RowKit
set_option maxHeartbeats 4000000
set_option maxRecDepth 100000
set_option linter.unusedVariables false

/-- New bytes, and an error's number. -/
def TwoB (w : World) (xs : List UInt8) (n : Int) (e : Ending) (w' : World) : Prop :=
  ∃ A c, e = .returned (.tuple #[.slice A xs.length c, .int .i64 n]) ∧ xs.length ≤ c ∧ c ≤ maxLen ∧ Rd w' (fun k => w.heap.size ≤ k ∧ k < w'.heap.size) A xs.length (xs.map B8) ∧ Touch (fun _ => False) w w'
theorem Rd.inside {w : World} {F : Nat → Prop} {A : Option Addr} {n : Nat} {xs : List Value} (h : Rd w F A n xs) : Rd w (fun k => F k ∧ k < w.heap.size) A n xs :=
  ⟨h.1, fun hn => by obtain ⟨g, off, e, hl, hf, hc⟩ := h.2 hn; exact ⟨g, off, e, hl, ⟨hf, hl⟩, hc⟩⟩
theorem Rd.has {w : World} {F : Nat → Prop} {A : Option Addr} {n c : Nat} {xs : List Value} (h : Rd w F A n xs) (hn : 0 < n) : A = none → c = 0 := by
  obtain ⟨g, off, e, _⟩ := h.2 hn
  intro e'; rw [e'] at e; cases e
theorem encR_len {code tm : Nat} {t : TkN} {fired : List Nat} {notice dead : Nat} (hf : fired.length ≤ 64) : (encR code tm t fired notice dead).length ≤ 1000 := by
  have h1 := encs_len [code]; have h2 := encIs_len [(tm : Int)]; have h3 := encFs_len [!tkNone t.v]; have h4 := encTk_len t; have h5 := encs_len [fired.length]; have h6 := encs_len fired; have h7 := encs_len [notice, dead]
  simp only [encR, List.length_append]
  simp only [List.length_cons, List.length_nil] at *
  omega
theorem lv_ok : (RepN.mk 31 0 tkZero [] 0 0).Ok 0 := ⟨rfl, by decide, by decide, .inl (by decide), zero_ok.1, zero_ok.2, by decide, (fun n h => by cases h), by decide, by decide⟩
theorem lv_enc : encR 31 0 tkZero [] 0 0 = [1, 31, 0, 0, 0, 0, 0] := by decide +kernel
theorem lv_rd : rdRep (false, [1, 31, 0, 0, 0, 0, 0]) = (RepN.mk 31 0 tkZero [] 0 0, false, []) := by
  have := rdRep_write lv_ok []
  rw [List.append_nil] at this
  rw [← lv_enc]; exact this
theorem lv_res : rpRes (rdRep (false, [1, 31, 0, 0, 0, 0, 0])) = (RepN.mk 31 0 tkZero [] 0 0, false, []) ∧ rpGood (rdRep (false, [1, 31, 0, 0, 0, 0, 0])) = true := by
  have h : rpGood (rdRep (false, [1, 31, 0, 0, 0, 0, 0])) = true := by rw [lv_rd]; exact rpGood_of lv_ok []
  exact ⟨by rw [rpRes, if_pos h, lv_rd], h⟩
end Go.Proofs.Ytmgmjehebbggaaa
