/- The walk of ReplyReads. -/
import Derived.Test.YtmgmjehebbggaaaRepL
import Derived.Test.YtmgmjehebbggaaaRepN
namespace Go.Proofs.Ytmgmjehebbggaaa
open Go.RowKit
set_option maxHeartbeats 4000000
set_option maxRecDepth 100000
set_option linter.unusedVariables false

def RdOut (code : Nat) (time : Int) (t : TkN) (fired : List Nat) (notice dead : Nat) (ok bd : Bool) (l' : List UInt8) (w : World) (g : Nat) (F : Nat → Prop) (e : Ending) (w' : World) : Prop :=
  ∃ A c, e = .returned (.tuple #[.agg #[.int .i64 code, .int .i64 time, .int .u64 t.id, .int .i64 t.contract, .int .i64 t.state, .int .i64 t.level, .int .u64 t.gen, .int .i64 t.from_, .int .i64 t.left, .int .i64 t.due, .int .i64 t.told, .slice A fired.length c, .int .u64 notice, .int .i64 dead], .bool ok]) ∧ Rd w' (fun k => w.heap.size ≤ k ∧ k < w'.heap.size) A fired.length (fired.map U64) ∧ RdAt w' g F l' bd ∧ Touch (fun k => k = g) w w'
theorem RdOut.of {l l' : List UInt8} {b bd ok : Bool} {code : Nat} {time : Int} {t : TkN} {fired : List Nat} {notice dead : Nat} (hR : rpRes (rdRep (b, l)) = (⟨code, time, t, fired, notice, dead⟩, bd, l')) (hok : rpGood (rdRep (b, l)) = ok)
    (g : Nat) (F : Nat → Prop) (w : World) (h : RdAt w g F l b) (hg : g < w.heap.size) (hF : ∀ k, F k → k < w.heap.size) :
    Calls Try.prog 38 #[.pointer (some ⟨g, 0, none⟩)] w (RdOut code time t fired notice dead ok bd l' w g F) := by
  refine (rrread_any g F b l w h hg hF).mono fun e w' ⟨⟨v, he, hu⟩, hr, ht⟩ => ?_
  rw [hR] at he hu hr
  rw [hok] at he
  obtain ⟨q, ho, hq⟩ := hu
  obtain ⟨A, c, hv, -, -, -, hrd⟩ := ho.rd
  subst hv
  exact ⟨A, c, he, hrd.inside.mono (fun k hk => ⟨hq k hk.1, hk.2⟩), hr, ht⟩

def RfOut (code : Nat) (time : Int) (t : TkN) (fired : List Nat) (notice dead : Nat) (ok bd : Bool) (l' : List UInt8) (w : World) (g : Nat) (F : Nat → Prop) (e : Ending) (w' : World) : Prop :=
  ∃ A c, e = .returned (.tuple #[.agg #[.int .i64 code, .int .i64 time, .int .u64 t.id, .int .i64 t.contract, .int .i64 t.state, .int .i64 t.level, .int .u64 t.gen, .int .i64 t.from_, .int .i64 t.left, .int .i64 t.due, .int .i64 t.told, .slice A fired.length c, .int .u64 notice, .int .i64 dead], .bool ok]) ∧ Rd w' (fun k => w.heap.size ≤ k ∧ k < w'.heap.size) A fired.length (fired.map U64) ∧ RfAt w' g F l' bd ∧ Touch (fun k => k = g) w w'
theorem RfOut.of {l l' : List UInt8} {b bd ok : Bool} {code : Nat} {time : Int} {t : TkN} {fired : List Nat} {notice dead : Nat} (hR : rpRes (rdRep (b, l)) = (⟨code, time, t, fired, notice, dead⟩, bd, l')) (hok : rpGood (rdRep (b, l)) = ok)
    (g : Nat) (F : Nat → Prop) (w : World) (h : RfAt w g F l b) (hg : g < w.heap.size) (hF : ∀ k, F k → k < w.heap.size) :
    Calls Try.prog 41 #[.pointer (some ⟨g, 0, none⟩)] w (RfOut code time t fired notice dead ok bd l' w g F) := by
  refine (rrreadR_any g F b l w h hg hF).mono fun e w' ⟨⟨v, he, hu⟩, hr, ht⟩ => ?_
  rw [hR] at he hu hr
  rw [hok] at he
  obtain ⟨q, ho, hq⟩ := hu
  obtain ⟨A, c, hv, -, -, -, hrd⟩ := ho.rd
  subst hv
  exact ⟨A, c, he, hrd.inside.mono (fun k hk => ⟨hq k hk.1, hk.2⟩), hr, ht⟩

theorem left_st (g : Nat) (F : Nat → Prop) (l : List UInt8) (bad : Bool) (w : World) (h : RdAt w g F l bad) :
    Calls Try.prog 21 #[.pointer (some ⟨g, 0, none⟩)] w fun e w' => e = .returned (.int .i64 l.length) ∧ w = w' := by
  obtain ⟨_, A, cap, _, _, hb, _⟩ := h
  exact left_any g A l.length cap bad w hb
theorem bad_st (g : Nat) (F : Nat → Prop) (l : List UInt8) (bad : Bool) (w : World) (h : RdAt w g F l bad) :
    Calls Try.prog 22 #[.pointer (some ⟨g, 0, none⟩)] w fun e w' => e = .returned (.bool bad) ∧ w = w' := by
  obtain ⟨_, A, cap, _, _, hb, _⟩ := h
  exact bad_any g A l.length cap bad w hb
/-- What a reply that is read can be. -/
theorem read_what (l : List UInt8) : ∃ (code : Nat) (time : Int) (t : TkN) (fired : List Nat) (notice dead : Nat) (bd : Bool) (l' : List UInt8) (ok : Bool), rpRes (rdRep (false, l)) = (⟨code, time, t, fired, notice, dead⟩, bd, l') ∧ rpGood (rdRep (false, l)) = ok ∧ fired.length ≤ 64 ∧ l'.length ≤ l.length ∧
    (ok = true → bd = false ∧ ∃ tm : Nat, time = tm ∧ (RepN.mk code tm t fired notice dead).Ok tm ∧ l = encR code tm t fired notice dead ++ l') := by
  obtain ⟨r, hr⟩ : ∃ r, r = rdRep (false, l) := ⟨_, rfl⟩
  cases hok : rpGood r
  · refine ⟨0, 0, tkZero, [], 0, 0, true, [], false, ?_, by rw [← hr]; exact hok, by simp, by simp, fun h => by cases h⟩
    rw [← hr, rpRes, hok]; rfl
  · have hg := hok
    rw [hr] at hg
    obtain ⟨h1, h2⟩ := rpGood_ok hg
    rw [← hr] at h1 h2
    obtain ⟨⟨code, time, t, fired, notice, dead⟩, bd, l'⟩ := r
    simp only at h1 h2
    subst h1
    have ht := h2.time
    simp only at ht
    have hsp := rdRep_split hr.symm (by simp only; rw [ht]; omega)
    have h2' := h2
    rw [RepN.bytes] at hsp
    simp only at hsp
    refine ⟨code, time, t, fired, notice, dead, false, l', true, by rw [← hr, rpRes, if_pos hok], by rw [← hr]; exact hok, h2.fl, by rw [hsp]; simp, fun _ => ⟨rfl, time.toNat, ht, ?_, hsp⟩⟩
    rw [← ht]; exact h2
end Go.Proofs.Ytmgmjehebbggaaa
