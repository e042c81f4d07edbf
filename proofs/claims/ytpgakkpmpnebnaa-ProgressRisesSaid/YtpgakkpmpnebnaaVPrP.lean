/- Progress: Live. -/
import Derived.Test.YtpgakkpmpnebnaaVPrQ
namespace Go.Proofs.Ytpgakkpmpnebnaa
open Go.RowKit Go.Maps Prg
set_option maxHeartbeats 4000000
set_option maxRecDepth 100000
set_option linter.unusedVariables false

def calmL (t : Tb) (left : Lit → Bool) : Tb := fun i => (t i).map fun y => if left (.int .i64 i) then y else calm y
theorem calmL_some (t : Tb) (left : Lit → Bool) (i : Int) : (calmL t left i).isSome = (t i).isSome := by unfold calmL; rw [Option.isSome_map]
theorem lnP_calm (t : Tb) (left : Lit → Bool) (p : Int → Nat) (kl : Lit) : lnP (calmL t left) p kl = lnP t p kl := by
  cases kl with
  | int k i =>
    cases k <;> try rfl
    simp only [lnP, calmL]
    cases t i <;> rfl
  | _ => rfl
theorem calmL_step (t : Tb) (left : Lit → Bool) (x : Int) (y : Ln) (h : calmL t left x = some y) (hl : left (.int .i64 x) = true) (hxi : inI x) : putT (calmL t left) x (calm y) = calmL t (fun z => left z && !z.sameKey (.int .i64 x)) := by
  funext i
  unfold putT
  by_cases e : i = x
  · subst e
    rw [if_pos rfl]
    unfold calmL at h ⊢
    rw [hl] at h
    cases ht : t i with
    | none => rw [ht] at h; cases h
    | some z =>
      rw [ht] at h
      simp at h
      subst h
      simp [WideAt.sameKey_self (lawI.key (keyI hxi))]
  · rw [if_neg e]
    unfold calmL
    have hs : (Lit.int IntKind.i64 i).sameKey (Lit.int IntKind.i64 x) = false := sameKey_ne (fun e' => e (by injection e'))
    simp [hs]
theorem calmL_end (t : Tb) (ok : t.Ok) (left : Lit → Bool) (h : ∀ kl, KeysOf Try.prog 3 kl → left kl = false) : calmL t left = calmT t := by
  funext i
  unfold calmL calmT
  cases ht : t i with
  | none => rfl
  | some y =>
    have := ok i y ht
    rw [h _ (int_keys (by unfold inI; omega))]; rfl
theorem plive_any (F0 : Nat → Prop) (A : Option Addr) (c : Nat) (members : List Int) (g b : Nat) (t : Tb) (F : Nat → Prop) (self : Int) (hse : inI self) (w : World) (h : PgAt w g b t F) (hr : Rd w F0 A members.length (members.map I64)) (hsm : members.length ≤ 1000000) :
    Calls Try.prog 29 #[.pointer (some ⟨g, 0, none⟩), .slice A members.length c, .int .i64 self] w (OpP g b (liveB t members self) (calmT t) F w) := by
  have hT := ((Touch.refl (fun _ => False) w).alloc (.cells #[.pointer (some ⟨g, 0, none⟩)] 28)).alloc (.cells #[.int .i64 self] 3)
  have HT0 := Lib.hid hT
  have HB1 := Lib.hid ((Blk.new w 28 #[.pointer (some ⟨g, 0, none⟩)]).alloc (.cells #[.int .i64 self] 3))
  have HB2 := Lib.hid (show Blk ((w.alloc (.cells #[.pointer (some ⟨g, 0, none⟩)] 28)).alloc (.cells #[.int .i64 self] 3)) (w.heap.size + 1) 3 #[.int .i64 self] by simpa using Blk.new (w.alloc (.cells #[.pointer (some ⟨g, 0, none⟩)] 28)) 3 #[.int .i64 self])
  have HRc := Lib.hid (mreachedL_any F0 A c members (.pointer (some ⟨g, 0, none⟩)) t self w.heap.size (w.heap.size + 1) _ (hr.touch hT (fun _ _ e => e)) hsm HB1.out HB2.out (h.lineC.touch hT))
  obtain ⟨p, hp⟩ := h
  have HP := Lib.hid hp
  have HOk := Lib.hid hp.ok
  have hgl := hp.blk.lt
  have hbl := hp.map.lt
  have hfb := hp.fb
  obtain ⟨lb, hlb⟩ : ∃ lb, lb = liveB t members self := ⟨_, rfl⟩
  rw [← hlb] at HRc ⊢
  clear hr hT hp hlb
  go_enter Try.func29, Try.ntmps29
  go_wp2_with (first
    | (go_at_call 73; go_must (refine HRc.out.mono ?_); rintro e w1 ⟨rfl, t1⟩
       have HT1 := Lib.hid (HT0.out.trans t1 (fun _ _ e => e))
       have c1 := (t1.blk HB1.out (fun e => e)).cell 0
       simp at c1
       have HP1 := Lib.hid (HP.out.touch HT1.out (fun e => e) (fun _ _ e => e))
       have q0 := HP1.out.blk.cell 0
       simp at q0
       have hz1 := HT1.out.size
       clear t1)
    | (at_range; refine rangeV _ rfl _ _ rfl _ _ lawI Try.underlying52 b 7 _ rfl HP1.out.map ?_; intro w2 hrg t2 hz2; have HRg := Lib.hid hrg; have HT2 := Lib.hid t2; clear hrg t2 hz2; go_frame))
  obtain ⟨r, hr⟩ : ∃ r, r = w1.heap.size := ⟨_, rfl⟩
  rw [← hr] at HRg ⊢
  have hrw : w1.heap.size ≤ r := by omega
  have hbr : b ≠ r := by omega
  clear hr
  have HLF := Lib.hid (fun k (hk : F k) => HP.out.lt k hk)
  go_loopw [9] (fun _ wr => ∃ left, RangeV Try.prog 3 wr b r 7 (lnP t p) left ∧ PgP wr g b (calmL t left) p F ∧ Touch F w wr) (fun _ wr => wr.rangeLeft b r)
  case atStart =>
    refine ⟨_, HRg.out, ?_, (HT1.out.mono (fun _ _ e => e.elim)).trans HT2.out (fun _ _ e => e.elim)⟩
    have : calmL t (fun kl => (lnP t p kl).isSome) = t := by
      funext i
      unfold calmL
      rcases Option.eq_none_or_eq_some (t i) with h | ⟨y, h⟩
      · simp [h]
      · simp [h, lnP_at]
    rw [this]
    exact HP1.out.touch HT2.out (fun e => e) (fun _ _ e => e)
  case round =>
    clear HRg HT2 HT1 HP1 q0 c1
    obtain ⟨left, hrg, hP, hT⟩ := hrel
    have HRr := Lib.hid hrg
    have HPr := Lib.hid hP
    have HT := Lib.hid hT
    clear hrg hP hT
    have hrl := HRr.out.lt
    go_wp2_with (at_next; refine nextV _ rfl _ rfl _ lawI (fun c : Int => Value.int .i64 c) (fun c : Int => Lit.int .i64 c) (fun key kl hk => by obtain ⟨x, rfl, _, hw⟩ := Maps.keyOf_int_inv Try.underlying3 hk; exact ⟨x, rfl, by simpa using ‹kl = _›⟩) b r 7 _ left rfl HRr.out ?_ ?_)
    · intro h0
      have H0 := Lib.hid h0
      clear h0
      go_wp2_with fail
      go_ret
      exact ⟨rfl, ⟨p, calmL_end t HOk.out left H0.out ▸ HPr.out⟩, HT.out⟩
    · intro x v w3 hx hlx hfx hrg3 hlt t3 hen
      have hxi : inI x := by
        obtain ⟨x', ex, _, hw⟩ := Maps.keyOf_int_inv Try.underlying3 hx
        injection ex with _ ex
        subst ex
        simp [Lit.wf, IntKind.min, IntKind.max, IntKind.signed, IntKind.bits] at hw
        exact hw
      have HRr3 := Lib.hid hrg3
      have HT3 := Lib.hid t3
      have HLt := Lib.hid hlt
      have HLx := Lib.hid hlx
      have hrF : ¬ F r := fun e => by have := HLF.out r e; omega
      have hgr : g ≠ r := by omega
      have HP3 := Lib.hid (HPr.out.touch t3 (by omega) (fun k hk e => hrF (e ▸ hk)))
      obtain ⟨y, hy, rfl⟩ : ∃ y, calmL t left x = some y ∧ v = .pointer (some ⟨p x, 0, none⟩) := by
        rw [lnP_at] at hfx
        unfold calmL
        cases ht : t x with
        | none => rw [ht] at hfx; cases hfx
        | some z => rw [ht] at hfx; simp at hfx; exact ⟨_, rfl, hfx.symm⟩
      have HY := Lib.hid hy
      have HB := Lib.hid (HP3.out.ln x y hy)
      have HFx := Lib.hid (HP3.out.fl x y hy)
      have hok := (HP3.out.ok x y hy).2.2
      have HPn := Lib.hid (HP3.out.nb x y hy)
      obtain ⟨P, hPx⟩ : ∃ P, P = p x := ⟨_, rfl⟩
      have HPx := Lib.hid hPx
      have c3 := HB.out.cell 3
      have f3 := HB.out.frozen 3
      simp at c3
      rw [← hPx] at c3 f3 hen ⊢
      have HOy := Lib.hid (calm_ok hok)
      clear hfx hy hPx hrg3 t3 hlt hlx hok hx
      go_wp2_with fail
      go_roundw
      case rel =>
        have htw : Touch (fun q => q = p x) w3 (w3.setCell ⟨P, 3, none⟩ (.bool false)) := by rw [HPx.out]; exact (Touch.refl (fun q => q = p x) w3).set (fun _ => rfl) _
        have hbw : Blk (w3.setCell ⟨P, 3, none⟩ (.bool false)) (p x) 43 (lnC (calm y)) := by rw [HPx.out]; exact HB.out.set_ 3 (.bool false)
        have h2 := HP3.out.line HY.out HOy.out htw hbw
        rw [calmL_step t left x y HY.out HLx.out hxi] at h2
        refine ⟨_, HRr3.out.touch htw (fun e => HPn.out e.symm) (fun e => hrF (by rw [e]; exact HFx.out)), h2, (HT.out.trans HT3.out (fun q hq e => by omega)).trans htw (fun q hq e => e ▸ HFx.out)⟩
      case measure =>
        have htw : Touch (fun q => q = p x) w3 (w3.setCell ⟨P, 3, none⟩ (.bool false)) := by rw [HPx.out]; exact (Touch.refl (fun q => q = p x) w3).set (fun _ => rfl) _
        have hb3 := HRr3.out.map.lt
        have hr3 := HRr3.out.lt
        rw [rangeLeftV_touch htw (fun e => HPn.out e.symm) (fun e => hrF (by rw [e]; exact HFx.out)) hb3 hr3]
        exact HLt.out
end Go.Proofs.Ytpgakkpmpnebnaa
