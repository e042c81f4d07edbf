/- A table of what clients asked last: Done, Drop. -/
import Derived.Test.YtmgmjehebbggaaaVSesB
import Derived.Test.YtmgmjehebbggaaaVRepQ
import Derived.Test.YtmgmjehebbggaaaPlan
namespace Go.Proofs.Ytmgmjehebbggaaa
open Go.RowKit Go.Maps
set_option maxHeartbeats 4000000
set_option maxRecDepth 100000
set_option linter.unusedVariables false

def whoB (c : Nat) : Bool := decide (1 ≤ c) && decide (c ≤ 8)
def rpS (a : RpV) : Bool := rpSound a.code a.time a.t a.fired.length a.dead
def doneE (s : SesS) (c q : Nat) (a : RpV) : Int := if (whoB c && rpS a) = true then (if q ≤ lastV s c then 34 else 0) else 2
def setS (s : SesS) (c q : Nat) (a : RpV) : SesS := fun i => if i = c then some (q, a) else s i
def doneS (s : SesS) (c q : Nat) (a : RpV) : SesS := if doneE s c q a = 0 then setS s c q a else s
theorem rpS_len {a : RpV} (h : rpS a = true) : a.fired.length ≤ 64 := by
  simp only [rpS, rpSound, Bool.and_eq_true, decide_eq_true_eq] at h; omega
theorem mem_clients {c : Nat} (h : c ≤ 8) : Lit.int .u64 c ∈ clients := by
  simp only [clients, List.mem_map, List.mem_range]; exact ⟨c, by omega, rfl⟩
theorem SesM.in_clients {s : SesS} {f : Lit → Option Value} (hok : ∀ c x, s c = some x → c ≤ 8) (hf : ∀ c : Nat, c < 18446744073709551616 → s c = none → f (.int .u64 c) = none) (kl : Lit) (hk : KeysOf Try.prog 29 kl) (h : (f kl).isSome = true) : kl ∈ clients := by
  obtain ⟨c, hc, rfl⟩ := keysU hk
  cases hs : s c with
  | none => rw [hf c hc hs] at h; cases h
  | some x => exact mem_clients (hok c x hs)
/-- The store. -/
theorem SesM.store {w : World} {b : Nat} {s : SesS} {F : Nat → Prop} (h : SesM w b s F) (hok : SesOk s) (hF : ∀ k, F k → k ≠ b) {c q : Nat} {a : RpV} (hc1 : 1 ≤ c) (hc8 : c ≤ 8) (A : Option Addr) (n : Nat) (hr : Rd w F A a.fired.length (a.fired.map U64)) :
    ∃ w', (Instr.mapUpdate 64 (.map (some b)) (.int .u64 c) (askVal q a A n)).run Try.prog w = .ok () w' ∧ SesM w' b (setS s c q a) F ∧ Touch (fun k => k = b) w w' := by
  obtain ⟨f, hm, hs⟩ := h
  obtain ⟨w', hrun, hm', ht⟩ := hm.store lawU Try.underlying64 (by omega) (keyU (show c < 18446744073709551616 by omega)) (askVal q a A n)
  refine ⟨w', hrun, ⟨setV f (.int .u64 c) (askVal q a A n), ?_, fun i hi => ?_⟩, ht⟩
  · refine hm'.tight lawU clients (SesM.in_clients (s := setS s c q a) (fun i x hx => ?_) (fun i hi hx => ?_))
    · unfold setS at hx; split at hx
      · omega
      · exact (hok.who i x hx).2
    · unfold setS at hx; split at hx
      · cases hx
      · rename_i hne
        have : ¬ (Lit.int .u64 (i : Int)) = Lit.int .u64 (c : Int) := fun e => hne (by injection e; omega)
        simp only [setV, if_neg this]
        exact (hs i hi).1 hx
  · by_cases e : i = c
    · subst e
      simp only [setS, setV, if_true]
      exact ⟨(fun h => by cases h), (fun q' a' h => by injection h with h; injection h with h1 h2; subst h1 h2; exact ⟨A, n, rfl, hr.touch ht hF⟩)⟩
    · have : ¬ (Lit.int .u64 (i : Int)) = Lit.int .u64 (c : Int) := fun e' => e (by injection e'; omega)
      simp only [setS, setV, if_neg e, if_neg this]
      refine ⟨(hs i hi).1, fun q' a' h => ?_⟩
      obtain ⟨A', k', h1, h2⟩ := (hs i hi).2 q' a' h
      exact ⟨A', k', h1, h2.touch ht hF⟩
def DoneP (g b : Nat) (F : Nat → Prop) (E : Int) (s' : SesS) (w : World) (e : Ending) (w' : World) : Prop :=
  e = .returned (.int .i64 E) ∧ SesAt w' g b s' F ∧ Touch (fun k => k = b) w w'
theorem sdone_any (g b : Nat) (s : SesS) (F : Nat → Prop) (w : World) (h : SesAt w g b s F) (hF : ∀ k, w.heap.size ≤ k → F k) (c q : Nat) (hc : c < 18446744073709551616) (hq : q < 18446744073709551616) (a : RpV) (A : Option Addr) (n : Nat)
    (hr : Rd w (fun k => k < w.heap.size) A a.fired.length (a.fired.map U64)) (hok : a.t.ok) :
    Calls Try.prog 12 #[.pointer (some ⟨g, 0, none⟩), .int .u64 c, .int .u64 q, .agg #[.int .i64 a.code, .int .i64 a.time, .int .u64 a.t.id, .int .i64 a.t.contract, .int .i64 a.t.state, .int .i64 a.t.level, .int .u64 a.t.gen, .int .i64 a.t.from_, .int .i64 a.t.left, .int .i64 a.t.due, .int .i64 a.t.told, .slice A a.fired.length n, .int .u64 a.notice, .int .i64 a.dead]] w (DoneP g b F (doneE s c q a) (doneS s c q a) w) := by
  have HT0 := Lib.hid ((Touch.refl (fun _ => False) w).alloc (.cells #[.int .i64 a.code, .int .i64 a.time, .int .u64 a.t.id, .int .i64 a.t.contract, .int .i64 a.t.state, .int .i64 a.t.level, .int .u64 a.t.gen, .int .i64 a.t.from_, .int .i64 a.t.left, .int .i64 a.t.due, .int .i64 a.t.told, .slice A a.fired.length n, .int .u64 a.notice, .int .i64 a.dead] 35))
  have HB0 := Lib.hid (Blk.new w 35 #[.int .i64 a.code, .int .i64 a.time, .int .u64 a.t.id, .int .i64 a.t.contract, .int .i64 a.t.state, .int .i64 a.t.level, .int .u64 a.t.gen, .int .i64 a.t.from_, .int .i64 a.t.left, .int .i64 a.t.due, .int .i64 a.t.told, .slice A a.fired.length n, .int .u64 a.notice, .int .i64 a.dead])
  have h0 := h.touch HT0.out (fun e => e) (fun e => e) (fun _ _ e => e)
  have HN := Lib.hid (snone_any g b s F _ h0)
  have HS0 := Lib.hid h0
  have q0 := h0.blk.cell 0
  simp at q0
  have HSd := Lib.hid (show ∀ w1, Calls Try.prog 28 #[.agg #[.int .i64 a.code, .int .i64 a.time, .int .u64 a.t.id, .int .i64 a.t.contract, .int .i64 a.t.state, .int .i64 a.t.level, .int .u64 a.t.gen, .int .i64 a.t.from_, .int .i64 a.t.left, .int .i64 a.t.due, .int .i64 a.t.told, .slice A a.fired.length n, .int .u64 a.notice, .int .i64 a.dead]] w1 fun e w' => e = .returned (.bool (rpS a)) ∧ Touch (fun _ => False) w1 w' from fun w1 => psound_any a.code a.time a.t A a.fired.length n a.notice a.dead w1 hok)
  have HF := Lib.hid hF
  have HR := Lib.hid hr
  have hbl := h.map.choose_spec.1.lt
  have hgl := h.blk.lt
  have hnb := h.ne
  clear h h0 hF hr hok
  obtain ⟨E, hE⟩ : ∃ E, E = doneE s c q a := ⟨_, rfl⟩
  obtain ⟨s', hs'⟩ : ∃ s', s' = doneS s c q a := ⟨_, rfl⟩
  rw [← hE, ← hs']
  have HE := Lib.hid (show E = if (whoB c && rpS a) = true then (if q ≤ lastV s c then 34 else 0) else 2 from hE)
  have HD := Lib.hid (show s' = if E = 0 then setS s c q a else s by rw [hs', hE, doneS])
  clear hE hs'
  by_cases hc0 : c < 1
  · have HE := Lib.hid (show E = 2 by rw [HE.out, show whoB c = false by simp [whoB]; omega]; rfl)
    have HD := Lib.hid (show s' = s by rw [HD.out, HE.out]; rfl)
    have hc0' : (c : Int) < 1 := by omega
    go_enter Try.func12, Try.ntmps12
    go_wp2_with (go_at_call 26; go_must (refine HN.out.mono ?_); rintro e w1 ⟨rfl, rfl⟩)
    go_ret
    exact ⟨by rw [HE.out]; rfl, HD.out ▸ HS0.out, HT0.out.mono (fun _ _ e => e.elim)⟩
  by_cases hc9 : 8 < c
  · have HE := Lib.hid (show E = 2 by rw [HE.out, show whoB c = false by simp [whoB]; omega]; rfl)
    have HD := Lib.hid (show s' = s by rw [HD.out, HE.out]; rfl)
    have hc0' : ¬ (c : Int) < 1 := by omega
    have hc9' : 8 < (c : Int) := by omega
    go_enter Try.func12, Try.ntmps12
    go_wp2_with (go_at_call 26; go_must (refine HN.out.mono ?_); rintro e w1 ⟨rfl, rfl⟩)
    go_ret
    exact ⟨by rw [HE.out]; rfl, HD.out ▸ HS0.out, HT0.out.mono (fun _ _ e => e.elim)⟩
  have hc0' : ¬ (c : Int) < 1 := by omega
  have hc9' : ¬ 8 < (c : Int) := by omega
  cases hso : rpS a
  · rw [hso] at HSd
    have HE := Lib.hid (show E = 2 by rw [HE.out, hso, Bool.and_false]; rfl)
    have HD := Lib.hid (show s' = s by rw [HD.out, HE.out]; rfl)
    clear hso
    go_enter Try.func12, Try.ntmps12
    go_wp2_with (first
      | (go_at_call 26; go_must (refine HN.out.mono ?_); rintro e w1 ⟨rfl, rfl⟩)
      | (go_at_call 28; go_must (refine (HSd.out _).mono ?_); rintro e w2 ⟨rfl, t2⟩; have HT := Lib.hid t2; clear t2))
    go_ret
    exact ⟨by rw [HE.out]; rfl, HD.out ▸ HS0.out.touch HT.out (fun e => e) (fun e => e) (fun _ _ e => e), (HT0.out.trans HT.out (fun _ _ e => e)).mono (fun _ _ e => e.elim)⟩
  · rw [hso] at HSd
    have h64 := rpS_len hso
    have HE := Lib.hid (show E = if q ≤ lastV s c then 34 else 0 by rw [HE.out, hso, show whoB c = true by simp [whoB]; omega]; rfl)
    clear hso
    have HLa := Lib.hid (fun w1 (h : SesAt w1 g b s F) => slast_any g b s F w1 h c hc)
    obtain ⟨la, hla⟩ : ∃ la, la = lastV s c := ⟨_, rfl⟩
    rw [← hla] at HLa HE
    clear hla
    by_cases hl : q ≤ la
    · have HE := Lib.hid (show E = 34 by rw [HE.out, if_pos hl])
      have HD := Lib.hid (show s' = s by rw [HD.out, HE.out]; rfl)
      have hl' : (q : Int) ≤ la := by omega
      go_enter Try.func12, Try.ntmps12
      go_wp2_with (first
        | (go_at_call 26; go_must (refine HN.out.mono ?_); rintro e w1 ⟨rfl, rfl⟩)
        | (go_at_call 28; go_must (refine (HSd.out _).mono ?_); rintro e w2 ⟨rfl, t2⟩; have HT := Lib.hid t2; have HS2 := Lib.hid (HS0.out.touch t2 (fun e => e) (fun e => e) (fun _ _ e => e)); clear t2)
        | (go_at_call 14; go_must (refine (HLa.out _ (by exact HS2.out)).mono ?_); rintro e w3 ⟨rfl, rfl⟩))
      go_ret
      exact ⟨by rw [HE.out]; rfl, HD.out ▸ HS2.out, (HT0.out.trans HT.out (fun _ _ e => e)).mono (fun _ _ e => e.elim)⟩
    · have HE := Lib.hid (show E = 0 by rw [HE.out, if_neg hl])
      have HD := Lib.hid (show s' = setS s c q a by rw [HD.out, HE.out]; rfl)
      have hl' : ¬ (q : Int) ≤ la := by omega
      have hq1 : 1 ≤ q := by omega
      go_enter Try.func12, Try.ntmps12
      go_wp2_with (first
        | (go_at_call 26; go_must (refine HN.out.mono ?_); rintro e w1 ⟨rfl, rfl⟩)
        | (go_at_call 28; go_must (refine (HSd.out _).mono ?_); rintro e w2 ⟨rfl, t2⟩; have HT := Lib.hid (HT0.out.trans t2 (fun _ _ e => e)); have HB2 := Lib.hid (t2.blk HB0.out (fun e => e)); have HS2 := Lib.hid (HS0.out.touch t2 (fun e => e) (fun e => e) (fun _ _ e => e)); clear t2 q0)
        | (go_at_call 14; go_must (refine (HLa.out _ (by exact HS2.out)).mono ?_); rintro e w3 ⟨rfl, rfl⟩))
      have d0 := HB2.out.cell 0; have d1 := HB2.out.cell 1; have d2 := HB2.out.cell 2; have d3 := HB2.out.cell 3; have d4 := HB2.out.cell 4; have d5 := HB2.out.cell 5; have d6 := HB2.out.cell 6; have d7 := HB2.out.cell 7; have d8 := HB2.out.cell 8; have d9 := HB2.out.cell 9; have d10 := HB2.out.cell 10; have d11 := HB2.out.cell 11; have d12 := HB2.out.cell 12; have d13 := HB2.out.cell 13; simp at d0 d1 d2 d3 d4 d5 d6 d7 d8 d9 d10 d11 d12 d13
      have hz2 := HT.out.size
      have HCo := Lib.hid (copy_any a A n w2.drew ((HR.out.touch HT.out (fun _ _ e => e)).mono (fun k hk => by have : w2.drew.heap.size = w2.heap.size := rfl; omega)) (by omega))
      refine wp_region_plan [(0, 6), (1, 0), (1, 1), (1, 2), (1, 3), (1, 4), (1, 5), (2, 7), (0, 8), (2, 9)] (fun k => k = b) (by kernel_rfl) (by kernel_rfl) (fun c a d v w h => by cases d <;> exact h) ?_
      iterate 1
        first
          | (refine plan_s1 rfl (by rfl) (fun Kc hKc => ?_)
             go_simp
             first
               | (refine hKc _ ?_)
             clear hKc Kc)
          | (refine plan_s0 rfl (by rfl) ?_; go_frame)
      iterate 6
        first
          | (apply plan_h
             · rfl
             · rfl
             · intro wh hT
               have hf0 := show wh.cell? ⟨g, 0, none⟩ = some (.map (some b)) from (hT.blk HS2.out.blk (fun e => hnb e.symm)).cell 0
               go_simp
               try rfl
             go_frame)
          | (refine plan_hn rfl (by rfl) ?_; go_frame)
      clear d0 d1 d2 d3 d4 d5 d6 d7 d8 d9 d10 d11 d12 d13
      refine plan_a1 rfl (by rfl) (fun Kc hKc => ?_)
      go_simp
      refine (HCo.out.mono ?_)
      rintro e w3 ⟨g3, rfl, hb3, hg3, t3⟩
      refine hKc _ _ ⟨(t3.mono (fun _ _ e => e.elim)), ?_⟩
      clear hKc Kc
      have t3' : Touch (fun _ => False) w2 w3 := (Touch.refl (fun _ => False) w2).drew.trans t3 (fun _ _ e => e)
      have hg3' : w.heap.size ≤ g3 := by have : w2.drew.heap.size = w2.heap.size := rfl; omega
      have HT3 := Lib.hid t3'
      have hr3 : Rd w3 F (some ⟨g3, 0, none⟩) a.fired.length (a.fired.map U64) := ⟨by simp, fun _ => ⟨g3, 0, rfl, hb3.lt, HF.out g3 hg3', fun j u hj => by rw [Nat.zero_add]; exact (hb3.cell j).trans (by simpa using hj)⟩⟩
      obtain ⟨w4, hrun, hm4, t4⟩ := (HS2.out.map.touch t3' (fun e => e) (fun _ _ e => e)).store HS2.out.ok HS2.out.nF (by omega) (by omega) (some ⟨g3, 0, none⟩) a.fired.length hr3 (c := c) (q := q)
      rw [askVal] at hrun
      have HM4 := Lib.hid hm4
      have HT4 := Lib.hid t4
      clear hb3 hg3 t3 t3' hr3 hm4 t4
      iterate 1
        first
          | (refine plan_s1 rfl (by rfl) (fun Kc hKc => ?_)
             go_simp
             first
               | (refine hKc _ ?_)
             clear hKc Kc)
          | (refine plan_s0 rfl (by rfl) ?_; go_frame)
      refine plan_a1 rfl (by rfl) (fun Kc hKc => ?_)
      go_simp
      refine hKc _ _ ⟨HT4.out, ?_⟩
      clear hKc Kc
      refine plan_done ?_
      clear hrun
      go_wp2
      go_ret
      have t4 : Touch (fun k => k = b) w2 w4 := (HT3.out.mono (fun _ _ e => e.elim)).trans HT4.out (fun _ _ e => e)
      refine ⟨by rw [HE.out]; rfl, ?_, (HT.out.mono (fun _ _ e => e.elim)).trans t4 (fun _ _ e => e)⟩
      rw [HD.out]
      refine ⟨t4.blk HS2.out.blk (fun e => hnb e.symm), HM4.out, ⟨fun i x hx => ?_, fun i q' a' hx => ?_, fun i q' a' hx => ?_⟩, HS2.out.nF, hnb⟩
      · unfold setS at hx; split at hx
        · omega
        · exact HS2.out.ok.who i x hx
      · unfold setS at hx; split at hx
        · injection hx with hx; injection hx with h1 h2; omega
        · exact HS2.out.ok.req i q' a' hx
      · unfold setS at hx; split at hx
        · injection hx with hx; injection hx with h1 h2; subst h2; omega
        · exact HS2.out.ok.rep i q' a' hx
end Go.Proofs.Ytmgmjehebbggaaa
