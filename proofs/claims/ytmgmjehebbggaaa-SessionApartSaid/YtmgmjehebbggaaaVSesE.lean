/- The words for SessionOnce's loop, and its plain law. -/
import Derived.Test.YtmgmjehebbggaaaVSesK
import Derived.Test.YtmgmjehebbggaaaVCells
namespace Go.Proofs.Ytmgmjehebbggaaa
open Go.RowKit Go.Maps
set_option maxHeartbeats 4000000
set_option maxRecDepth 100000
set_option linter.unusedVariables false

def opVal (o : SOpV) : Value := .agg #[.int .i64 o.kind, .int .u64 o.client, .int .u64 o.req, .int .i64 o.a.code, .int .i64 o.a.time, .int .u64 o.a.t.id, .int .i64 o.a.t.contract, .int .i64 o.a.t.state, .int .i64 o.a.t.level, .int .u64 o.a.t.gen, .int .i64 o.a.t.from_, .int .i64 o.a.t.left, .int .i64 o.a.t.due, .int .i64 o.a.t.told, .slice o.A o.a.fired.length o.c, .int .u64 o.a.notice, .int .i64 o.a.dead]
def op0 : Value := .agg #[.int .i64 0, .int .u64 0, .int .u64 0, .int .i64 0, .int .i64 0, .int .u64 0, .int .i64 0, .int .i64 0, .int .i64 0, .int .u64 0, .int .i64 0, .int .i64 0, .int .i64 0, .int .i64 0, .slice none 0 0, .int .u64 0, .int .i64 0]
theorem zeroOp (w : World) : (zeroValue 37).run Try.prog w = .ok op0 w := by kernel_rfl
theorem zeroB (w : World) : (zeroValue 4).run Try.prog w = .ok (.bool false) w := by kernel_rfl
def DoneM (w : World) (b n : Nat) (dn : Nat → Nat → Bool) : Prop :=
  ∃ fd, MapV Try.prog 38 w b n fd ∧ ∀ (c q : Nat) kl, keyOf Try.prog 38 (.agg #[.int .u64 c, .int .u64 q]) = some kl → fd kl = if dn c q = true then some (.bool true) else none
def LastM (w : World) (b n : Nat) (la : Nat → Option SOpV) : Prop :=
  ∃ fl, MapV Try.prog 29 w b n fl ∧ ∀ c : Nat, c < 18446744073709551616 → fl (.int .u64 c) = (la c).map opVal
theorem DoneM.touch {w w' : World} {b n : Nat} {dn : Nat → Nat → Bool} {S : Nat → Prop} (h : DoneM w b n dn) (t : Touch S w w') (hb : ¬ S b) : DoneM w' b n dn := by
  obtain ⟨f, h, hs⟩ := h; exact ⟨f, h.touch t hb, hs⟩
theorem LastM.touch {w w' : World} {b n : Nat} {la : Nat → Option SOpV} {S : Nat → Prop} (h : LastM w b n la) (t : Touch S w w') (hb : ¬ S b) : LastM w' b n la := by
  obtain ⟨f, h, hs⟩ := h; exact ⟨f, h.touch t hb, hs⟩
theorem DoneM.mono {w : World} {b n n' : Nat} {dn : Nat → Nat → Bool} (h : DoneM w b n dn) (hn : n ≤ n') : DoneM w b n' dn := by
  obtain ⟨f, h, hs⟩ := h; exact ⟨f, h.mono hn, hs⟩
theorem LastM.mono {w : World} {b n n' : Nat} {la : Nat → Option SOpV} (h : LastM w b n la) (hn : n ≤ n') : LastM w b n' la := by
  obtain ⟨f, h, hs⟩ := h; exact ⟨f, h.mono hn, hs⟩
theorem DoneM.look {w : World} {b n : Nat} {dn : Nat → Nat → Bool} (h : DoneM w b n dn) {c q : Nat} (hc : c < 18446744073709551616) (hq : q < 18446744073709551616) :
    (Instr.lookup 27 (.map (some b)) (.agg #[.int .u64 c, .int .u64 q]) false).run Try.prog w = .ok (.bool (dn c q)) w := by
  obtain ⟨f, h, hs⟩ := h
  obtain ⟨kl, hk⟩ := key2 hc hq
  have := h.look law2 Try.underlying27 (zeroB w) hk
  rw [hs c q kl hk] at this
  cases hd : dn c q <;> rw [hd] at this <;> simpa using this
theorem LastM.look {w : World} {b n : Nat} {la : Nat → Option SOpV} (h : LastM w b n la) {c : Nat} (hc : c < 18446744073709551616) {o : SOpV} (ho : la c = some o) :
    (Instr.lookup 28 (.map (some b)) (.int .u64 c) false).run Try.prog w = .ok (opVal o) w := by
  obtain ⟨f, h, hs⟩ := h
  have := h.look lawU Try.underlying28 (zeroOp w) (keyU hc)
  rw [hs c hc, ho] at this
  exact this
def setD (dn : Nat → Nat → Bool) (c q : Nat) : Nat → Nat → Bool := fun i k => if i = c ∧ k = q then true else dn i k
def setL (la : Nat → Option SOpV) (c : Nat) (o : SOpV) : Nat → Option SOpV := fun i => if i = c then some o else la i
theorem DoneM.store {w : World} {b n : Nat} {dn : Nat → Nat → Bool} (h : DoneM w b n dn) (hn : n < 1000000) {c q : Nat} (hc : c < 18446744073709551616) (hq : q < 18446744073709551616) :
    ∃ w', (Instr.mapUpdate 27 (.map (some b)) (.agg #[.int .u64 c, .int .u64 q]) (.bool true)).run Try.prog w = .ok () w' ∧ DoneM w' b (n + 1) (setD dn c q) ∧ Touch (fun k => k = b) w w' := by
  obtain ⟨f, h, hs⟩ := h
  obtain ⟨kl, hk⟩ := key2 hc hq
  obtain ⟨w', hrun, h', t⟩ := h.store law2 Try.underlying27 hn hk (.bool true)
  refine ⟨w', hrun, ⟨_, h', fun i k kl' hk' => ?_⟩, t⟩
  by_cases e : kl' = kl
  · subst e
    have := law2.inj hk' hk
    simp only [Value.agg.injEq, Array.mk.injEq, List.cons.injEq, Value.int.injEq, and_true, true_and] at this
    have e1 : i = c := by omega
    have e2 : k = q := by omega
    subst e1 e2
    simp [setV, setD]
  · have hne : ¬ (i = c ∧ k = q) := by
      rintro ⟨rfl, rfl⟩; rw [hk] at hk'; injection hk' with hk'; exact e hk'.symm
    simp only [setV, if_neg e, setD, if_neg hne]
    exact hs i k kl' hk'
theorem LastM.store {w : World} {b n : Nat} {la : Nat → Option SOpV} (h : LastM w b n la) (hn : n < 1000000) {c : Nat} (hc : c < 18446744073709551616) (o : SOpV) :
    ∃ w', (Instr.mapUpdate 28 (.map (some b)) (.int .u64 c) (opVal o)).run Try.prog w = .ok () w' ∧ LastM w' b (n + 1) (setL la c o) ∧ Touch (fun k => k = b) w w' := by
  obtain ⟨f, h, hs⟩ := h
  obtain ⟨w', hrun, h', t⟩ := h.store lawU Try.underlying28 hn (keyU hc) (opVal o)
  refine ⟨w', hrun, ⟨_, h', fun i hi => ?_⟩, t⟩
  by_cases e : i = c
  · subst e; simp [setV, setL]
  · have hne : ¬ (Lit.int .u64 (i : Int)) = Lit.int .u64 (c : Int) := fun e' => e (by injection e'; omega)
    simp only [setV, if_neg hne, setL, if_neg e]
    exact hs i hi
theorem SesM.empty {w : World} {b : Nat} {F F' : Nat → Prop} (h : SesM w b (fun _ => none) F) : SesM w b (fun _ => none) F' := by
  obtain ⟨f, hm, hs⟩ := h
  exact ⟨f, hm, fun c hc => ⟨(hs c hc).1, (fun q a e => by cases e)⟩⟩
/-- In SessionOnce's loop. -/
structure OnceL (w0 w : World) (g b bd bl n : Nat) (s : SesS) (dn : Nat → Nat → Bool) (la : Nat → Option SOpV) : Prop where
  ses : SesAt w g b s (fun k => k ≠ b ∧ k ≠ bd ∧ k ≠ bl)
  done : DoneM w bd n dn
  last : LastM w bl n la
  i1 : ∀ c q, dn c q = true → q ≤ lastV s c
  i2 : ∀ c q a, s c = some (q, a) → ∃ o, la c = some o ∧ o.req = q ∧ o.a = a ∧ o.ok w0
  t : Touch (fun _ => False) w0 w
theorem OnceL.keep {w0 w w' : World} {g b bd bl n : Nat} {s : SesS} {dn : Nat → Nat → Bool} {la : Nat → Option SOpV} (h : OnceL w0 w g b bd bl n s dn la) (t : Touch (fun _ => False) w w') : OnceL w0 w' g b bd bl n s dn la :=
  ⟨h.ses.touch t (fun e => e) (fun e => e) (fun _ _ e => e), h.done.touch t (fun e => e), h.last.touch t (fun e => e), h.i1, h.i2, h.t.trans t (fun _ _ e => e)⟩
theorem OnceL.mono {w0 w : World} {g b bd bl n n' : Nat} {s : SesS} {dn : Nat → Nat → Bool} {la : Nat → Option SOpV} (h : OnceL w0 w g b bd bl n s dn la) (hn : n ≤ n') : OnceL w0 w g b bd bl n' s dn la :=
  ⟨h.ses, h.done.mono hn, h.last.mono hn, h.i1, h.i2, h.t⟩
theorem lookK_cases (s : SesS) (c q : Nat) : (lookK s c q = 1 ∧ lastV s c < q) ∨ (lookK s c q = 3 ∧ q ≤ lastV s c ∧ ∀ a, s c ≠ some (q, a)) ∨ ∃ a, lookK s c q = 2 ∧ s c = some (q, a) ∧ q ≤ lastV s c := by
  unfold lookK lastV
  cases hs : s c with
  | none =>
    by_cases h : 0 < q
    · left; simp [h]
    · right; left; simp; omega
  | some x =>
    obtain ⟨r, a⟩ := x
    simp only
    by_cases h1 : r < q
    · left; simp [h1]
    · by_cases h2 : q = r
      · right; right; exact ⟨a, by simp [h2]⟩
      · right; left
        refine ⟨by simp [h1, h2], by omega, fun a' e => ?_⟩
        injection e with e; injection e with e1 e2; exact h2 e1.symm
theorem doneE_new {s : SesS} {c q : Nat} {a : RpV} (h : q ≤ lastV s c) : doneE s c q a ≠ 0 := by
  unfold doneE; rw [if_pos h]; split <;> omega
theorem doneE_in (s : SesS) (c q : Nat) (a : RpV) (h : doneE s c q a = 0) : whoB c = true ∧ lastV s c < q := by
  unfold doneE at h
  split at h
  · rename_i hb
    simp only [Bool.and_eq_true] at hb
    split at h
    · omega
    · exact ⟨hb.1, by omega⟩
  · omega
/-- What was done: the new invariants. -/
theorem once_i1 {s : SesS} {dn : Nat → Nat → Bool} (h : ∀ c q, dn c q = true → q ≤ lastV s c) {c q : Nat} {a : RpV} (hq : lastV s c < q) : ∀ i k, setD dn c q i k = true → k ≤ lastV (setS s c q a) i := by
  intro i k hk
  unfold setD at hk
  split at hk
  · rename_i e; obtain ⟨rfl, rfl⟩ := e; simp [lastV, setS]
  · have := h i k hk
    by_cases e : i = c
    · subst e
      have e2 : lastV (setS s i q a) i = q := by simp [lastV, setS]
      omega
    · have e2 : lastV (setS s c q a) i = lastV s i := by simp [lastV, setS, e]
      omega
theorem once_i2 {w0 : World} {s : SesS} {la : Nat → Option SOpV} (h : ∀ c q a, s c = some (q, a) → ∃ o, la c = some o ∧ o.req = q ∧ o.a = a ∧ o.ok w0) (o : SOpV) (ho : o.ok w0) : ∀ c q a, setS s o.client o.req o.a c = some (q, a) → ∃ o', setL la o.client o c = some o' ∧ o'.req = q ∧ o'.a = a ∧ o'.ok w0 := by
  intro c q a hs
  unfold setS at hs
  unfold setL
  split at hs
  · rename_i e
    injection hs with hs; injection hs with h1 h2
    rw [if_pos e]
    exact ⟨o, rfl, h1, h2, ho⟩
  · rename_i e
    rw [if_neg e]
    exact h c q a hs
/-- Where the four blocks lie. -/
structure Sep (n0 g b bd bl : Nat) : Prop where
  h0 : n0 ≤ g ∧ n0 ≤ b ∧ n0 ≤ bd ∧ n0 ≤ bl
  h1 : g ≠ b ∧ g ≠ bd ∧ g ≠ bl ∧ b ≠ bd ∧ b ≠ bl ∧ bd ≠ bl
theorem OnceL.undone {w0 w w5 : World} {g b bd bl n : Nat} {s : SesS} {dn : Nat → Nat → Bool} {la : Nat → Option SOpV} (h : OnceL w0 w g b bd bl n s dn la) (p : Sep w0.heap.size g b bd bl) (hs : SesAt w5 g b s (fun k => k ≠ b ∧ k ≠ bd ∧ k ≠ bl)) (t : Touch (fun k => k = b) w w5) : OnceL w0 w5 g b bd bl n s dn la := by
  obtain ⟨⟨p1, p2, p3, p4⟩, q1, q2, q3, q4, q5, q6⟩ := p
  exact ⟨hs, h.done.touch t (by omega), h.last.touch t (by omega), h.i1, h.i2, h.t.trans t (fun k hk e => by omega)⟩
theorem OnceL.did {w0 w w5 w6 w7 : World} {g b bd bl n : Nat} {s : SesS} {dn : Nat → Nat → Bool} {la : Nat → Option SOpV} (h : OnceL w0 w g b bd bl n s dn la) (p : Sep w0.heap.size g b bd bl) (o : SOpV) (ho : o.ok w0) (hE : lastV s o.client < o.req)
    (hs : SesAt w5 g b (setS s o.client o.req o.a) (fun k => k ≠ b ∧ k ≠ bd ∧ k ≠ bl)) (t5 : Touch (fun k => k = b) w w5) (hd : DoneM w6 bd (n + 1) (setD dn o.client o.req)) (t6 : Touch (fun k => k = bd) w5 w6) (hl : LastM w7 bl (n + 1) (setL la o.client o)) (t7 : Touch (fun k => k = bl) w6 w7) :
    OnceL w0 w7 g b bd bl (n + 1) (setS s o.client o.req o.a) (setD dn o.client o.req) (setL la o.client o) := by
  obtain ⟨⟨p1, p2, p3, p4⟩, q1, q2, q3, q4, q5, q6⟩ := p
  exact ⟨(hs.touch t6 (by omega) (by omega) (fun k hk => hk.2.1)).touch t7 (by omega) (by omega) (fun k hk => hk.2.2), hd.touch t7 (by omega), hl, once_i1 h.i1 hE, once_i2 h.i2 o ho,
    ((h.t.trans t5 (fun k hk e => by omega)).trans t6 (fun k hk e => by omega)).trans t7 (fun k hk e => by omega)⟩
end Go.Proofs.Ytmgmjehebbggaaa
