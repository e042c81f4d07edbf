/- A table of what clients asked last: its state; none, Last, Empty. -/
import Derived.Test.YtmgmjehebbggaaaGMap
import Derived.Test.YtmgmjehebbggaaaRepR
namespace Go.Proofs.Ytmgmjehebbggaaa
open Go.RowKit Go.Maps
set_option maxHeartbeats 4000000
set_option maxRecDepth 100000
set_option linter.unusedVariables false

/-- What a client asked last, as the map's element. -/
def askVal (req : Nat) (a : RpV) (A : Option Addr) (c : Nat) : Value := .agg #[.int .u64 req, .int .i64 a.code, .int .i64 a.time, .int .u64 a.t.id, .int .i64 a.t.contract, .int .i64 a.t.state, .int .i64 a.t.level, .int .u64 a.t.gen, .int .i64 a.t.from_, .int .i64 a.t.left, .int .i64 a.t.due, .int .i64 a.t.told, .slice A a.fired.length c, .int .u64 a.notice, .int .i64 a.dead]
def ask0 : Value := .agg #[.int .u64 0, .int .i64 0, .int .i64 0, .int .u64 0, .int .i64 0, .int .i64 0, .int .i64 0, .int .u64 0, .int .i64 0, .int .i64 0, .int .i64 0, .int .i64 0, .slice none 0 0, .int .u64 0, .int .i64 0]
theorem lawU : Keyed Try.prog 29 := int_keyed Try.underlying29
theorem keyU {c : Nat} (h : c < 18446744073709551616) : keyOf Try.prog 29 (.int .u64 c) = some (.int .u64 c) := keyOf_int_mk Try.underlying29 (by simp [Lit.wf, IntKind.min, IntKind.max, IntKind.signed, IntKind.bits]; omega)
theorem keysU {kl : Lit} (h : KeysOf Try.prog 29 kl) : ∃ c : Nat, c < 18446744073709551616 ∧ kl = .int .u64 c := by
  obtain ⟨v, hv⟩ := h
  obtain ⟨x, _, rfl, hw⟩ := Maps.keyOf_int_inv Try.underlying29 hv
  simp [Lit.wf, IntKind.min, IntKind.max, IntKind.signed, IntKind.bits] at hw
  exact ⟨x.toNat, by omega, by rw [Int.toNat_of_nonneg hw.1]⟩
theorem zeroAsk (w : World) : (zeroValue 72).run Try.prog w = .ok ask0 w := by kernel_rfl
def clients : List Lit := (List.range 9).map fun c => Lit.int .u64 (c : Nat)
/-- What each client asked last. -/
abbrev SesS := Nat → Option (Nat × RpV)
/-- The map says so. -/
def SesM (w : World) (b : Nat) (s : SesS) (F : Nat → Prop) : Prop :=
  ∃ f, MapV Try.prog 29 w b 9 f ∧ ∀ c : Nat, c < 18446744073709551616 →
    (s c = none → f (.int .u64 c) = none) ∧ (∀ q a, s c = some (q, a) → ∃ A k, f (.int .u64 c) = some (askVal q a A k) ∧ Rd w F A a.fired.length (a.fired.map U64))
/-- Who may stand in a table, and what. -/
structure SesOk (s : SesS) : Prop where
  who : ∀ c x, s c = some x → 1 ≤ c ∧ c ≤ 8
  req : ∀ c q a, s c = some (q, a) → 1 ≤ q ∧ q < 18446744073709551616
  rep : ∀ c q a, s c = some (q, a) → a.fired.length ≤ 64
structure SesAt (w : World) (g b : Nat) (s : SesS) (F : Nat → Prop) : Prop where
  blk : Blk w g 66 #[.map (some b)]
  map : SesM w b s F
  ok : SesOk s
  nF : ∀ k, F k → k ≠ b
  ne : b ≠ g
theorem SesM.touch {w w' : World} {b : Nat} {s : SesS} {F S : Nat → Prop} (h : SesM w b s F) (t : Touch S w w') (hb : ¬ S b) (hF : ∀ k, F k → ¬ S k) : SesM w' b s F := by
  obtain ⟨f, hm, hs⟩ := h
  refine ⟨f, hm.touch t hb, fun c hc => ⟨(hs c hc).1, fun q a h => ?_⟩⟩
  obtain ⟨A, k, h1, h2⟩ := (hs c hc).2 q a h
  exact ⟨A, k, h1, h2.touch t hF⟩
theorem SesAt.touch {w w' : World} {g b : Nat} {s : SesS} {F S : Nat → Prop} (h : SesAt w g b s F) (t : Touch S w w') (hg : ¬ S g) (hb : ¬ S b) (hF : ∀ k, F k → ¬ S k) : SesAt w' g b s F :=
  ⟨t.blk h.blk hg, h.map.touch t hb hF, h.ok, h.nF, h.ne⟩
theorem SesM.mono {w : World} {b : Nat} {s : SesS} {F F' : Nat → Prop} (h : SesM w b s F) (hF : ∀ k, F k → F' k) : SesM w b s F' := by
  obtain ⟨f, hm, hs⟩ := h
  refine ⟨f, hm, fun c hc => ⟨(hs c hc).1, fun q a h => ?_⟩⟩
  obtain ⟨A, k, h1, h2⟩ := (hs c hc).2 q a h
  exact ⟨A, k, h1, h2.mono hF⟩
theorem SesM.look {w : World} {b : Nat} {s : SesS} {F : Nat → Prop} (h : SesM w b s F) {c : Nat} (hc : c < 18446744073709551616) (hn : s c = none) :
    (Instr.lookup 64 (.map (some b)) (.int .u64 c) true).run Try.prog w = .ok (.tuple #[ask0, .bool false]) w ∧ (Instr.lookup 64 (.map (some b)) (.int .u64 c) false).run Try.prog w = .ok ask0 w := by
  obtain ⟨f, hm, hs⟩ := h
  have hf := (hs c hc).1 hn
  have h1 := hm.lookOk lawU Try.underlying64 (zeroAsk w) (keyU hc)
  have h2 := hm.look lawU Try.underlying64 (zeroAsk w) (keyU hc)
  rw [hf] at h1 h2
  exact ⟨h1, h2⟩
theorem SesM.look1 {w : World} {b : Nat} {s : SesS} {F : Nat → Prop} (h : SesM w b s F) {c : Nat} (hc : c < 18446744073709551616) {q : Nat} {a : RpV} (hn : s c = some (q, a)) :
    ∃ A k, Rd w F A a.fired.length (a.fired.map U64) ∧ (Instr.lookup 64 (.map (some b)) (.int .u64 c) true).run Try.prog w = .ok (.tuple #[askVal q a A k, .bool true]) w ∧ (Instr.lookup 64 (.map (some b)) (.int .u64 c) false).run Try.prog w = .ok (askVal q a A k) w := by
  obtain ⟨f, hm, hs⟩ := h
  obtain ⟨A, k, hf, hr⟩ := (hs c hc).2 q a hn
  have h1 := hm.lookOk lawU Try.underlying64 (zeroAsk w) (keyU hc)
  have h2 := hm.look lawU Try.underlying64 (zeroAsk w) (keyU hc)
  rw [hf] at h1 h2
  exact ⟨A, k, hr, h1, h2⟩

theorem snone_any (g b : Nat) (s : SesS) (F : Nat → Prop) (w : World) (h : SesAt w g b s F) :
    Calls Try.prog 26 #[.pointer (some ⟨g, 0, none⟩)] w fun e w' => e = .returned (.bool false) ∧ w = w' := by
  have q0 := h.blk.cell 0
  simp at q0
  clear h
  have hbin : ∀ w, (binOp .eql 64 (.map (some b)) (.map none)).run Try.prog w = .ok (.bool false) w := fun w => by first | rfl | simp [go_sem]
  go_enter Try.func26, Try.ntmps26
  go_wp2
  go_ret
  exact ⟨rfl, rfl⟩
def lastV (s : SesS) (c : Nat) : Nat := match s c with | none => 0 | some x => x.1
theorem slast_any (g b : Nat) (s : SesS) (F : Nat → Prop) (w : World) (h : SesAt w g b s F) (c : Nat) (hc : c < 18446744073709551616) :
    Calls Try.prog 14 #[.pointer (some ⟨g, 0, none⟩), .int .u64 c] w fun e w' => e = .returned (.int .u64 (lastV s c)) ∧ w = w' := by
  have HN := Lib.hid (snone_any g b s F w h)
  have q0 := h.blk.cell 0
  simp at q0
  obtain ⟨v, hv⟩ : ∃ v, v = lastV s c := ⟨_, rfl⟩
  rw [← hv]
  have HV := Lib.hid hv
  have hm := h.map
  clear h hv
  cases hs : s c with
  | none =>
    have hl := (hm.look hc hs).2
    have HE := Lib.hid (show v = 0 by rw [HV.out, lastV, hs])
    rw [ask0] at hl
    have hfd : ∀ w : World, (Instr.field 72 (.agg #[.int .u64 0, .int .i64 0, .int .i64 0, .int .u64 0, .int .i64 0, .int .i64 0, .int .i64 0, .int .u64 0, .int .i64 0, .int .i64 0, .int .i64 0, .int .i64 0, .slice none 0 0, .int .u64 0, .int .i64 0]) 0).run Try.prog w = .ok (.int .u64 0) w := fun _ => by kernel_rfl
    clear hm hs HV
    go_enter Try.func14, Try.ntmps14
    go_wp2_with (go_at_call 26; go_must (refine HN.out.mono ?_); rintro e w1 ⟨rfl, rfl⟩)
    go_ret
    exact ⟨by rw [HE.out]; rfl, rfl⟩
  | some x =>
    obtain ⟨q, a⟩ := x
    obtain ⟨A, k, -, -, hl⟩ := hm.look1 hc hs
    have HE := Lib.hid (show v = q by rw [HV.out, lastV, hs])
    rw [askVal] at hl
    have hfd : ∀ w : World, (Instr.field 72 (.agg #[.int .u64 q, .int .i64 a.code, .int .i64 a.time, .int .u64 a.t.id, .int .i64 a.t.contract, .int .i64 a.t.state, .int .i64 a.t.level, .int .u64 a.t.gen, .int .i64 a.t.from_, .int .i64 a.t.left, .int .i64 a.t.due, .int .i64 a.t.told, .slice A a.fired.length k, .int .u64 a.notice, .int .i64 a.dead]) 0).run Try.prog w = .ok (.int .u64 q) w := fun _ => by kernel_rfl
    clear hm hs HV
    go_enter Try.func14, Try.ntmps14
    go_wp2_with (go_at_call 26; go_must (refine HN.out.mono ?_); rintro e w1 ⟨rfl, rfl⟩)
    go_ret
    exact ⟨by rw [HE.out]; rfl, rfl⟩
def EmptyP (w : World) (e : Ending) (w' : World) : Prop :=
  ∃ g b, e = .returned (.pointer (some ⟨g, 0, none⟩)) ∧ SesAt w' g b (fun _ => none) (fun k => w.heap.size ≤ k ∧ k ≠ b) ∧ w.heap.size ≤ g ∧ w.heap.size ≤ b ∧ Touch (fun _ => False) w w'
theorem sempty_any (w : World) : Calls Try.prog 9 #[] w (EmptyP w) := by
  have hmm := @run_makeMap Try.prog
  go_enter Try.func9, Try.ntmps9
  go_wp2
  go_ret
  refine ⟨w.heap.size + 1, w.heap.size, rfl, ⟨by simpa using Blk.new (w.alloc (.map #[] 0)) 66 #[.map (some w.heap.size)], ⟨fun _ => none, ((MapV.new Try.prog 29 w).touch ((Touch.refl (fun _ => False) _).alloc _) (fun e => e)).mono (by omega), fun c _ => ⟨(fun _ => rfl), (fun q a e => by cases e)⟩⟩, ⟨(fun c x e => by cases e), (fun c q a e => by cases e), (fun c q a e => by cases e)⟩, fun k hk => hk.2, by omega⟩, by omega, by omega, ((Touch.refl _ w).alloc _).alloc _⟩
end Go.Proofs.Ytmgmjehebbggaaa
