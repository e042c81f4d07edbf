/- What reply.Copy does. A table of what clients asked last: its state; none, Last, Empty. -/
import Derived.Test.YtmgmjehebbggaaaVRepQ
import Derived.OwnWalk
import Derived.Laws.CopyOwn
import Derived.Test.YtmgmjehebbggaaaGMap
section
namespace Go.Proofs.Ytmgmjehebbggaaa
open Go.RowKit
set_option maxHeartbeats 4000000
set_option maxRecDepth 100000
set_option linter.unusedVariables false

theorem U64_one (l : List Nat) : ∀ u ∈ l.map U64, u.oneCell' = true := by
  intro u hu
  obtain ⟨c, _, rfl⟩ := List.mem_map.1 hu
  rfl
/-- What 'make' made, whole. -/
theorem Blk.of_full {w : World} {base : Nat} {e : TypeId} {g n : Nat} {xs : List Value} (h : w.ownsRow base e 1 (.slice (some ⟨g, 0, none⟩) n n) n xs) : Blk w g e xs.toArray := by
  rcases h.2 with ⟨e, _⟩ | ⟨g', cap, cur, e, _, hg, hn, hc, hs, ht⟩
  · cases e
  · injection e with e1 e2 e3
    injection e1 with e1
    injection e1 with e1
    subst e1 e3
    rw [List.take_of_length_le (by simp; omega)] at ht
    rw [← ht]
    exact hg
theorem splice_all (cur cs : List Value) (h : cur.length = cs.length) : splice cur 0 cs = cs := by
  simp [splice, h]
theorem Touch.below_trans {S : Nat → Prop} {w w1 w2 : World} {B : Nat} (h : Touch S w w1) (hb : Below B w1 w2) (hB : w.heap.size ≤ B) : Touch S w w2 :=
  ⟨hb.os.trans h.os, hb.tape.trans h.tape, hb.output.trans h.output, Nat.le_trans h.size hb.size, fun k hk hn => (hb.block k (Nat.lt_of_lt_of_le hk hB)).trans (h.block k hk hn)⟩
def CopyPost (a : RpV) (w : World) (e : Ending) (w' : World) : Prop :=
  ∃ g, e = .returned (.agg #[.int .i64 a.code, .int .i64 a.time, .int .u64 a.t.id, .int .i64 a.t.contract, .int .i64 a.t.state, .int .i64 a.t.level, .int .u64 a.t.gen, .int .i64 a.t.from_, .int .i64 a.t.left, .int .i64 a.t.due, .int .i64 a.t.told, .slice (some ⟨g, 0, none⟩) a.fired.length a.fired.length, .int .u64 a.notice, .int .i64 a.dead]) ∧ Blk w' g 29 (a.fired.map U64).toArray ∧ w.heap.size ≤ g ∧ Touch (fun _ => False) w w'
theorem copy_any (a : RpV) (A : Option Addr) (c : Nat) (w : World) (hr : Rd w (fun k => k < w.heap.size) A a.fired.length (a.fired.map U64)) (hsm : a.fired.length ≤ 1000) :
    Calls Try.prog 27 #[.agg #[.int .i64 a.code, .int .i64 a.time, .int .u64 a.t.id, .int .i64 a.t.contract, .int .i64 a.t.state, .int .i64 a.t.level, .int .u64 a.t.gen, .int .i64 a.t.from_, .int .i64 a.t.left, .int .i64 a.t.due, .int .i64 a.t.told, .slice A a.fired.length c, .int .u64 a.notice, .int .i64 a.dead]] w (CopyPost a w) := by
  obtain ⟨i0, hi, hz0, hz1, hz2⟩ := info_parts infoU
  obtain ⟨W, hW⟩ : ∃ W, W = (w.alloc (.cells #[.int .i64 a.code, .int .i64 a.time, .int .u64 a.t.id, .int .i64 a.t.contract, .int .i64 a.t.state, .int .i64 a.t.level, .int .u64 a.t.gen, .int .i64 a.t.from_, .int .i64 a.t.left, .int .i64 a.t.due, .int .i64 a.t.told, .slice A a.fired.length c, .int .u64 a.notice, .int .i64 a.dead] 35)).alloc (.cells #[.int .i64 0, .int .i64 0, .int .u64 0, .int .i64 0, .int .i64 0, .int .i64 0, .int .u64 0, .int .i64 0, .int .i64 0, .int .i64 0, .int .i64 0, .slice none 0 0, .int .u64 0, .int .i64 0] 35) := ⟨_, rfl⟩
  have HT0 := Lib.hid (show Touch (fun _ => False) w W from hW ▸ ((Touch.refl _ w).alloc _).alloc _)
  have HB0 := Lib.hid (show Blk W w.heap.size 35 #[.int .i64 a.code, .int .i64 a.time, .int .u64 a.t.id, .int .i64 a.t.contract, .int .i64 a.t.state, .int .i64 a.t.level, .int .u64 a.t.gen, .int .i64 a.t.from_, .int .i64 a.t.left, .int .i64 a.t.due, .int .i64 a.t.told, .slice A a.fired.length c, .int .u64 a.notice, .int .i64 a.dead] from hW ▸ (Blk.new w 35 _).alloc _)
  have HB1 := Lib.hid (show Blk W (w.heap.size + 1) 35 #[.int .i64 0, .int .i64 0, .int .u64 0, .int .i64 0, .int .i64 0, .int .i64 0, .int .u64 0, .int .i64 0, .int .i64 0, .int .i64 0, .int .i64 0, .slice none 0 0, .int .u64 0, .int .i64 0] from hW ▸ (by simpa using Blk.new (w.alloc (.cells #[.int .i64 a.code, .int .i64 a.time, .int .u64 a.t.id, .int .i64 a.t.contract, .int .i64 a.t.state, .int .i64 a.t.level, .int .u64 a.t.gen, .int .i64 a.t.from_, .int .i64 a.t.left, .int .i64 a.t.due, .int .i64 a.t.told, .slice A a.fired.length c, .int .u64 a.notice, .int .i64 a.dead] 35)) 35 #[.int .i64 0, .int .i64 0, .int .u64 0, .int .i64 0, .int .i64 0, .int .i64 0, .int .u64 0, .int .i64 0, .int .i64 0, .int .i64 0, .int .i64 0, .slice none 0 0, .int .u64 0, .int .i64 0]))
  have hWs : w.heap.size + 2 ≤ W.heap.size := by rw [hW]; simp
  have HW := Lib.hid hW
  have HR := Lib.hid hr
  clear hW hr
  go_enter Try.func27, Try.ntmps27
  go_wp2_with (first
    | (refine wpList_make_full _ rfl _ _ 33 rfl 0 29 i0 (.int .u64 0) 1 Try.underlying33 hi hz0 hz1 .i64 .i64 a.fired.length a.fired.length a.fired.length rfl rfl rfl rfl (by rw [hz2]; omega) (by simp only [maxLen]; omega) (Nat.zero_le _) ?_
       rw [← HW.out]
       intro w2 hown hgr
       have hL := hown.1
       have hbk := Blk.of_full hown
       have hzg := hbk.lt
       have HG := Lib.hid (Touch.of_grown hgr |>.mono (S' := fun _ => False) (fun q hq e => by cases e))
       have hb := HG.out.blk HB0.out (fun e => e)
       have q11 := hb.cell 11
       simp at q11
       generalize (madeCells (Value.int .u64 0).cells (a.fired.length * 1)).toList = L at hL hbk
       have HO := Lib.hid hbk
       have HL := Lib.hid hL
       clear hown hgr hb hL hbk)
    | (refine wpList_copy_splice (o := ⟨some 11, _, _, _, _, _⟩) rfl (.tmp 8) (.tmp 10) 33 33 rfl 29 Try.underlying33 (by kernel_rfl) (some ⟨W.heap.size, 0, none⟩) A a.fired.length a.fired.length a.fired.length c rfl rfl W.heap.size 0 L 29 (by exact HO.out) (a.fired.map U64) (by simp) (fun hp => ⟨rfl, by obtain ⟨g, off, e, _⟩ := HR.out.2 (by simpa using hp); exact ⟨⟨g, off, none⟩, e, by have hq := (HR.out.touch (HT0.out.trans HG.out (fun _ _ e => e)) (fun _ _ e => e)); rw [e] at hq; exact hq.add⟩⟩) (by have := HL.out; simp; omega) (U64_one _) W.heap.size w2 (Below.refl _ _) (Nat.le_refl _) ?_
       intro w3 hw3 hb3
       have hb3' := HG.out.below_trans hb3 (Nat.le_refl _)
       have HT3 := Lib.hid hb3'
       have HO3 := Lib.hid (show Blk w3 W.heap.size 29 (a.fired.map U64).toArray from by have := hw3.out; rw [splice_all _ _ (by have := HL.out; simp; omega)] at this; exact this)
       have hx := hb3'.blk HB0.out (fun e => e)
       have hy := hb3'.blk HB1.out (fun e => e)
       have q0 := hx.cell 0; have q1 := hx.cell 1; have q2 := hx.cell 2; have q3 := hx.cell 3; have q4 := hx.cell 4; have q5 := hx.cell 5; have q6 := hx.cell 6; have q7 := hx.cell 7; have q8 := hx.cell 8; have q9 := hx.cell 9; have q10 := hx.cell 10; have q11 := hx.cell 11; have q12 := hx.cell 12; have q13 := hx.cell 13; simp at q0 q1 q2 q3 q4 q5 q6 q7 q8 q9 q10 q11 q12 q13
       have d0 := hy.cell 0; have d1 := hy.cell 1; have d2 := hy.cell 2; have d3 := hy.cell 3; have d4 := hy.cell 4; have d5 := hy.cell 5; have d6 := hy.cell 6; have d7 := hy.cell 7; have d8 := hy.cell 8; have d9 := hy.cell 9; have d10 := hy.cell 10; have d11 := hy.cell 11; have d12 := hy.cell 12; have d13 := hy.cell 13; simp at d0 d1 d2 d3 d4 d5 d6 d7 d8 d9 d10 d11 d12 d13
       have f11 := hx.frozen 11
       have f0y := hy.frozen 0; have f1y := hy.frozen 1; have f2y := hy.frozen 2; have f3y := hy.frozen 3; have f4y := hy.frozen 4; have f5y := hy.frozen 5; have f6y := hy.frozen 6; have f7y := hy.frozen 7; have f8y := hy.frozen 8; have f9y := hy.frozen 9; have f10y := hy.frozen 10; have f11y := hy.frozen 11; have f12y := hy.frozen 12; have f13y := hy.frozen 13
       clear hw3 hb3 hb3' hx hy))
  have t3 : Touch (fun k => k = w.heap.size ∨ k = w.heap.size + 1) w3 ((w3.setCell ⟨w.heap.size, 11, none⟩ (.slice (some ⟨W.heap.size, 0, none⟩) a.fired.length a.fired.length)).setCells (w.heap.size + 1) 0 [.int .i64 a.code, .int .i64 a.time, .int .u64 a.t.id, .int .i64 a.t.contract, .int .i64 a.t.state, .int .i64 a.t.level, .int .u64 a.t.gen, .int .i64 a.t.from_, .int .i64 a.t.left, .int .i64 a.t.due, .int .i64 a.t.told, .slice (some ⟨W.heap.size, 0, none⟩) a.fired.length a.fired.length, .int .u64 a.notice, .int .i64 a.dead]) :=
    Touch.setCells _ _ _ ((Touch.refl _ w3).set (fun _ => .inl rfl) _) (fun _ => .inr rfl)
  refine bodyPost_ret (v := .agg #[.int .i64 a.code, .int .i64 a.time, .int .u64 a.t.id, .int .i64 a.t.contract, .int .i64 a.t.state, .int .i64 a.t.level, .int .u64 a.t.gen, .int .i64 a.t.from_, .int .i64 a.t.left, .int .i64 a.t.due, .int .i64 a.t.told, .slice (some ⟨W.heap.size, 0, none⟩) a.fired.length a.fired.length, .int .u64 a.notice, .int .i64 a.dead]) (by simp [results, Try.results27, go_sem, d0, d1, d2, d3, d4, d5, d6, d7, d8, d9, d10, d11, d12, d13]) rfl ⟨W.heap.size, rfl, ?_, by omega, ?_⟩
  · exact t3.blk HO3.out (by omega)
  · exact (HT0.out.trans HT3.out (fun _ _ e => e)).trans t3 (fun k hk e => by omega)
end Go.Proofs.Ytmgmjehebbggaaa
end

section
namespace Go.Proofs.Ytmgmjehebbggaaa
open Go.RowKit Go.Maps
set_option maxHeartbeats 4000000
set_option maxRecDepth 100000
set_option linter.unusedVariables false

/-- What a client asked last, as the map's element. -/
def askVal (req : Nat) (a : RpV) (A : Option Addr) (c : Nat) : Value := .agg #[.int .u64 req, .int .i64 a.code, .int .i64 a.time, .int .u64 a.t.id, .int .i64 a.t.contract, .int .i64 a.t.state, .int .i64 a.t.level, .int .u64 a.t.gen, .int .i64 a.t.from_, .int .i64 a.t.left, .int .i64 a.t.due, .int .i64 a.t.told, .slice A a.fired.length c, .int .u64 a.notice, .int .i64 a.dead]
def ask0 : Value := .agg #[.int .u64 0, .int .i64 0, .int .i64 0, .int .u64 0, .int .i64 0, .int .i64 0, .int .i64 0, .int .u64 0, .int .i64 0, .int .i64 0, .int .i64 0, .int .i64 0, .slice none 0 0, .int .u64 0, .int .i64 0]
theorem lawU : Keyed Try.prog 29 := int_keyed Try.underlying29
theorem keyU {c : Nat} (h : c < 18446744073709551616) : keyOf Try.prog 29 (.int .u64 c) = some (.int .u64 c) := keyOf_int_mk Try.underlying29 (by simp [Lit.wf, IntKind.min, IntKind.max, IntKind.signed, IntKind.bits]; omega)
theorem keysU {kl : Lit} (h : KeysOf Try.prog 29 kl) : ∃ c : Nat, c < 18446744073709551616 ∧ kl = .int .u64 c := by
  obtain ⟨v, hv⟩ := h
  obtain ⟨x, _, rfl, hw⟩ := Maps.keyOf_int_inv Try.underlying29 hv
  simp [Lit.wf, IntKind.min, IntKind.max, IntKind.signed, IntKind.bits] at hw
  exact ⟨x.toNat, by omega, by rw [Int.toNat_of_nonneg hw.1]⟩
theorem zeroAsk (w : World) : (zeroValue 72).run Try.prog w = .ok ask0 w := by kernel_rfl
def clients : List Lit := (List.range 9).map fun c => Lit.int .u64 (c : Nat)
/-- What each client asked last. -/
abbrev SesS := Nat → Option (Nat × RpV)
/-- The map says so. -/
def SesM (w : World) (b : Nat) (s : SesS) (F : Nat → Prop) : Prop :=
  ∃ f, MapV Try.prog 29 w b 9 f ∧ ∀ c : Nat, c < 18446744073709551616 →
    (s c = none → f (.int .u64 c) = none) ∧ (∀ q a, s c = some (q, a) → ∃ A k, f (.int .u64 c) = some (askVal q a A k) ∧ Rd w F A a.fired.length (a.fired.map U64))
/-- Who may stand in a table, and what. -/
structure SesOk (s : SesS) : Prop where
  who : ∀ c x, s c = some x → 1 ≤ c ∧ c ≤ 8
  req : ∀ c q a, s c = some (q, a) → 1 ≤ q ∧ q < 18446744073709551616
  rep : ∀ c q a, s c = some (q, a) → a.fired.length ≤ 64
structure SesAt (w : World) (g b : Nat) (s : SesS) (F : Nat → Prop) : Prop where
  blk : Blk w g 66 #[.map (some b)]
  map : SesM w b s F
  ok : SesOk s
  nF : ∀ k, F k → k ≠ b
  ne : b ≠ g
theorem SesM.touch {w w' : World} {b : Nat} {s : SesS} {F S : Nat → Prop} (h : SesM w b s F) (t : Touch S w w') (hb : ¬ S b) (hF : ∀ k, F k → ¬ S k) : SesM w' b s F := by
  obtain ⟨f, hm, hs⟩ := h
  refine ⟨f, hm.touch t hb, fun c hc => ⟨(hs c hc).1, fun q a h => ?_⟩⟩
  obtain ⟨A, k, h1, h2⟩ := (hs c hc).2 q a h
  exact ⟨A, k, h1, h2.touch t hF⟩
theorem SesAt.touch {w w' : World} {g b : Nat} {s : SesS} {F S : Nat → Prop} (h : SesAt w g b s F) (t : Touch S w w') (hg : ¬ S g) (hb : ¬ S b) (hF : ∀ k, F k → ¬ S k) : SesAt w' g b s F :=
  ⟨t.blk h.blk hg, h.map.touch t hb hF, h.ok, h.nF, h.ne⟩
theorem SesM.mono {w : World} {b : Nat} {s : SesS} {F F' : Nat → Prop} (h : SesM w b s F) (hF : ∀ k, F k → F' k) : SesM w b s F' := by
  obtain ⟨f, hm, hs⟩ := h
  refine ⟨f, hm, fun c hc => ⟨(hs c hc).1, fun q a h => ?_⟩⟩
  obtain ⟨A, k, h1, h2⟩ := (hs c hc).2 q a h
  exact ⟨A, k, h1, h2.mono hF⟩
theorem SesM.look {w : World} {b : Nat} {s : SesS} {F : Nat → Prop} (h : SesM w b s F) {c : Nat} (hc : c < 18446744073709551616) (hn : s c = none) :
    (Instr.lookup 64 (.map (some b)) (.int .u64 c) true).run Try.prog w = .ok (.tuple #[ask0, .bool false]) w ∧ (Instr.lookup 64 (.map (some b)) (.int .u64 c) false).run Try.prog w = .ok ask0 w := by
  obtain ⟨f, hm, hs⟩ := h
  have hf := (hs c hc).1 hn
  have h1 := hm.lookOk lawU Try.underlying64 (zeroAsk w) (keyU hc)
  have h2 := hm.look lawU Try.underlying64 (zeroAsk w) (keyU hc)
  rw [hf] at h1 h2
  exact ⟨h1, h2⟩
theorem SesM.look1 {w : World} {b : Nat} {s : SesS} {F : Nat → Prop} (h : SesM w b s F) {c : Nat} (hc : c < 18446744073709551616) {q : Nat} {a : RpV} (hn : s c = some (q, a)) :
    ∃ A k, Rd w F A a.fired.length (a.fired.map U64) ∧ (Instr.lookup 64 (.map (some b)) (.int .u64 c) true).run Try.prog w = .ok (.tuple #[askVal q a A k, .bool true]) w ∧ (Instr.lookup 64 (.map (some b)) (.int .u64 c) false).run Try.prog w = .ok (askVal q a A k) w := by
  obtain ⟨f, hm, hs⟩ := h
  obtain ⟨A, k, hf, hr⟩ := (hs c hc).2 q a hn
  have h1 := hm.lookOk lawU Try.underlying64 (zeroAsk w) (keyU hc)
  have h2 := hm.look lawU Try.underlying64 (zeroAsk w) (keyU hc)
  rw [hf] at h1 h2
  exact ⟨A, k, hr, h1, h2⟩

theorem snone_any (g b : Nat) (s : SesS) (F : Nat → Prop) (w : World) (h : SesAt w g b s F) :
    Calls Try.prog 26 #[.pointer (some ⟨g, 0, none⟩)] w fun e w' => e = .returned (.bool false) ∧ w = w' := by
  have q0 := h.blk.cell 0
  simp at q0
  clear h
  have hbin : ∀ w, (binOp .eql 64 (.map (some b)) (.map none)).run Try.prog w = .ok (.bool false) w := fun w => by first | rfl | simp [go_sem]
  go_enter Try.func26, Try.ntmps26
  go_wp2
  go_ret
  exact ⟨rfl, rfl⟩
def lastV (s : SesS) (c : Nat) : Nat := match s c with | none => 0 | some x => x.1
theorem slast_any (g b : Nat) (s : SesS) (F : Nat → Prop) (w : World) (h : SesAt w g b s F) (c : Nat) (hc : c < 18446744073709551616) :
    Calls Try.prog 14 #[.pointer (some ⟨g, 0, none⟩), .int .u64 c] w fun e w' => e = .returned (.int .u64 (lastV s c)) ∧ w = w' := by
  have HN := Lib.hid (snone_any g b s F w h)
  have q0 := h.blk.cell 0
  simp at q0
  obtain ⟨v, hv⟩ : ∃ v, v = lastV s c := ⟨_, rfl⟩
  rw [← hv]
  have HV := Lib.hid hv
  have hm := h.map
  clear h hv
  cases hs : s c with
  | none =>
    have hl := (hm.look hc hs).2
    have HE := Lib.hid (show v = 0 by rw [HV.out, lastV, hs])
    rw [ask0] at hl
    have hfd : ∀ w : World, (Instr.field 72 (.agg #[.int .u64 0, .int .i64 0, .int .i64 0, .int .u64 0, .int .i64 0, .int .i64 0, .int .i64 0, .int .u64 0, .int .i64 0, .int .i64 0, .int .i64 0, .int .i64 0, .slice none 0 0, .int .u64 0, .int .i64 0]) 0).run Try.prog w = .ok (.int .u64 0) w := fun _ => by kernel_rfl
    clear hm hs HV
    go_enter Try.func14, Try.ntmps14
    go_wp2_with (go_at_call 26; go_must (refine HN.out.mono ?_); rintro e w1 ⟨rfl, rfl⟩)
    go_ret
    exact ⟨by rw [HE.out]; rfl, rfl⟩
  | some x =>
    obtain ⟨q, a⟩ := x
    obtain ⟨A, k, -, -, hl⟩ := hm.look1 hc hs
    have HE := Lib.hid (show v = q by rw [HV.out, lastV, hs])
    rw [askVal] at hl
    have hfd : ∀ w : World, (Instr.field 72 (.agg #[.int .u64 q, .int .i64 a.code, .int .i64 a.time, .int .u64 a.t.id, .int .i64 a.t.contract, .int .i64 a.t.state, .int .i64 a.t.level, .int .u64 a.t.gen, .int .i64 a.t.from_, .int .i64 a.t.left, .int .i64 a.t.due, .int .i64 a.t.told, .slice A a.fired.length k, .int .u64 a.notice, .int .i64 a.dead]) 0).run Try.prog w = .ok (.int .u64 q) w := fun _ => by kernel_rfl
    clear hm hs HV
    go_enter Try.func14, Try.ntmps14
    go_wp2_with (go_at_call 26; go_must (refine HN.out.mono ?_); rintro e w1 ⟨rfl, rfl⟩)
    go_ret
    exact ⟨by rw [HE.out]; rfl, rfl⟩
def EmptyP (w : World) (e : Ending) (w' : World) : Prop :=
  ∃ g b, e = .returned (.pointer (some ⟨g, 0, none⟩)) ∧ SesAt w' g b (fun _ => none) (fun k => w.heap.size ≤ k ∧ k ≠ b) ∧ w.heap.size ≤ g ∧ w.heap.size ≤ b ∧ Touch (fun _ => False) w w'
theorem sempty_any (w : World) : Calls Try.prog 9 #[] w (EmptyP w) := by
  have hmm := @run_makeMap Try.prog
  go_enter Try.func9, Try.ntmps9
  go_wp2
  go_ret
  refine ⟨w.heap.size + 1, w.heap.size, rfl, ⟨by simpa using Blk.new (w.alloc (.map #[] 0)) 66 #[.map (some w.heap.size)], ⟨fun _ => none, ((MapV.new Try.prog 29 w).touch ((Touch.refl (fun _ => False) _).alloc _) (fun e => e)).mono (by omega), fun c _ => ⟨(fun _ => rfl), (fun q a e => by cases e)⟩⟩, ⟨(fun c x e => by cases e), (fun c q a e => by cases e), (fun c q a e => by cases e)⟩, fun k hk => hk.2, by omega⟩, by omega, by omega, ((Touch.refl _ w).alloc _).alloc _⟩
end Go.Proofs.Ytmgmjehebbggaaa
end
