/- The bytes of a table of sessions, in plain lists; a reply's bytes by whichever Put. The reference's table of sessions: Put. -/
import Derived.Test.YtmgmjehebbggaaaVSesJ
section
namespace Go.Proofs.Ytmgmjehebbggaaa
open Go.RowKit Go.Maps
set_option maxHeartbeats 4000000
set_option maxRecDepth 100000
set_option linter.unusedVariables false

def repB (a : RpV) : List UInt8 := encR a.code.toNat a.time.toNat ⟨a.t.id, a.t.contract.toNat, a.t.state.toNat, a.t.level.toNat, a.t.gen, a.t.from_.toNat, a.t.left.toNat, a.t.due.toNat, a.t.told.toNat⟩ a.fired a.notice a.dead.toNat
theorem repB_mk (code tm : Nat) (t : TkN) (fired : List Nat) (notice dead : Nat) : repB ⟨code, tm, t.v, fired, notice, dead⟩ = encR code tm t fired notice dead := by
  simp [repB, TkN.v]
/-- What stands in a table is sound. -/
def SesGood (s : SesS) : Prop := ∀ c q a, s c = some (q, a) → rpS a = true ∧ a.okp
theorem SesGood.none_ : SesGood (fun _ => none) := fun _ _ _ h => by cases h
theorem SesGood.set {s : SesS} (h : SesGood s) (c q : Nat) (a : RpV) (ha : rpS a = true) (hk : a.okp) : SesGood (setS s c q a) := by
  intro i q' a' hs
  unfold setS at hs
  split at hs
  · injection hs with hs; injection hs with h1 h2; subst h1 h2; exact ⟨ha, hk⟩
  · exact h i q' a' hs
theorem SesGood.del {s : SesS} (h : SesGood s) (c : Nat) : SesGood (delS s c) := by
  intro i q' a' hs
  unfold delS at hs
  split at hs
  · cases hs
  · exact h i q' a' hs
theorem repB_len {a : RpV} (hs : rpS a = true) (hk : a.okp) : (repB a).length ≤ 1000 := by
  obtain ⟨code, tm, t, dead, e, ok⟩ := sound_is hs hk.2.1 hk.2.2.1 hk.2.2.2
  rw [e, repB_mk]; exact encR_len ok.fl
theorem repB_pos {a : RpV} : 0 < (repB a).length := by
  unfold repB; rw [encR_eq, List.length_append]; have := encN_pos 0 a.dead.toNat; omega
theorem fputA (a : RpV) (hs : rpS a = true) (hk : a.okp) (F : Nat → Prop) (A : Option Addr) (c : Nat) (w : World) (hr : Rd w F A a.fired.length (a.fired.map U64)) :
    Calls Try.prog 36 #[.agg (rpC a A c)] w (NewOwn w (repB a)) := by
  obtain ⟨code, tm, t, dead, e, ok⟩ := sound_is hs hk.2.1 hk.2.2.1 hk.2.2.2
  rw [e] at hr ⊢
  rw [repB_mk]
  exact fput_any code tm t F A c a.fired a.notice dead w hr ok.ok ok.bd ok.code ok.t1 ok.fl ok.fs ok.no ok.de
theorem pputA (g : Nat) (r : Option Nat) (l : List UInt8) (a : RpV) (hs : rpS a = true) (hk : a.okp) (F : Nat → Prop) (A : Option Addr) (c : Nat) (w : World) (h : WAt w g r l) (hr : Rd w F A a.fired.length (a.fired.map U64)) (hF : ∀ k, F k → k ≠ g ∧ r ≠ some k) (hF2 : ∀ k, F k → k < w.heap.size) (hsm : l.length ≤ 10000) :
    Calls Try.prog 50 #[.pointer (some ⟨g, 0, none⟩), .agg (rpC a A c)] w (WPost w g r (l ++ repB a)) := by
  obtain ⟨code, tm, t, dead, e, ok⟩ := sound_is hs hk.2.1 hk.2.2.1 hk.2.2.2
  rw [e] at hr ⊢
  rw [repB_mk]
  exact rput_any g r l code tm t F A c a.fired a.notice dead w h hr hF hF2 ok.ok ok.bd ok.code ok.t1 ok.fl ok.fs ok.no ok.de hsm
/-- A client's row; all rows up to a client; how many. -/
def rowB (s : SesS) (i : Nat) : List UInt8 := match s i with | none => [] | some x => encN 0 i ++ encN 0 x.1 ++ repB x.2
def rowsB (s : SesS) : Nat → List UInt8
  | 0 => []
  | k + 1 => rowsB s k ++ rowB s (k + 1)
def cntB (s : SesS) : Nat → Nat
  | 0 => 0
  | k + 1 => cntB s k + if (s (k + 1)).isSome then 1 else 0
def encS (s : SesS) : List UInt8 := encN 0 (cntB s 8) ++ rowsB s 8
theorem cntB_le (s : SesS) : ∀ k, cntB s k ≤ k
  | 0 => Nat.le_refl _
  | k + 1 => by rw [cntB]; have := cntB_le s k; split <;> omega
theorem encN_len9 (n : Nat) (h : n < 256 ^ 8) : (encN 0 n).length ≤ 9 := by
  have := encs_len [n]
  simpa [encs, h] using this
theorem rowB_len {s : SesS} (hg : SesGood s) (hok : SesOk s) (i : Nat) (hi : i ≤ 8) : (rowB s i).length ≤ 1018 := by
  unfold rowB
  cases hs : s i with
  | none => simp
  | some x =>
    obtain ⟨q, a⟩ := x
    obtain ⟨h1, h2⟩ := hg i q a hs
    have h3 := repB_len h1 h2
    have h4 := encN_len9 i (by omega)
    have h5 := encN_len9 q (by have := (hok.req i q a hs).2; omega)
    simp only [List.length_append]; omega
theorem rowsB_len {s : SesS} (hg : SesGood s) (hok : SesOk s) : ∀ k, k ≤ 8 → (rowsB s k).length ≤ k * 1018
  | 0, _ => by simp [rowsB]
  | k + 1, hk => by
    rw [rowsB, List.length_append]
    have := rowsB_len hg hok k (by omega)
    have := rowB_len hg hok (k + 1) hk
    omega
end Go.Proofs.Ytmgmjehebbggaaa
end

section
namespace Go.Proofs.Ytmgmjehebbggaaa
open Go.RowKit Go.Maps
set_option maxHeartbeats 4000000
set_option maxRecDepth 100000
set_option linter.unusedVariables false

section
variable {ops : Array Oper} {rest : List Oper} {o : Oper} {a : Act} {w : World} {Q : Exit → Act → World → Prop}
theorem Blk.lp {T t : TypeId} {n b k : Nat} {C L : Array Value} (hb : Blk w b T C) (R : RowT t n) (hL : L.size = n) (hE : C.extract k (k + n) = L) (x : Operand) (ho : o.op = .load t x) (hw : Region.wanted o (yielded ops a.tmps) = true) (hx : a.eval x = .pointer (some ⟨b, k, none⟩))
    (h : wpList Try.prog ops Q rest (a.put o.dst (.agg L)) w) : wpList Try.prog ops Q (o :: rest) a w := loadC R x ho hw b k hx L hL (hE ▸ hb.range k n) h
end
theorem fput20_any (T : RT) (s : SesS) (hT : RTs T s) (ok : SesOk s) (hg : SesGood s) (F : Nat → Prop) (w : World) (hr : RTr T s w F) :
    Calls Try.prog 17 #[.agg T.cells] w (NewOwn w (encS s)) := by
  obtain ⟨W, hW⟩ : ∃ W, W = w.alloc (.cells T.cells 46) := ⟨_, rfl⟩
  have HT0 := Lib.hid (show Touch (fun _ => False) w W from hW ▸ (Touch.refl _ w).alloc _)
  have HB0 := Lib.hid (show Blk W w.heap.size 46 T.cells from hW ▸ Blk.new w _ _)
  have HRr := Lib.hid hr
  have HLn := Lib.hid (fun k (hk : k ≤ 8) => rowsB_len hg ok k hk)
  have HCq := Lib.hid (fun i (hi : i < 9) => (T.at_q hi).trans (by rw [hT.last hi]))
  have HCa := Lib.hid (fun i (hi : i < 9) => T.at_a hi)
  have HY := Lib.hid hT.yes
  have HG := Lib.hid hg
  have HOk := Lib.hid ok
  have HWe := Lib.hid hW.symm
  generalize T.cells = C at *
  clear hr hW hT
  go_enter Try.func17, Try.ntmps17
  go_wp2_with fail
  rw [HWe.out]
  go_loopw [3, 4, 5] (fun n v i wr => ∃ j i' : Nat, i' = j + 1 ∧ j ≤ 8 ∧ i = .int .i64 (i' : Nat) ∧ n = .int .u64 (cntB s j : Nat) ∧ OwnX W wr (rowsB s j) v) (fun _ _ i _ => 9 - (intOf i).toNat)
  case atStart => exact ⟨0, 1, rfl, by omega, rfl, rfl, OwnX.start (Touch.refl _ W)⟩
  case round =>
    obtain ⟨j, i, hij, hj, rfl, rfl, hO⟩ := hrel
    obtain ⟨A0, n0, c0, hv0, -⟩ := hO.reads
    subst hv0
    have HM := Lib.hid hO
    have HB := Lib.hid (hO.blk HB0.out)
    have hln := HLn.out j hj
    have hcn := cntB_le s j
    clear hO
    by_cases hj8 : j < 8
    · have hi9 : i < 9 := by omega
      have hi8 : (i : Int) < 9 := by omega
      have hR := show rowsB s (j + 1) = rowsB s j ++ rowB s (j + 1) from rfl
      have hC := show cntB s (j + 1) = cntB s j + (if (s (j + 1)).isSome then 1 else 0) from rfl
      rw [← hij] at hR hC
      have HJ := Lib.hid hij
      clear hij
      have cq := HB.out.cell i
      rw [HCq.out i hi9] at cq
      cases hs : s i with
      | none =>
        have hl : lastV s i = 0 := by rw [lastV, hs]
        rw [hl] at cq
        rw [rowB, hs] at hR
        rw [hs] at hC
        have HRr2 := Lib.hid hR
        have HC2 := Lib.hid hC
        clear hR hC hs hl
        go_wp2_with fail
        go_roundw
        case rel => exact ⟨j + 1, i + 1, by have := HJ.out; omega, by omega, by go_num, by rw [← HJ.out, HC2.out]; rfl, by rw [← HJ.out, HRr2.out]; simpa using HM.out⟩
        case measure => simp [intOf]; omega
      | some x =>
        obtain ⟨q, a⟩ := x
        have hl : lastV s i = q := by rw [lastV, hs]
        obtain ⟨hq1, hq2⟩ := HOk.out.req i q a hs
        obtain ⟨hga, hgk⟩ := HG.out i q a hs
        obtain ⟨hyq, hya⟩ := HY.out i hi9 q a hs
        have hrd := HRr.out i hi9 q a hs
        have hca := HCa.out i hi9
        rw [hya] at hca
        rw [hl] at cq
        rw [rowB, hs] at hR
        rw [hs] at hC
        simp only at hR
        have hrl := repB_len hga hgk
        have HPu := Lib.hid (fun w1 (tt : Touch (fun _ => False) w w1) => fputA a hga hgk F (T.A i) (T.c i) w1 (hrd.touch tt (fun _ _ e => e)))
        have HLs := Lib.hid (rpC_size a (T.A i) (T.c i))
        have HE := Lib.hid hca
        generalize rpC a (T.A i) (T.c i) = L at *
        have HRr2 := Lib.hid hR
        have HC2 := Lib.hid (show cntB s i = cntB s j + 1 from hC)
        have HQq := Lib.hid (show C[i]? = some (.int .u64 (q : Nat)) by rw [HCq.out i hi9, hl])
        have hq0 : (0 : Int) < (q : Int) := by omega
        have hwi : IntKind.u64.wrap (i : Int) = (i : Int) := IntWalk.u64_in _ (by omega)
        have hle1 := encN_len9 i (by omega)
        have hle2 := encN_len9 q (by omega)
        generalize rowsB s j = R0 at *
        generalize hE1 : encN 0 i = E1 at *
        generalize hE2 : encN 0 q = E2 at *
        generalize repB a = E3 at *
        have HN1 := Lib.hid (fun w1 => hE1 ▸ fnum_any i w1 (by omega))
        have HN2 := Lib.hid (fun w1 => hE2 ▸ fnum_any q w1 (by omega))
        clear hR hC hs hl hga hgk hyq hya hrd hca hE1 hE2
        go_wp2_with (first
          | (go_at_call 35; have M9 := HM1
             go_must (refine (HN2.out _).mono ?_)
             intro e w3 h3
             have hm3 := HM1.out.far h3.touch
             obtain ⟨x, rfl, hx3⟩ := OwnX.of (Touch.refl _ _) h3
             have HMb := Lib.hid hm3
             have HX2 := Lib.hid hx3
             clear h3 hm3 hx3)
          | (go_at_call 35
             go_must (refine (HN1.out _).mono ?_)
             intro e w3 h3
             have hm3 := HM.out.far h3.touch
             obtain ⟨x, rfl, hx3⟩ := OwnX.of (Touch.refl _ _) h3
             have HMa := Lib.hid hm3
             have HX1 := Lib.hid hx3
             clear h3 hm3 hx3)
          | (go_at_call 36
             go_must (refine (HPu.out _ (by exact HT0.out.trans HM2.out.choose_spec.2.2 (fun _ _ e => e))).mono ?_)
             intro e w3 h3
             have hm3 := HM2.out.far h3.touch
             obtain ⟨x, rfl, hx3⟩ := OwnX.of (Touch.refl _ _) h3
             have HMc := Lib.hid hm3
             have HX3 := Lib.hid hx3
             clear h3 hm3 hx3)
          | (at_builtin; have M9 := HX3
             go_must (refine own_append_list rfl _ _ rfl _ _ _ _ rfl rfl HMc.out HX3.out (by first | omega | (simp only [List.length_append]; omega)) ?_)
             intro v3 w3 h3 t3
             have HM3 := Lib.hid h3
             clear h3 t3)
          | (at_builtin; have M9 := HX2
             go_must (refine own_append_list rfl _ _ rfl _ _ _ _ rfl rfl HMb.out HX2.out (by first | omega | (simp only [List.length_append]; omega)) ?_)
             intro v3 w3 h3 t3
             have HM2 := Lib.hid h3
             have HBb := Lib.hid (h3.blk HB0.out)
             clear h3 t3)
          | (at_builtin
             go_must (refine own_append_list rfl _ _ rfl _ _ _ _ rfl rfl HMa.out HX1.out (by first | omega | (simp only [List.length_append]; omega)) ?_)
             intro v3 w3 h3 t3
             have HM1 := Lib.hid h3
             have hb3 := (h3.blk HB0.out).cell i
             rw [HQq.out] at hb3
             clear h3 t3)
          | ((with_reducible apply HBb.out.lp (k := 9 + i * 14) rowRy HLs.out HE.out); exact rfl; exact rfl; exact rfl))
        go_roundw
        case rel => exact ⟨j + 1, i + 1, by have := HJ.out; omega, by omega, by go_num, by rw [← HJ.out, HC2.out]; go_num, by rw [← HJ.out, HRr2.out]; simpa using HM3.out⟩
        case measure => simp [intOf]; omega
    · obtain rfl : j = 8 := by omega
      obtain rfl : i = 9 := by omega
      have HQ := Lib.hid (show encS s = encN 0 (cntB s 8) ++ rowsB s 8 from rfl)
      have hpos : 0 < (encS s).length := by rw [HQ.out, List.length_append]; have := encN_pos 0 (cntB s 8); omega
      have hle1 := encN_len9 (cntB s 8) (by omega)
      generalize encS s = ES at *
      generalize rowsB s 8 = R0 at *
      generalize hn8 : cntB s 8 = n8 at *
      generalize hE1 : encN 0 n8 = E1 at *
      have HN1 := Lib.hid (fun w1 => hE1 ▸ fnum_any n8 w1 (by omega))
      clear hE1 hn8
      go_wp2_with (first
        | (go_at_call 35
           go_must (refine (HN1.out _).mono ?_)
           intro e w3 h3
           have hm3 := HM.out.far h3.touch
           obtain ⟨x, rfl, hx3⟩ := OwnX.of (w0 := W) HM.out.choose_spec.2.2 h3
           have HMa := Lib.hid hm3
           have HX1 := Lib.hid hx3
           clear h3 hm3 hx3)
        | (at_builtin
           go_must (refine own_append_list rfl _ _ rfl _ _ _ _ rfl rfl HX1.out HMa.out (by omega) ?_)
           intro v3 w3 h3 t3
           have HM1 := Lib.hid h3
           clear h3 t3))
      go_ret
      exact NewOwn.before HT0.out (OwnX.new (by rw [HQ.out]; exact HM1.out) hpos)
end Go.Proofs.Ytmgmjehebbggaaa
end
