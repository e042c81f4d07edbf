/- The walk of PollOne. -/
import Derived.Test.YtbleeejhejkkcaaPolO
namespace Go.Proofs.Ytbleeejhejkkcaa
open Go.RowKit
set_option maxHeartbeats 4000000
set_option maxRecDepth 100000
set_option linter.unusedVariables false

theorem PlAt.near {w : World} {g : Nat} {L : List Int} {b n : Nat} {f : Int → Option Int} {F : Nat → Prop} (h : PlAt w g L b n f F) : PlAt w g L b n f (fun k => F k ∧ k < w.heap.size) := by
  obtain ⟨⟨A, c, hb, hr⟩, hm, hn, hF⟩ := h
  exact ⟨⟨A, c, hb, hr.near⟩, hm, hn, fun h => hF.1 h.1, fun h => hF.2 h.1⟩
/-- Where two polls lie. -/
structure Apart (n0 z1 z2 g m : Nat) (F : Nat → Prop) (g' m' : Nat) (F' : Nat → Prop) : Prop where
  h0 : n0 ≤ z1
  hg : n0 ≤ g ∧ g < z1
  hm : n0 ≤ m ∧ m < z1
  hF : ∀ k, F k → n0 ≤ k ∧ k < z1
  hg' : z1 ≤ g' ∧ g' < z2
  hm' : z1 ≤ m' ∧ m' < z2
  hF' : ∀ k, F' k → z1 ≤ k ∧ k < z2
def OkP (ok q : Bool) : Prop := ok = true → q = false
def OrEq (v p ok : Bool) : Prop := v = (p || ok)
theorem or_setB {ps : Nat → Bool} {k i : Nat} {ok : Bool} (h : setB ps k (ps k || ok) i = true) : ps i = true ∨ (i = k ∧ ok = true) := by
  unfold setB at h
  split at h
  · rename_i e; subst e
    rw [Bool.or_eq_true] at h
    rcases h with h | h
    · exact .inl h
    · exact .inr ⟨rfl, h⟩
  · exact .inl h
theorem setB_keep {ps : Nat → Bool} {k i : Nat} {ok : Bool} (h : ps i = true) : setB ps k (ps k || ok) i = true := by
  unfold setB; split
  · rename_i e; subst e; rw [h]; rfl
  · exact h
theorem setB_same {ps : Nat → Bool} {k : Nat} : setB ps k (ps k || true) k = true := by unfold setB; rw [if_pos rfl]; simp
section
variable {w wr wb w4 : World} {g m g' m' z1 z2 tp tq k : Nat} {a b : List Int} {f f' : Int → Option Int} {F F' : Nat → Prop} {ps qs : Nat → Bool} {ok v : Bool}
theorem Two.alloc (H : Two w wr g a m f F g' b m' f' F' tp tq ps qs) (t : Touch (fun _ => False) wr wb) : Two w wb g a m f F g' b m' f' F' tp tq ps qs :=
  ⟨H.p.touch t (fun _ _ e => e) (fun e => e) (fun e => e) (fun _ _ e => e), H.q.touch t (fun _ _ e => e) (fun e => e) (fun e => e) (fun _ _ e => e), t.blk H.hp (fun e => e), t.blk H.hq (fun e => e), H.once, H.yp, H.yq⟩
theorem Two.noteP (H : Two w wr g a m f F g' b m' f' F' tp tq ps qs) (Ap : Apart w.heap.size z1 z2 g m F g' m' F') (htp : tp = z2) (htq : tq = z2 + 1) (hk : k < 7) (hL : ∀ x ∈ a, 0 ≤ x ∧ x < 7)
    (tb : Touch (fun q => q = tp) wr wb) (hv : OrEq v (ps k) ok) (hb : Blk wb tp 42 (boolsA (setB ps k v))) (hp : PlAt w4 g a m (2 * cntF f + 2) (noteF a f (k : Int) ok) F) (t : Touch (fun q => q = m) wb w4) (hn : noteB a f (k : Int) = false → wb = w4) (hok : OkP ok (qs k)) :
    Two w w4 g a m (noteF a f (k : Int) ok) F g' b m' f' F' tp tq (setB ps k v) qs := by
  unfold OrEq at hv
  subst hv
  have A0 := Ap.h0; have A1 := Ap.hg; have A2 := Ap.hm; have A3 := Ap.hg'; have A4 := Ap.hm'
  refine ⟨(H.p.touch tb (fun k hk e => by omega) (by omega) (by omega) (fun k hk e => by have := Ap.hF k hk; omega)).note (by omega) hL (Touch.refl _ _) hp t hn,
    (H.q.touch tb (fun k hk e => by omega) (by omega) (by omega) (fun k hk e => by have := Ap.hF' k hk; omega)).touch t (fun k hk e => by omega) (by omega) (by omega) (fun k hk e => by have := Ap.hF' k hk; omega),
    t.blk hb (by omega), t.blk (tb.blk H.hq (by omega)) (by omega), fun i hi h1 h2 => ?_, fun i hi h => ?_, H.yq⟩
  · rcases or_setB h1 with h3 | ⟨rfl, h3⟩
    · exact H.once i hi h3 h2
    · rw [hok h3] at h2; cases h2
  · rcases noteF_yes h with h | ⟨e, rfl⟩
    · exact setB_keep (H.yp i hi h)
    · have : i = k := by omega
      subst this; exact setB_same
theorem Two.noteQ (H : Two w wr g a m f F g' b m' f' F' tp tq ps qs) (Ap : Apart w.heap.size z1 z2 g m F g' m' F') (htp : tp = z2) (htq : tq = z2 + 1) (hk : k < 7) (hL : ∀ x ∈ b, 0 ≤ x ∧ x < 7)
    (tb : Touch (fun q => q = tq) wr wb) (hv : OrEq v (qs k) ok) (hb : Blk wb tq 42 (boolsA (setB qs k v))) (hp : PlAt w4 g' b m' (2 * cntF f' + 2) (noteF b f' (k : Int) ok) F') (t : Touch (fun q => q = m') wb w4) (hn : noteB b f' (k : Int) = false → wb = w4) (hok : OkP ok (ps k)) :
    Two w w4 g a m f F g' b m' (noteF b f' (k : Int) ok) F' tp tq ps (setB qs k v) := by
  unfold OrEq at hv
  subst hv
  have A0 := Ap.h0; have A1 := Ap.hg; have A2 := Ap.hm; have A3 := Ap.hg'; have A4 := Ap.hm'
  refine ⟨(H.p.touch tb (fun k hk e => by omega) (by omega) (by omega) (fun k hk e => by have := Ap.hF k hk; omega)).touch t (fun k hk e => by omega) (by omega) (by omega) (fun k hk e => by have := Ap.hF k hk; omega),
    (H.q.touch tb (fun k hk e => by omega) (by omega) (by omega) (fun k hk e => by have := Ap.hF' k hk; omega)).note (by omega) hL (Touch.refl _ _) hp t hn,
    t.blk (tb.blk H.hp (by omega)) (by omega), t.blk hb (by omega), fun i hi h1 h2 => ?_, H.yp, fun i hi h => ?_⟩
  · rcases or_setB h2 with h3 | ⟨rfl, h3⟩
    · exact H.once i hi h1 h3
    · rw [hok h3] at h1; cases h1
  · rcases noteF_yes h with h | ⟨e, rfl⟩
    · exact setB_keep (H.yq i hi h)
    · have : i = k := by omega
      subst this; exact setB_same
end
open Go.ChangeShapes Go.WideShapes Go.ChangeAt Go.Deep in
theorem elem_bool {H : Type} {enc : TypeId × Value → H} {w : World} {spare : Nat → Bool} {held : Bool} {fuel : Nat} {cs : List Value} {x : DataW H × List MemPlace}
    (h : DataW.trod enc Try.prog w 0 spare held fuel 4 cs = some x) : ∃ b : Bool, cs = [.bool b] ∧ True := by
  obtain ⟨b, e, _⟩ := DataW.trod_bool Try.underlying4 h
  exact ⟨b, e, trivial⟩
theorem walk_PollOne {w : World} (A0 : Option Addr) (n0 c0 : Nat) (l0 : List Int) (e0 : l0.length = n0) (o0 : ∀ x ∈ l0, -9223372036854775808 ≤ x ∧ x ≤ 9223372036854775807) (g0 : A0 = none → c0 = 0) (u0 : n0 ≤ c0) (m0 : c0 ≤ maxLen) (s0 : Rd w (fun k => k < w.heap.size) A0 n0 (l0.map I64))
    (A1 : Option Addr) (n1 c1 : Nat) (l1 : List Int) (e1 : l1.length = n1) (o1 : ∀ x ∈ l1, -9223372036854775808 ≤ x ∧ x ≤ 9223372036854775807) (g1 : A1 = none → c1 = 0) (u1 : n1 ≤ c1) (m1 : c1 ≤ maxLen) (s1 : Rd w (fun k => k < w.heap.size) A1 n1 (l1.map I64))
    (A2 : Option Addr) (n2 c2 : Nat) (l2 : List SaidV) (e2 : l2.length = n2) (o2 : ∀ x ∈ l2, inI x.node) (z2 : ∀ a ∈ l2, a.cells.length = 2) (g2 : A2 = none → c2 = 0) (u2 : n2 ≤ c2) (m2 : c2 ≤ maxLen) (s2 : RdZ w (fun k => k < w.heap.size) 2 A2 n2 (l2.flatMap SaidV.cells))
    (A3 : Option Addr) (n3 c3 : Nat) (l3 : List Bool) (e3 : l3.length = n3) (o3 : ∀ x ∈ l3, True) (z3 : ∀ a ∈ l3, [Value.bool a].length = 1) (g3 : A3 = none → c3 = 0) (u3 : n3 ≤ c3) (m3 : c3 ≤ maxLen) (s3 : RdZ w (fun k => k < w.heap.size) 1 A3 n3 (l3.flatMap fun b => [Value.bool b])) :
    Calls Try.prog 5 #[.slice A0 n0 c0, .slice A1 n1 c1, .slice A2 n2 c2, .slice A3 n3 c3] w fun e w' => e = .returned (.bool true) ∧ Below w.heap.size w w' := by
  subst e0 e1 e2 e3
  unfold maxLen at m0 m1 m2 m3
  obtain ⟨s, hs⟩ : ∃ s, s = IntKind.i64.wrap ((l0.length : Int) + (l1.length : Int)) := ⟨_, rfl⟩
  have hwr := hs.symm
  have hwr' : wrap64 ((l0.length : Int) + (l1.length : Int)) = s := by rw [← hwr, IntKind.wrap_i64, wrap64]
  have hb0 : l0.length ≤ 9223372036854775807 := by omega
  have hb1 : l1.length ≤ 9223372036854775807 := by omega
  have hb3 : l3.length ≤ 9223372036854775807 := by omega
  clear hs
  have HS0 := Lib.hid s0
  have HS1 := Lib.hid s1
  have HS2 := Lib.hid s2
  have HS3 := Lib.hid s3
  have HO2 := Lib.hid o2
  clear o0 o1 o2 o3 z2 z3 g0 g1 g2 g3 s0 s1 s2 s3 u0 u1 u2 u3 m0 m1 m2 m3
  by_cases hbig : 40 < s
  · go_enter Try.func5, Try.ntmps5
    go_wp2_with (go_at_call 10; go_must (refine (lives32_any _).mono ?_); rintro e w1 ⟨rfl, t1⟩; have HT := Lib.hid t1; clear t1)
    go_ret
    exact ⟨rfl, HT.out.below⟩
  by_cases hbig2 : 60 < (l2.length : Int)
  · go_enter Try.func5, Try.ntmps5
    go_wp2_with (go_at_call 10; go_must (refine (lives32_any _).mono ?_); rintro e w1 ⟨rfl, t1⟩; have HT := Lib.hid t1; clear t1)
    go_ret
    exact ⟨rfl, HT.out.below⟩
  have HNr := Lib.hid (rnear_any _ _ A0 A1 c0 c1 l0 l1 w HS0.out HS1.out hb0 hb1)
  cases hs : nearB l0 l1
  · rw [hs] at HNr
    clear hs
    go_enter Try.func5, Try.ntmps5
    go_wp2_with (first
      | (go_at_call 20; go_must (refine HNr.out.mono ?_); rintro e w1 ⟨rfl, t1⟩; have HT := Lib.hid t1; clear t1)
      | (go_at_call 10; go_must (refine (lives32_any _).mono ?_); rintro e w2 ⟨rfl, t2⟩; have HT := Lib.hid (HT.out.trans t2 (fun _ _ e => e)); clear t2))
    go_ret
    exact ⟨rfl, HT.out.below⟩
  · rw [hs] at HNr
    have HNe := Lib.hid hs
    have hs' := hs
    simp only [nearB, Bool.and_eq_true] at hs'
    have HS := Lib.hid hs'.1
    have HL := Lib.hid (((Row.sound_iff l0).1 hs'.1.1).2.2)
    have HL' := Lib.hid (((Row.sound_iff l1).1 hs'.1.2).2.2)
    have hl0 := (Row.sound_len hs'.1.1).2
    have hl1 := (Row.sound_len hs'.1.2).2
    clear hs hs' hb0 hb1
    have hl2 : l2.length ≤ 60 := by omega
    go_enter Try.func5, Try.ntmps5
    go_wp2_with (first
      | (go_at_call 20; go_must (refine HNr.out.mono ?_); rintro e w1 ⟨rfl, t1⟩; have HT := Lib.hid t1; clear t1)
      | (go_at_call 11
         have M9 := M1
         go_must (refine (pnew_yes _ A1 c1 l1 _ (by exact HS1.out.touch HT2.out (fun _ _ e => e)) (by omega) HS.out.2).mono ?_)
         rintro e w3 ⟨g', b', F', rfl, hp, hg, hb, hF, t3⟩
         have HQ := Lib.hid (show PlLoop w w3 g' l1 b' (fun _ => none) _ from ⟨hp.near, f0_node, fun k v h => (by cases h), HT2.out.trans t3 (fun _ _ e => e)⟩)
         have HT3 := Lib.hid t3
         have HA2 := Lib.hid (show (w2.heap.size ≤ g' ∧ g' < w3.heap.size) ∧ (w2.heap.size ≤ b' ∧ b' < w3.heap.size) ∧ ∀ k, F' k → w2.heap.size ≤ k from ⟨⟨hg, hp.blk.choose_spec.choose_spec.1.lt⟩, ⟨hb, hp.map.lt⟩, hF⟩)
         clear hp hg hb hF t3)
      | (go_at_call 11
         go_must (refine (pnew_yes _ A0 c0 l0 _ (by exact HS0.out.touch HT.out (fun _ _ e => e)) (by omega) HS.out.1).mono ?_)
         rintro e w2 ⟨g, b, F, rfl, hp, hg, hb, hF, t2⟩
         have HP := Lib.hid (show PlLoop w w2 g l0 b (fun _ => none) _ from ⟨hp.near, f0_node, fun k v h => (by cases h), HT.out.trans t2 (fun _ _ e => e)⟩)
         have HT2 := Lib.hid (HT.out.trans t2 (fun _ _ e => e))
         have HA1 := Lib.hid (show (w1.heap.size ≤ g ∧ g < w2.heap.size) ∧ (w1.heap.size ≤ b ∧ b < w2.heap.size) ∧ ∀ k, F k → w1.heap.size ≤ k from ⟨⟨hg, hp.blk.choose_spec.choose_spec.1.lt⟩, ⟨hb, hp.map.lt⟩, hF⟩)
         have M1 := Lib.hid trivial
         clear hp hg hb hF t2))
    obtain ⟨W, hW⟩ : ∃ W, W = (w3.alloc (.cells #[.bool false, .bool false, .bool false, .bool false, .bool false, .bool false, .bool false] 42)).alloc (.cells #[.bool false, .bool false, .bool false, .bool false, .bool false, .bool false, .bool false] 42) := ⟨_, rfl⟩
    have hbf : boolsA (fun _ => false) = #[.bool false, .bool false, .bool false, .bool false, .bool false, .bool false, .bool false] := rfl
    have hz12 := HT2.out.size
    have hz23 := HT3.out.size
    have hz01 := HT.out.size
    have tq' := HT3.out
    have hA1 := HA1.out
    have hA2 := HA2.out
    obtain ⟨F1, hF1⟩ : ∃ F1 : Nat → Prop, F1 = fun k => F k ∧ k < w2.heap.size := ⟨_, rfl⟩
    obtain ⟨F2, hF2⟩ : ∃ F2 : Nat → Prop, F2 = fun k => F' k ∧ k < w3.heap.size := ⟨_, rfl⟩
    have HAp := Lib.hid (show Apart w.heap.size w2.heap.size w3.heap.size g b F1 g' b' F2 from ⟨by omega, by omega, by omega, fun k hk => by rw [hF1] at hk; have := hA1.2.2 k hk.1; omega, by omega, by omega, fun k hk => by rw [hF2] at hk; have := hA2.2.2 k hk.1; omega⟩)
    have HBl := Lib.hid (Blk.new w3 42 (boolsA fun _ => false))
    have HBm := Lib.hid (Blk.new (w3.alloc (.cells (boolsA fun _ => false) 42)) 42 (boolsA fun _ => false))
    have H0 := Lib.hid (show Two w W g l0 b (fun _ => none) F1 g' l1 b' (fun _ => none) F2 w3.heap.size (w3.heap.size + 1) (fun _ => false) (fun _ => false) from by
      have t3 : Touch (fun _ => False) w3 W := hW ▸ ((Touch.refl _ w3).alloc _).alloc _
      have t23 := HT3.out.trans t3 (fun _ _ e => e)
      have hP : PlLoop w w2 g l0 b (fun _ => none) F1 := hF1 ▸ HP.out
      have hQ : PlLoop w w3 g' l1 b' (fun _ => none) F2 := hF2 ▸ HQ.out
      exact ⟨hP.touch t23 (fun _ _ e => e) (fun e => e) (fun e => e) (fun _ _ e => e), hQ.touch t3 (fun _ _ e => e) (fun e => e) (fun e => e) (fun _ _ e => e),
        hW ▸ HBl.out.alloc _, (by rw [hW, ← hbf]; simpa using HBm.out), (fun i _ h => by cases h), (fun i _ h => by cases h), (fun i _ h => by cases h)⟩)
    rw [← hW]
    clear hW hbf HBl HBm HP HQ HA1 HA2 hA1 hA2 hF1 hF2 tq' HT HT2 HT3 M1 M9 HNr HS0 HS1
    go_loopw [39] (fun i wr => ∃ j : Nat, j ≤ l2.length ∧ i = .int .i64 j ∧ ∃ f f' ps qs, Two w wr g l0 b f F1 g' l1 b' f' F2 w3.heap.size (w3.heap.size + 1) ps qs) (fun i _ => l2.length - (intOf i).toNat)
    case atStart => exact ⟨0, by omega, rfl, _, _, _, _, H0.out⟩
    case round =>
      clear H0
      obtain ⟨j, hj, rfl, f, f', ps, qs, hTw⟩ := hrel
      have HTw := Lib.hid hTw
      clear hTw
      by_cases hjk : j < l2.length
      · have ha : l2[j]? = some (l2[j]'hjk) := List.getElem?_eq_getElem _
        have HI := Lib.hid (HO2.out _ (List.getElem_mem hjk))
        obtain ⟨a, off, rfl, -, -, hc⟩ := (HS2.out.touch HTw.out.p.t (fun _ _ e => e)).at_ (fun a _ => said_len a) rfl ha
        generalize l2[j]'hjk = x at *
        have q0 := hc 0 _ rfl
        have q1 := hc 1 _ rfl
        simp only [Nat.add_zero, ← Nat.add_assoc] at q0 q1
        obtain ⟨x, ok⟩ := x
        simp only at q0 q1 HI
        clear hc ha
        have HTA := Lib.hid ((Touch.refl (fun _ => False) wr).alloc (.cells #[.int .i64 x, .bool ok] 31))
        have HTa := Lib.hid (HTw.out.alloc HTA.out)
        by_cases hlo : x < 0
        · go_wp2
          go_roundw
          case rel => exact ⟨j + 1, by omega, by go_num, f, f', ps, qs, HTa.out⟩
          case measure => simp [intOf]; omega
        by_cases hhi : 6 < x
        · go_wp2
          go_roundw
          case rel => exact ⟨j + 1, by omega, by go_num, f, f', ps, qs, HTa.out⟩
          case measure => simp [intOf]; omega
        obtain ⟨m, rfl⟩ := Int.eq_ofNat_of_zero_le (show 0 ≤ x by omega)
        have hm7 : m < 7 := by omega
        have HM7 := Lib.hid hm7
        have hmi : (m : Int) < 7 := by omega
        have hlp := HTw.out.hp.lt
        have hlq := HTw.out.hq.lt
        have hn1 : ¬ w3.heap.size = wr.heap.size := by omega
        have hn2 : ¬ wr.heap.size = w3.heap.size := by omega
        have hn3 : ¬ w3.heap.size + 1 = wr.heap.size := by omega
        have hn4 : ¬ wr.heap.size = w3.heap.size + 1 := by omega
        have rp := HTa.out.hp.cell m
        have rq := HTa.out.hq.cell m
        rw [boolsA_get _ hm7] at rp rq
        have fp := HTa.out.hp.frozen m
        have fq := HTa.out.hq.frozen m
        obtain ⟨pv, hpv⟩ : ∃ pv, pv = ps m := ⟨_, rfl⟩
        obtain ⟨qv, hqv⟩ : ∃ qv, qv = qs m := ⟨_, rfl⟩
        rw [← hpv] at rp
        rw [← hqv] at rq
        have HPv := Lib.hid hpv.symm
        have HQv := Lib.hid hqv.symm
        clear hpv hqv
        have hsel : (∃ hjb : j < l3.length, l3[j]'hjb = true) ∨ (∃ hjb : j < l3.length, l3[j]'hjb = false) ∨ l3.length ≤ j := by
          by_cases h : j < l3.length
          · cases hb : l3[j]'h
            · exact .inr (.inl ⟨h, hb⟩)
            · exact .inl ⟨h, hb⟩
          · exact .inr (.inr (by omega))
        rcases hsel with ⟨hjb, hb⟩ | ⟨hjb, hb⟩ | hjb
        · have ha : l3[j]? = some (l3[j]'hjb) := List.getElem?_eq_getElem _
          obtain ⟨a3, off3, rfl, -, -, hc⟩ := (HS3.out.touch HTa.out.p.t (fun _ _ e => e)).at_ (fun a _ => rfl) rfl ha
          rw [hb] at hc
          have q3 := hc 0 _ rfl
          simp only [Nat.add_zero, Nat.mul_one] at q3
          clear hc ha hb
          by_cases hsk : ok = true ∧ qv = true
          · obtain ⟨rfl, rfl⟩ := hsk
            go_wp2
            go_roundw
            case rel => exact ⟨j + 1, by omega, by go_num, f, f', ps, qs, HTa.out⟩
            case measure => simp [intOf]; omega
          · have HOk := Lib.hid (show OkP ok (qs m) from fun h => by
              rw [HQv.out]
              cases hq : qv
              · rfl
              · exact absurd ⟨h, hq⟩ hsk)
            have HOr := Lib.hid (show OrEq (pv || ok) (ps m) ok by rw [OrEq, HPv.out])
            have HBb := Lib.hid (show Blk (((wr.setCell ⟨w3.heap.size, m, none⟩ (.bool (pv || ok))).alloc (.cells #[.int .i64 (m : Int), .bool ok] 31)).drew) (w3.heap.size) 42 (boolsA (setB ps m (pv || ok))) from by rw [← boolsA_set _ HM7.out, ← World.setCell_alloc_past _ _ _ _ hlp]; exact HTa.out.hp.set_ m _)
            have hsk' : ok = false ∨ (ok = true ∧ qv = false) := by
              cases ok
              · exact .inl rfl
              · cases qv
                · exact .inr ⟨rfl, rfl⟩
                · exact absurd ⟨rfl, rfl⟩ hsk
            clear hsk
            have HTb := Lib.hid (show Touch (fun q => q = w3.heap.size) (wr.alloc (.cells #[.int .i64 (m : Int), .bool ok] 31)) (((wr.setCell ⟨w3.heap.size, m, none⟩ (.bool (pv || ok))).alloc (.cells #[.int .i64 (m : Int), .bool ok] 31)).drew) from by rw [← World.setCell_alloc_past _ _ _ _ hlp]; exact ((Touch.refl (fun q => q = w3.heap.size) _).set (fun _ => rfl) _).drew)
            have HTc := Lib.hid (show Touch (fun q => q = w3.heap.size) (wr.alloc (.cells #[.int .i64 (m : Int), .bool ok] 31)).drew (((wr.setCell ⟨w3.heap.size, m, none⟩ (.bool (pv || ok))).alloc (.cells #[.int .i64 (m : Int), .bool ok] 31)).drew) from by rw [← World.setCell_alloc_past _ _ _ _ hlp]; exact (Touch.refl (fun q => q = w3.heap.size) ((wr.alloc (.cells #[.int .i64 (m : Int), .bool ok] 31)).drew)).set (fun _ => rfl) _)
            rcases hsk' with rfl | ⟨rfl, rfl⟩ <;> cases pv
            all_goals
              go_wp2_with fail
              refine wp_region_plan [(0, 0), (0, 1), (0, 2), (0, 3), (0, 4), (0, 5), (0, 6), (0, 7), (0, 8), (0, 9), (0, 10), (2, 11)] (fun q => q = w3.heap.size) (by kernel_rfl) (by kernel_rfl) (fun c a d v w h => by cases d <;> exact h) ?_
              iterate 11
                refine plan_s rfl fun Kc hKc => ?_
                go_simp
                first
                  | (refine hKc _ ?_)
                clear hKc Kc
              refine plan_a1 rfl (by rfl) (fun Kc hKc => ?_)
              go_simp
              refine hKc _ _ ⟨HTc.out, ?_⟩
              clear hKc Kc
              refine plan_done ?_
              go_wp2_with (go_at_call 14
                           go_must (refine (pnote_any g l0 b (2 * cntF f) f F1 (m : Int) _ _ (by exact HTa.out.p.at_.touch HTb.out (show ¬ g = w3.heap.size by have := HAp.out.hg; omega) (show ¬ b = w3.heap.size by have := HAp.out.hm; omega) (fun k hk => show ¬ k = w3.heap.size by have := HAp.out.hF k hk; omega)) HI.out (by have := cntF_le f; omega) (by omega)).mono ?_)
                           rintro e w4 ⟨rfl, h4, t4, hn5⟩
                           have HTw4 := Lib.hid (HTa.out.noteP HAp.out rfl rfl HM7.out HL.out HTb.out HOr.out HBb.out h4 t4 hn5 HOk.out)
                           clear h4 t4 hn5)
              go_roundw
              case rel => exact ⟨j + 1, by omega, by go_num, _, f', _, qs, HTw4.out⟩
              case measure => simp [intOf]; omega
        · have ha : l3[j]? = some (l3[j]'hjb) := List.getElem?_eq_getElem _
          obtain ⟨a3, off3, rfl, -, -, hc⟩ := (HS3.out.touch HTa.out.p.t (fun _ _ e => e)).at_ (fun a _ => rfl) rfl ha
          rw [hb] at hc
          have q3 := hc 0 _ rfl
          simp only [Nat.add_zero, Nat.mul_one] at q3
          clear hc ha hb
          by_cases hsk : ok = true ∧ pv = true
          · obtain ⟨rfl, rfl⟩ := hsk
            go_wp2
            go_roundw
            case rel => exact ⟨j + 1, by omega, by go_num, f, f', ps, qs, HTa.out⟩
            case measure => simp [intOf]; omega
          · have HOk := Lib.hid (show OkP ok (ps m) from fun h => by
              rw [HPv.out]
              cases hq : pv
              · rfl
              · exact absurd ⟨h, hq⟩ hsk)
            have HOr := Lib.hid (show OrEq (qv || ok) (qs m) ok by rw [OrEq, HQv.out])
            have HBb := Lib.hid (show Blk (((wr.setCell ⟨w3.heap.size + 1, m, none⟩ (.bool (qv || ok))).alloc (.cells #[.int .i64 (m : Int), .bool ok] 31)).drew) (w3.heap.size + 1) 42 (boolsA (setB qs m (qv || ok))) from by rw [← boolsA_set _ HM7.out, ← World.setCell_alloc_past _ _ _ _ hlq]; exact HTa.out.hq.set_ m _)
            have hsk' : ok = false ∨ (ok = true ∧ pv = false) := by
              cases ok
              · exact .inl rfl
              · cases pv
                · exact .inr ⟨rfl, rfl⟩
                · exact absurd ⟨rfl, rfl⟩ hsk
            clear hsk
            have HTb := Lib.hid (show Touch (fun q => q = w3.heap.size + 1) (wr.alloc (.cells #[.int .i64 (m : Int), .bool ok] 31)) (((wr.setCell ⟨w3.heap.size + 1, m, none⟩ (.bool (qv || ok))).alloc (.cells #[.int .i64 (m : Int), .bool ok] 31)).drew) from by rw [← World.setCell_alloc_past _ _ _ _ hlq]; exact ((Touch.refl (fun q => q = w3.heap.size + 1) _).set (fun _ => rfl) _).drew)
            have HTc := Lib.hid (show Touch (fun q => q = w3.heap.size + 1) (wr.alloc (.cells #[.int .i64 (m : Int), .bool ok] 31)).drew (((wr.setCell ⟨w3.heap.size + 1, m, none⟩ (.bool (qv || ok))).alloc (.cells #[.int .i64 (m : Int), .bool ok] 31)).drew) from by rw [← World.setCell_alloc_past _ _ _ _ hlq]; exact (Touch.refl (fun q => q = w3.heap.size + 1) ((wr.alloc (.cells #[.int .i64 (m : Int), .bool ok] 31)).drew)).set (fun _ => rfl) _)
            rcases hsk' with rfl | ⟨rfl, rfl⟩ <;> cases qv
            all_goals
              go_wp2_with fail
              refine wp_region_plan [(0, 0), (0, 1), (0, 2), (0, 3), (0, 4), (0, 5), (0, 6), (0, 7), (0, 8), (0, 9), (0, 10), (2, 11)] (fun q => q = w3.heap.size + 1) (by kernel_rfl) (by kernel_rfl) (fun c a d v w h => by cases d <;> exact h) ?_
              iterate 11
                refine plan_s rfl fun Kc hKc => ?_
                go_simp
                first
                  | (refine hKc _ ?_)
                clear hKc Kc
              refine plan_a1 rfl (by rfl) (fun Kc hKc => ?_)
              go_simp
              refine hKc _ _ ⟨HTc.out, ?_⟩
              clear hKc Kc
              refine plan_done ?_
              go_wp2_with (go_at_call 14
                           go_must (refine (pnote_any g' l1 b' (2 * cntF f') f' F2 (m : Int) _ _ (by exact HTa.out.q.at_.touch HTb.out (show ¬ g' = w3.heap.size + 1 by have := HAp.out.hg'; omega) (show ¬ b' = w3.heap.size + 1 by have := HAp.out.hm'; omega) (fun k hk => show ¬ k = w3.heap.size + 1 by have := HAp.out.hF' k hk; omega)) HI.out (by have := cntF_le f'; omega) (by omega)).mono ?_)
                           rintro e w4 ⟨rfl, h4, t4, hn5⟩
                           have HTw4 := Lib.hid (HTa.out.noteQ HAp.out rfl rfl HM7.out HL'.out HTb.out HOr.out HBb.out h4 t4 hn5 HOk.out)
                           clear h4 t4 hn5)
              go_roundw
              case rel => exact ⟨j + 1, by omega, by go_num, f, _, ps, _, HTw4.out⟩
              case measure => simp [intOf]; omega
        · by_cases hsk : ok = true ∧ pv = true
          · obtain ⟨rfl, rfl⟩ := hsk
            go_wp2
            go_roundw
            case rel => exact ⟨j + 1, by omega, by go_num, f, f', ps, qs, HTa.out⟩
            case measure => simp [intOf]; omega
          · have HOk := Lib.hid (show OkP ok (ps m) from fun h => by
              rw [HPv.out]
              cases hq : pv
              · rfl
              · exact absurd ⟨h, hq⟩ hsk)
            have HOr := Lib.hid (show OrEq (qv || ok) (qs m) ok by rw [OrEq, HQv.out])
            have HBb := Lib.hid (show Blk (((wr.setCell ⟨w3.heap.size + 1, m, none⟩ (.bool (qv || ok))).alloc (.cells #[.int .i64 (m : Int), .bool ok] 31)).drew) (w3.heap.size + 1) 42 (boolsA (setB qs m (qv || ok))) from by rw [← boolsA_set _ HM7.out, ← World.setCell_alloc_past _ _ _ _ hlq]; exact HTa.out.hq.set_ m _)
            have hsk' : ok = false ∨ (ok = true ∧ pv = false) := by
              cases ok
              · exact .inl rfl
              · cases pv
                · exact .inr ⟨rfl, rfl⟩
                · exact absurd ⟨rfl, rfl⟩ hsk
            clear hsk
            have HTb := Lib.hid (show Touch (fun q => q = w3.heap.size + 1) (wr.alloc (.cells #[.int .i64 (m : Int), .bool ok] 31)) (((wr.setCell ⟨w3.heap.size + 1, m, none⟩ (.bool (qv || ok))).alloc (.cells #[.int .i64 (m : Int), .bool ok] 31)).drew) from by rw [← World.setCell_alloc_past _ _ _ _ hlq]; exact ((Touch.refl (fun q => q = w3.heap.size + 1) _).set (fun _ => rfl) _).drew)
            have HTc := Lib.hid (show Touch (fun q => q = w3.heap.size + 1) (wr.alloc (.cells #[.int .i64 (m : Int), .bool ok] 31)).drew (((wr.setCell ⟨w3.heap.size + 1, m, none⟩ (.bool (qv || ok))).alloc (.cells #[.int .i64 (m : Int), .bool ok] 31)).drew) from by rw [← World.setCell_alloc_past _ _ _ _ hlq]; exact (Touch.refl (fun q => q = w3.heap.size + 1) ((wr.alloc (.cells #[.int .i64 (m : Int), .bool ok] 31)).drew)).set (fun _ => rfl) _)
            rcases hsk' with rfl | ⟨rfl, rfl⟩ <;> cases qv
            all_goals
              go_wp2_with fail
              refine wp_region_plan [(0, 0), (0, 1), (0, 2), (0, 3), (0, 4), (0, 5), (0, 6), (0, 7), (0, 8), (0, 9), (0, 10), (2, 11)] (fun q => q = w3.heap.size + 1) (by kernel_rfl) (by kernel_rfl) (fun c a d v w h => by cases d <;> exact h) ?_
              iterate 11
                refine plan_s rfl fun Kc hKc => ?_
                go_simp
                first
                  | (refine hKc _ ?_)
                clear hKc Kc
              refine plan_a1 rfl (by rfl) (fun Kc hKc => ?_)
              go_simp
              refine hKc _ _ ⟨HTc.out, ?_⟩
              clear hKc Kc
              refine plan_done ?_
              go_wp2_with (go_at_call 14
                           go_must (refine (pnote_any g' l1 b' (2 * cntF f') f' F2 (m : Int) _ _ (by exact HTa.out.q.at_.touch HTb.out (show ¬ g' = w3.heap.size + 1 by have := HAp.out.hg'; omega) (show ¬ b' = w3.heap.size + 1 by have := HAp.out.hm'; omega) (fun k hk => show ¬ k = w3.heap.size + 1 by have := HAp.out.hF' k hk; omega)) HI.out (by have := cntF_le f'; omega) (by omega)).mono ?_)
                           rintro e w4 ⟨rfl, h4, t4, hn5⟩
                           have HTw4 := Lib.hid (HTa.out.noteQ HAp.out rfl rfl HM7.out HL'.out HTb.out HOr.out HBb.out h4 t4 hn5 HOk.out)
                           clear h4 t4 hn5)
              go_roundw
              case rel => exact ⟨j + 1, by omega, by go_num, f, _, ps, _, HTw4.out⟩
              case measure => simp [intOf]; omega
      · obtain rfl : j = l2.length := by omega
        have HSp := Lib.hid (fun w1 (h1 : PlAt w1 g l0 b (2 * cntF f) f F1) => state_any g l0 b _ f F1 w1 h1 HTw.out.p.node HS.out.1)
        have HSq := Lib.hid (fun w1 (h1 : PlAt w1 g' l1 b' (2 * cntF f') f' F2) => state_any g' l1 b' _ f' F2 w1 h1 HTw.out.q.node HS.out.2)
        have HTwo := Lib.hid (two_won HNe.out HTw.out.p.in_ HTw.out.q.in_ (fun i hi h1 h2 => HTw.out.once i hi (HTw.out.yp i hi h1) (HTw.out.yq i hi h2)))
        generalize stateV l0 f = sp at *
        generalize stateV l1 f' = sq at *
        by_cases hsp : sp = 2
        · have hsq : ¬ sq = 2 := fun h => HTwo.out hsp h
          subst hsp
          have hsq' : (sq == 2) = false := by simpa using hsq
          clear hsq
          go_wp2_with (first
            | (go_at_call 15
               have M9 := M1
               go_must (refine (HSq.out _ (by exact HTw.out.q.at_.touch HT5.out (fun e => e) (fun e => e) (fun _ _ e => e))).mono ?_)
               rintro e w6 ⟨rfl, t6⟩
               have HT6 := Lib.hid (HT5.out.trans t6 (fun _ _ e => e))
               clear t6)
            | (go_at_call 15
               go_must (refine (HSp.out _ (by exact HTw.out.p.at_)).mono ?_)
               rintro e w5 ⟨rfl, t5⟩
               have HT5 := Lib.hid t5
               have M1 := Lib.hid trivial
               clear t5)
            | (go_at_call 10; go_must (refine (lives32_any _).mono ?_); rintro e w7 ⟨rfl, t7⟩; have HT := Lib.hid ((HTw.out.p.t.trans HT6.out (fun _ _ e => e)).trans t7 (fun _ _ e => e)); clear t7))
          go_ret
          exact ⟨rfl, HT.out.below⟩
        · have hsp' : (sp == 2) = false := by simpa using hsp
          clear hsp
          go_wp2_with (first
            | (go_at_call 15
               go_must (refine (HSp.out _ (by exact HTw.out.p.at_)).mono ?_)
               rintro e w5 ⟨rfl, t5⟩
               have HT5 := Lib.hid t5
               clear t5)
            | (go_at_call 10; go_must (refine (lives32_any _).mono ?_); rintro e w7 ⟨rfl, t7⟩; have HT := Lib.hid ((HTw.out.p.t.trans HT5.out (fun _ _ e => e)).trans t7 (fun _ _ e => e)); clear t7))
          go_ret
          exact ⟨rfl, HT.out.below⟩
end Go.Proofs.Ytbleeejhejkkcaa
