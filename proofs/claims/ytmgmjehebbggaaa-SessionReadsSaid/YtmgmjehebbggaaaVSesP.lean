/- The keys of a map[uint64]session.asked: maps.Keys, its iterator, slices.Sorted over it (written by genkeys.py). A table of what clients asked last: Put. -/
import Derived.Test.YtmgmjehebbggaaaVKcU
import Derived.Test.YtmgmjehebbggaaaVSesA
import Derived.Test.YtmgmjehebbggaaaVSesO
section
namespace Go.Proofs.Ytmgmjehebbggaaa
open Go.RowKit Go.Maps
attribute [local go_sem] Oper.semAt_some
set_option maxHeartbeats 2000000
set_option maxRecDepth 100000
set_option linter.unusedVariables false

theorem mkeysSes_any (mb : Option Nat) (w : World) :
    Calls Try.prog 49 #[.map mb] w fun e w' => e = .returned (.func (.func 69) #[] #[.pointer (some ⟨w.heap.size, 0, none⟩)]) ∧ w' = w.alloc (.cells #[.map mb] 64) := by
  go_enter Try.func49, Try.ntmps49
  go_wp2
  go_ret
  exact ⟨rfl, rfl⟩
/-- All keys that have come while 'left' are still to come. -/
def CameSes (f : Lit → Option Value) (left : Lit → Bool) (ss : List Nat) : Prop := ss.Nodup ∧ ∀ c : Nat, c ∈ ss ↔ c < 18446744073709551616 ∧ (f (.int .u64 (c : Int))).isSome = true ∧ left (.int .u64 (c : Int)) = false
theorem mkIterSes (F : Fence) (n : Nat) (hF : F.fn 69) (hro : F.round = none) (hn : 1 ≤ n) (Bm b nn : Nat) (f : Lit → Option Value) (w : World) (hBm : Bm < w.heap.size) (hm : w.cell? ⟨Bm, 0, none⟩ = some (.map (some b))) (D : DataW Value) (hown : w.ownsMap Try.prog 29 valR b nn D) (hs : SaysV Try.prog 29 D f) :
    SeqStops F n Try.prog 69 #[.pointer (some ⟨Bm, 0, none⟩)] U64 (fun ss => CameSes f (fun _ => false) ss ∧ ss.length ≤ Maps.size D) (fun _ => True) (Maps.size D) w := fun l J Jx W hW hJ hJx hY h0 => by
  have hown' : W.ownsMap Try.prog 29 valR b nn D := by
    have hbl := hown.lt
    obtain ⟨es, clock, hb, Ft, hs, hD⟩ := hown
    exact ⟨es, clock, (hW.block b hbl).trans hb, Ft, hs, hD⟩
  have hm' : W.cell? ⟨Bm, 0, none⟩ = some (.map (some b)) := (hW.cell (p := ⟨Bm, 0, none⟩) hBm).trans hm
  clear hown hm
  refine callsIn_of_wp Try.func69 rfl hF ?_ hro
  simp only [Try.ntmps69, List.size_toArray, List.length_cons, List.length_nil, Nat.reduceAdd, Nat.reduceSub, Array.replicate_succ, Array.replicate_zero, List.push_toArray, List.append_toArray, List.nil_append, List.cons_append]
  gi_wp2_with (first
    | (gi_at_range; refine wpListIn_range_own _ rfl _ 64 rfl 29 72 lawU Try.underlying64 valR b nn D rfl hown' ?_; intro w0 hrg0 hg0 hs0)
    | gi_in)
  go_frame
  gi_loopw [3] (fun _ wr => ∃ (left : Lit → Bool) (cnt : Nat) (ss : List Nat), wr.ranges Try.prog 29 valR b W.heap.size nn D left cnt ∧ ss.length + cnt ≤ Maps.size D ∧ CameSes f left ss ∧ J ss wr)
    (fun _ wr => wr.rangeLeft b W.heap.size)
  case atStart =>
    refine ⟨_, _, [], hrg0, by simp, ⟨List.nodup_nil, fun c => ⟨fun h => (by cases h), fun ⟨h1, h2, h3⟩ => ?_⟩⟩, hJ [] W w0 none h0 hg0 (fun r e => by cases e)⟩
    rw [(hs _ ⟨_, keyU h1⟩).1, h2] at h3
    cases h3
  case round =>
    obtain ⟨left, cnt, ss, hrg, hcs, hC, hJs⟩ := hrel
    gi_wp2_with (first
      | (gi_at_next; refine wpListIn_next_ranges _ rfl _ rfl 29 lawU valR (fun c : Nat => Value.int .u64 (c : Int)) id (fun key kl hk => by
          obtain ⟨x, rfl, _, hw⟩ := Maps.keyOf_int_inv Try.underlying29 hk
          simp [Lit.wf, IntKind.min, IntKind.max, IntKind.signed, IntKind.bits] at hw
          exact ⟨x.toNat, by rw [Int.toNat_of_nonneg hw.1]⟩) (fun v _ _ => ⟨v, rfl⟩) b W.heap.size nn _ _ _ rfl hrg ?_ ?_)
      | gi_in)
    · intro hc0 hl0
      gi_wp2
      go_end0
      exact ⟨⟨_, rfl⟩, .inl ⟨ss, ⟨⟨hC.1, fun c => by rw [hC.2 c, hl0]⟩, by omega⟩, hJs⟩⟩
    · intro x c kl yd yp w2 cnt2 hkey hlk hv hat hrg2 hlt hg2 hs2 hen
      obtain ⟨x', ex, rfl, hw⟩ := Maps.keyOf_int_inv Try.underlying29 hkey
      simp [Lit.wf, IntKind.min, IntKind.max, IntKind.signed, IntKind.bits] at hw
      injection ex with _ ex
      subst ex
      have hx : x < 18446744073709551616 := by omega
      have hJ2 : J ss w2 := hJ ss wr w2 (some W.heap.size) hJs hg2 (fun r e => by cases e; exact ⟨Nat.le_refl _, hrg.iter_walk⟩)
      obtain ⟨fn, tmps, assign, body, hy, hR⟩ := hY ss x w2 hJ2 (by omega)
      dsimp only [U64] at hy
      clear hs2
      gi_wp2
      refine hR.mono ?_
      rintro e W3 (⟨rfl, hJ3, hk3⟩ | ⟨rfl, hJx3⟩)
      · gi_wp2
        have hrg3 := hrg2.of_walks hk3
        go_roundw
        case rel =>
          refine ⟨_, cnt2, ss ++ [x], hrg3, by simp; omega, ⟨?_, fun c => ?_⟩, hJ3⟩
          · rw [List.nodup_append]
            refine ⟨hC.1, by simp, fun a ha d hd e => ?_⟩
            simp at hd; subst hd; subst e
            have := ((hC.2 a).1 ha).2.2
            rw [hlk] at this; cases this
          · simp only [List.mem_append, List.mem_singleton, hC.2 c, Bool.and_eq_false_iff]
            constructor
            · rintro (⟨h1, h2, h3⟩ | rfl)
              · exact ⟨h1, h2, .inl h3⟩
              · refine ⟨hx, ?_, .inr ?_⟩
                · obtain ⟨h1, h2⟩ := hs _ ⟨_, hkey⟩
                  cases hf : f (.int .u64 (c : Int)) with
                  | none =>
                    rw [hf] at h1
                    have e1 := atKey_of_not_has h1 (.lit (.bool true))
                    have e2 := atKey_of_not_has h1 (.lit (.bool false))
                    rw [hat] at e1 e2
                    rw [e1] at e2; cases e2
                  | some v => rfl
                · rw [WideAt.sameKey_self (lawU.key hkey)]; rfl
            · rintro ⟨h1, h2, h3 | h3⟩
              · exact .inl ⟨h1, h2, h3⟩
              · by_cases e : c = x
                · exact .inr e
                · have : (Lit.int IntKind.u64 (c : Int)).sameKey (Lit.int IntKind.u64 (x : Int)) = false := sameKey_ne (fun e' => e (by injection e'; omega))
                  rw [this] at h3; cases h3
        case measure => rw [hrg3.left_eq, hrg.left_eq]; exact hlt
      · gi_wp2
        exact bodyPost_ret (v := .tuple #[]) (results_none (by rfl) _ _ _) rfl ⟨⟨_, rfl⟩, .inr ⟨ss ++ [x], trivial, hJx3⟩⟩
/-- All keys, rising. -/
def SortedSes (f : Lit → Option Value) (w : World) (e : Ending) (w' : World) : Prop :=
  ∃ (A : Option Addr) (c : Nat) (zs : List Nat), e = .returned (.slice A zs.length c) ∧ zs.Pairwise (· ≤ ·) ∧ zs.Nodup ∧ (∀ i : Nat, i ∈ zs ↔ i < 18446744073709551616 ∧ (f (.int .u64 (i : Int))).isSome = true) ∧ zs.length ≤ c ∧ c ≤ maxLen ∧ Rd w' (fun j => w.heap.size ≤ j) A zs.length (zs.map U64) ∧ Touch (fun _ => False) w w'
theorem sortedSes_any (Bm b n : Nat) (f : Lit → Option Value) (w : World) (hBm : Bm < w.heap.size) (hm : w.cell? ⟨Bm, 0, none⟩ = some (.map (some b))) (hM : MapV Try.prog 29 w b n f) (hn : n ≤ 12) :
    Calls Try.prog 48 #[.func (.func 69) #[] #[.pointer (some ⟨Bm, 0, none⟩)]] w (SortedSes f w) := by
  obtain ⟨D, hown, hs⟩ := hM
  have hsz : Maps.size D ≤ n := by
    obtain ⟨es', hD, hpw, hkl⟩ := hown.canon lawU
    obtain ⟨es, clock, hb, F, hn, hDe⟩ := hown
    rw [hD] at hDe ⊢
    injection hDe with hDe
    simp only [Maps.size]
    rw [hDe, length_sorted]; simpa using hn
  have hseq := mkIterSes Fence.wide 3 trivial rfl (by omega) Bm b n f w hBm hm D hown hs
  refine (sortedU_in 69 #[.pointer (some ⟨Bm, 0, none⟩)] (enters_of Try.func69 (by kernel_rfl) rfl) _ _ (by omega) (fun ss h => h.2) w hseq).mono ?_
  rintro e w' ⟨A, c, zs, rfl, ⟨ss, ⟨hC, -⟩, rfl⟩, h1, h2, h3, h4⟩
  have hp := List.mergeSort_perm ss fun x y : Nat => decide (x ≤ y)
  refine ⟨A, c, _, rfl, ?_, hp.nodup_iff.2 hC.1, fun i => ?_, h1, h2, h3, h4⟩
  · have := List.pairwise_mergeSort (le := fun x y : Nat => decide (x ≤ y)) (fun a b c h1 h2 => by simp at *; omega) (fun a b => by simp; omega) ss
    exact this.imp fun h => by simpa using h
  · rw [hp.mem_iff, hC.2 i]; simp
end Go.Proofs.Ytmgmjehebbggaaa
end

section
namespace Go.Proofs.Ytmgmjehebbggaaa
open Go.RowKit Go.Maps
set_option maxHeartbeats 4000000
set_option maxRecDepth 100000
set_option linter.unusedVariables false

/-- Who stands in a table, rising. -/
def whoS (s : SesS) : List Nat := (List.range 9).filter fun c => (s c).isSome
theorem whoK {s : SesS} (h0 : s 0 = none) : ∀ k, cntB s k = ((List.range (k + 1)).filter fun c => (s c).isSome).length ∧ rowsB s k = ((List.range (k + 1)).filter fun c => (s c).isSome).flatMap (rowB s)
  | 0 => by simp [cntB, rowsB, List.range_succ, h0]
  | k + 1 => by
    obtain ⟨h1, h2⟩ := whoK h0 k
    rw [List.range_succ, List.filter_append, List.length_append, List.flatMap_append, cntB, rowsB, h1, h2]
    cases hs : s (k + 1) with
    | none => simp [hs, rowB]
    | some x => simp [hs]
theorem ok0 {s : SesS} (h : SesOk s) : s 0 = none := by
  cases hs : s 0 with
  | none => rfl
  | some x => have := h.who 0 x hs; omega
theorem sortedN_uniq : ∀ (a b : List Nat), a.Pairwise (· < ·) → b.Pairwise (· < ·) → (∀ x, x ∈ a ↔ x ∈ b) → a = b
  | [], [], _, _, _ => rfl
  | [], y :: b, _, _, h => absurd ((h y).2 (by simp)) (by simp)
  | x :: a, [], _, _, h => absurd ((h x).1 (by simp)) (by simp)
  | x :: a, y :: b, ha, hb, h => by
    obtain ⟨h1, h2⟩ := List.pairwise_cons.1 ha
    obtain ⟨h3, h4⟩ := List.pairwise_cons.1 hb
    have hxy : x = y := by
      rcases List.mem_cons.1 ((h x).1 (by simp)) with e | e
      · exact e
      · rcases List.mem_cons.1 ((h y).2 (by simp)) with e' | e'
        · exact e'.symm
        · have := h1 y e'; have := h3 x e; omega
    subst hxy
    congr 1
    refine sortedN_uniq a b h2 h4 fun z => ⟨fun hz => ?_, fun hz => ?_⟩
    · rcases List.mem_cons.1 ((h z).1 (List.mem_cons_of_mem _ hz)) with e | e
      · subst e; have := h1 z hz; omega
      · exact e
    · rcases List.mem_cons.1 ((h z).2 (List.mem_cons_of_mem _ hz)) with e | e
      · subst e; have := h3 z hz; omega
      · exact e
theorem whoS_eq {s : SesS} (h : SesOk s) (zs : List Nat) (h1 : zs.Pairwise (· ≤ ·)) (h2 : zs.Nodup) (h3 : ∀ i, i ∈ zs ↔ i < 18446744073709551616 ∧ (s i).isSome = true) : zs = whoS s := by
  refine sortedN_uniq _ _ ((h1.and h2).imp fun ⟨a, b⟩ => by omega) (List.Pairwise.filter _ List.pairwise_lt_range) fun x => ?_
  rw [h3, whoS, List.mem_filter, List.mem_range]
  constructor
  · rintro ⟨_, hs⟩
    obtain ⟨y, hy⟩ := Option.isSome_iff_exists.1 hs
    have := h.who x y hy
    exact ⟨by omega, hs⟩
  · rintro ⟨_, hs⟩
    exact ⟨by omega, hs⟩
theorem clients_cnt {s : SesS} {f : Lit → Option Value} (hf : ∀ c : Nat, c < 9 → (f (.int .u64 c)).isSome = (s c).isSome) : (clients.filter fun kl => (f kl).isSome).length = (whoS s).length := by
  unfold clients whoS
  rw [List.filter_map, List.length_map]
  congr 1
  refine List.filter_congr fun c hc => ?_
  exact hf c (List.mem_range.1 hc)
theorem pput_go {w w1 : World} {g : Nat} {r : Option Nat} {l : List UInt8} (h : WGo w g r l w1) (a : RpV) (hs : rpS a = true) (hk : a.okp) (F : Nat → Prop) (A : Option Addr) (c : Nat) (hr : Rd w F A a.fired.length (a.fired.map U64)) (hF : ∀ k, F k → k ≠ g ∧ r ≠ some k) (hF2 : ∀ k, F k → k < w.heap.size) (hsm : l.length ≤ 10000) :
    Calls Try.prog 50 #[.pointer (some ⟨g, 0, none⟩), .agg (rpC a A c)] w1 fun e w2 => e = .returned (.tuple #[]) ∧ WGo w g r (l ++ repB a) w2 := by
  have hrd := h.rd hr hF
  obtain ⟨r1, hw1, t1, hf1⟩ := h
  refine (pputA g r1 l a hs hk F A c _ hw1 hrd (fun k hk => ⟨(hF k hk).1, fun e => ?_⟩) (fun k hk => Nat.lt_of_lt_of_le (hF2 k hk) t1.size) hsm).mono ?_
  · rcases hf1 with e' | ⟨q, e', hq⟩
    · exact (hF k hk).2 (e'.symm.trans e)
    · rw [e'] at e; injection e with e; have := hF2 k hk; omega
  rintro e w2 ⟨rfl, h2⟩
  exact ⟨rfl, WGo.next t1 hf1 h2⟩
/-- The table stays while a writer writes. -/
theorem WGo.ses {w w1 : World} {gw : Nat} {r : Option Nat} {l : List UInt8} {g b : Nat} {s : SesS} {F : Nat → Prop} (h : WGo w gw r l w1) (hs : SesAt w g b s F) (h1 : g ≠ gw ∧ r ≠ some g) (h2 : b ≠ gw ∧ r ≠ some b) (hF : ∀ k, F k → k ≠ gw ∧ r ≠ some k) : SesAt w1 g b s F := by
  obtain ⟨_, _, t, _⟩ := h
  exact hs.touch t (by rintro (e | e); exact h1.1 e; exact h1.2 e) (by rintro (e | e); exact h2.1 e; exact h2.2 e) (fun k hk e => by rcases e with e | e; exact (hF k hk).1 e; exact (hF k hk).2 e)
end Go.Proofs.Ytmgmjehebbggaaa
end
