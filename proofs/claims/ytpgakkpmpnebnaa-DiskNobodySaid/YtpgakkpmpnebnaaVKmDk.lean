/- The keys of a map[string]disk.content: maps.Keys, its iterator, slices.Sorted over it (written by genkeys.py). -/
import Derived.Test.YtpgakkpmpnebnaaVKcS
import Derived.Test.YtpgakkpmpnebnaaVSortS
namespace Go.Proofs.Ytpgakkpmpnebnaa
open Go.RowKit Go.Maps
attribute [local go_sem] Oper.semAt_some
set_option maxHeartbeats 2000000
set_option maxRecDepth 100000
set_option linter.unusedVariables false

theorem mkeysDk_any (mb : Option Nat) (w : World) :
    Calls Try.prog 89 #[.map mb] w fun e w' => e = .returned (.func (.func 115) #[] #[.pointer (some ⟨w.heap.size, 0, none⟩)]) ∧ w' = w.alloc (.cells #[.map mb] 99) := by
  go_enter Try.func89, Try.ntmps89
  go_wp2
  go_ret
  exact ⟨rfl, rfl⟩
/-- All keys that have come while 'left' are still to come. -/
def CameDk (f : Lit → Option Value) (left : Lit → Bool) (ss : List (List UInt8)) : Prop := ss.Nodup ∧ ∀ c : (List UInt8), c ∈ ss ↔ inS c ∧ (f (.string c)).isSome = true ∧ left (.string c) = false
theorem mkIterDk (F : Fence) (n : Nat) (hF : F.fn 115) (hro : F.round = none) (hn : 1 ≤ n) (Bm b nn : Nat) (f : Lit → Option Value) (w : World) (hBm : Bm < w.heap.size) (hm : w.cell? ⟨Bm, 0, none⟩ = some (.map (some b))) (D : DataW Value) (hown : w.ownsMap Try.prog 9 valR b nn D) (hs : SaysV Try.prog 9 D f) :
    SeqStops F n Try.prog 115 #[.pointer (some ⟨Bm, 0, none⟩)] St (fun ss => CameDk f (fun _ => false) ss ∧ ss.length ≤ Maps.size D) (fun _ => True) (Maps.size D) w := fun l J Jx W hW hJ hJx hY h0 => by
  have hown' : W.ownsMap Try.prog 9 valR b nn D := by
    have hbl := hown.lt
    obtain ⟨es, clock, hb, Ft, hs, hD⟩ := hown
    exact ⟨es, clock, (hW.block b hbl).trans hb, Ft, hs, hD⟩
  have hm' : W.cell? ⟨Bm, 0, none⟩ = some (.map (some b)) := (hW.cell (p := ⟨Bm, 0, none⟩) hBm).trans hm
  clear hown hm
  refine callsIn_of_wp Try.func115 rfl hF ?_ hro
  simp only [Try.ntmps115, List.size_toArray, List.length_cons, List.length_nil, Nat.reduceAdd, Nat.reduceSub, Array.replicate_succ, Array.replicate_zero, List.push_toArray, List.append_toArray, List.nil_append, List.cons_append]
  gi_wp2_with (first
    | (gi_at_range; refine wpListIn_range_own _ rfl _ 99 rfl 9 149 lawS Try.underlying99 valR b nn D rfl hown' ?_; intro w0 hrg0 hg0 hs0)
    | gi_in)
  go_frame
  gi_loopw [3] (fun _ wr => ∃ (left : Lit → Bool) (cnt : Nat) (ss : List (List UInt8)), wr.ranges Try.prog 9 valR b W.heap.size nn D left cnt ∧ ss.length + cnt ≤ Maps.size D ∧ CameDk f left ss ∧ J ss wr)
    (fun _ wr => wr.rangeLeft b W.heap.size)
  case atStart =>
    refine ⟨_, _, [], hrg0, by simp, ⟨List.nodup_nil, fun c => ⟨fun h => (by cases h), fun ⟨h1, h2, h3⟩ => ?_⟩⟩, hJ [] W w0 none h0 hg0 (fun r e => by cases e)⟩
    rw [(hs _ ⟨_, keyS h1⟩).1, h2] at h3
    cases h3
  case round =>
    obtain ⟨left, cnt, ss, hrg, hcs, hC, hJs⟩ := hrel
    gi_wp2_with (first
      | (gi_at_next; refine wpListIn_next_ranges _ rfl _ rfl 9 lawS valR (fun c : (List UInt8) => Value.string ⟨List.toArray c⟩) id (fun key kl hk => by
          obtain ⟨s, rfl, -, -⟩ := WideMaps.string_of_keyOf Try.underlying9 hk
          exact ⟨s.data.toList, by simp⟩) (fun v _ _ => ⟨v, rfl⟩) b W.heap.size nn _ _ _ rfl hrg ?_ ?_)
      | gi_in)
    · intro hc0 hl0
      gi_wp2
      go_end0
      exact ⟨⟨_, rfl⟩, .inl ⟨ss, ⟨⟨hC.1, fun c => by rw [hC.2 c, hl0]⟩, by omega⟩, hJs⟩⟩
    · intro x c kl yd yp w2 cnt2 hkey hlk hv hat hrg2 hlt hg2 hs2 hen
      obtain ⟨s', ex, ekl, hw⟩ := WideMaps.string_of_keyOf Try.underlying9 hkey
      injection ex with ex
      subst ex
      have hx : inS x := by unfold inS; rw [← stSize x]; exact hw
      obtain rfl : kl = Lit.string x := ekl
      have hJ2 : J ss w2 := hJ ss wr w2 (some W.heap.size) hJs hg2 (fun r e => by cases e; exact ⟨Nat.le_refl _, hrg.iter_walk⟩)
      obtain ⟨fn, tmps, assign, body, hy, hR⟩ := hY ss x w2 hJ2 (by omega)
      dsimp only [St] at hy
      clear hs2
      gi_wp2
      refine hR.mono ?_
      rintro e W3 (⟨rfl, hJ3, hk3⟩ | ⟨rfl, hJx3⟩)
      · gi_wp2
        have hrg3 := hrg2.of_walks hk3
        go_roundw
        case rel =>
          refine ⟨_, cnt2, ss ++ [x], hrg3, by simp; omega, ⟨?_, fun c => ?_⟩, hJ3⟩
          · rw [List.nodup_append]
            refine ⟨hC.1, by simp, fun a ha d hd e => ?_⟩
            simp at hd; subst hd; subst e
            have := ((hC.2 a).1 ha).2.2
            rw [hlk] at this; cases this
          · simp only [List.mem_append, List.mem_singleton, hC.2 c, Bool.and_eq_false_iff]
            constructor
            · rintro (⟨h1, h2, h3⟩ | rfl)
              · exact ⟨h1, h2, .inl h3⟩
              · refine ⟨hx, ?_, .inr ?_⟩
                · obtain ⟨h1, h2⟩ := hs _ ⟨_, hkey⟩
                  cases hf : f (.string c) with
                  | none =>
                    rw [hf] at h1
                    have e1 := atKey_of_not_has h1 (.lit (.bool true))
                    have e2 := atKey_of_not_has h1 (.lit (.bool false))
                    rw [hat] at e1 e2
                    rw [e1] at e2; cases e2
                  | some v => rfl
                · rw [WideAt.sameKey_self (lawS.key hkey)]; rfl
            · rintro ⟨h1, h2, h3 | h3⟩
              · exact .inl ⟨h1, h2, h3⟩
              · by_cases e : c = x
                · exact .inr e
                · have : (Lit.string c).sameKey (Lit.string x) = false := sameKey_ne (fun e' => e (by injection e'))
                  rw [this] at h3; cases h3
        case measure => rw [hrg3.left_eq, hrg.left_eq]; exact hlt
      · gi_wp2
        exact bodyPost_ret (v := .tuple #[]) (results_none (by rfl) _ _ _) rfl ⟨⟨_, rfl⟩, .inr ⟨ss ++ [x], trivial, hJx3⟩⟩
/-- All keys, rising. -/
def SortedDk (f : Lit → Option Value) (w : World) (e : Ending) (w' : World) : Prop :=
  ∃ (A : Option Addr) (c : Nat) (zs : List (List UInt8)), e = .returned (.slice A zs.length c) ∧ zs.Pairwise (· ≤ ·) ∧ zs.Nodup ∧ (∀ i : (List UInt8), i ∈ zs ↔ inS i ∧ (f (.string i)).isSome = true) ∧ zs.length ≤ c ∧ c ≤ maxLen ∧ Rd w' (fun j => w.heap.size ≤ j) A zs.length (zs.map St) ∧ Touch (fun _ => False) w w'
theorem sortedDk_any (Bm b n : Nat) (f : Lit → Option Value) (w : World) (hBm : Bm < w.heap.size) (hm : w.cell? ⟨Bm, 0, none⟩ = some (.map (some b))) (hM : MapV Try.prog 9 w b n f) (hn : n ≤ 1000) :
    Calls Try.prog 88 #[.func (.func 115) #[] #[.pointer (some ⟨Bm, 0, none⟩)]] w (SortedDk f w) := by
  obtain ⟨D, hown, hs⟩ := hM
  have hsz : Maps.size D ≤ n := by
    obtain ⟨es', hD, hpw, hkl⟩ := hown.canon lawS
    obtain ⟨es, clock, hb, F, hn, hDe⟩ := hown
    rw [hD] at hDe ⊢
    injection hDe with hDe
    simp only [Maps.size]
    rw [hDe, length_sorted]; simpa using hn
  have hseq := mkIterDk Fence.wide 3 trivial rfl (by omega) Bm b n f w hBm hm D hown hs
  refine (sortedS_in 115 #[.pointer (some ⟨Bm, 0, none⟩)] (enters_of Try.func115 (by kernel_rfl) rfl) _ _ (by omega) (fun ss h => h.2) w hseq).mono ?_
  rintro e w' ⟨A, c, zs, rfl, ⟨ss, ⟨hC, -⟩, rfl⟩, h1, h2, h3, h4⟩
  have hp := List.mergeSort_perm ss fun x y : (List UInt8) => decide (x ≤ y)
  refine ⟨A, c, _, rfl, ?_, hp.nodup_iff.2 hC.1, fun i => ?_, h1, h2, h3, h4⟩
  · have := List.pairwise_mergeSort (le := fun x y : (List UInt8) => decide (x ≤ y)) (fun a b c h1 h2 => leS_trans h1 h2) (fun a b => leS_total a b) ss
    exact this.imp fun h => by simpa using h
  · rw [hp.mem_iff, hC.2 i]; simp
end Go.Proofs.Ytpgakkpmpnebnaa
