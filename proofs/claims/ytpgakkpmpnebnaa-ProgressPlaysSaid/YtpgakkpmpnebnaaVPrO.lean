/- Progress: Set, New. -/
import Derived.Test.YtpgakkpmpnebnaaVPrN
import Derived.Test.YtpgakkpmpnebnaaVPrD
namespace Go.Proofs.Ytpgakkpmpnebnaa
open Go.RowKit Go.Maps Prg
set_option maxHeartbeats 4000000
set_option maxRecDepth 100000
set_option linter.unusedVariables false

theorem keepT_ok {t : Tb} (h : t.Ok) (nodes : List Int) : (keepT t nodes).Ok := by
  intro i x hx
  unfold keepT at hx
  split at hx
  · exact h i x hx
  · cases hx
theorem ok_keys {t : Tb} (ok : t.Ok) (p : Int → Nat) : ∀ kl, KeysOf Try.prog 3 kl → (lnP t p kl).isSome = true → kl ∈ nodes7 := by
  intro kl hk hs
  obtain ⟨k, hki, rfl⟩ := keysI hk
  rw [lnP_at, Option.isSome_map] at hs
  obtain ⟨x, hx⟩ := Option.isSome_iff_exists.1 hs
  have := ok k x hx
  simp only [nodes7, List.mem_map, List.mem_range]
  exact ⟨k.toNat, by omega, by rw [Int.toNat_of_nonneg this.1]⟩
section
variable {w w' : World} {g b : Nat} {t : Tb} {p : Int → Nat} {F : Nat → Prop}
theorem PgP.keep (h : PgP w g b t p F) (nodes : List Int) (hm : MapV Try.prog 3 w' b 7 (lnP (keepT t nodes) p)) (tt : Touch (fun q => q = b) w w') : PgP w' g b (keepT t nodes) p F := by
  have key : ∀ i x, keepT t nodes i = some x → t i = some x := by
    intro i x hx
    unfold keepT at hx
    split at hx
    · exact hx
    · cases hx
  exact ⟨tt.blk h.blk (fun e => h.ng (e ▸ h.fb)), hm, keepT_ok h.ok nodes, fun i x hx => tt.blk (h.ln i x (key i x hx)) (h.nb i x (key i x hx)), fun i j x y hi hj e => h.inj i j x y (key i x hi) (key j y hj) e, h.fb, fun i x hx => h.fl i x (key i x hx), fun i x hx => h.nb i x (key i x hx), h.ng, fun k hk => Nat.lt_of_lt_of_le (h.lt k hk) tt.size⟩
/-- A line laid: its block is new. -/
theorem PgP.add (h : PgP w g b t p F) {n : Int} (hn : 0 ≤ n ∧ n ≤ 6) (ht : t n = none) {x : Ln} (hx : x.Ok)
    (hm : MapV Try.prog 3 w' b 8 (setV (lnP t p) (.int .i64 n) (.pointer (some ⟨w.heap.size, 0, none⟩)))) (tt : Touch (fun q => q = b) (w.alloc (.cells (lnC x) 43)) w') :
    PgP w' g b (putT t n x) (fun i => if i = n then w.heap.size else p i) (fun k => F k ∨ k = w.heap.size) := by
  have ta : Touch (fun _ => False) w (w.alloc (.cells (lnC x) 43)) := (Touch.refl _ w).alloc _
  have hgl := h.blk.lt
  have hbl := h.map.lt
  have hsz := tt.size
  simp at hsz
  have key : ∀ i y, putT t n x i = some y → i = n ∧ y = x ∨ i ≠ n ∧ t i = some y := by
    intro i y hy
    unfold putT at hy
    split at hy
    · rename_i e; injection hy with hy; exact .inl ⟨e, hy.symm⟩
    · rename_i e; exact .inr ⟨e, hy⟩
  have hold : ∀ i y, t i = some y → p i < w.heap.size := fun i y hy => h.lt _ (h.fl i y hy)
  have hok := putT_ok h.ok hn hx
  refine ⟨?_, ?_, hok, ?_, ?_, .inl h.fb, ?_, ?_, ?_, ?_⟩
  · exact tt.blk (h.blk.alloc _) (fun e => h.ng (e ▸ h.fb))
  · have h1 : MapV Try.prog 3 w' b 8 (lnP (putT t n x) (fun i => if i = n then w.heap.size else p i)) := hm.congr fun kl hkl => by
      obtain ⟨k, hki, rfl⟩ := keysI hkl
      rw [lnP_at]
      unfold setV putT
      by_cases e : k = n
      · subst e; simp
      · rw [if_neg (fun e' => e (by injection e')), if_neg e, if_neg e, lnP_at]
    exact h1.tight lawI nodes7 (ok_keys hok _)
  · intro i y hy
    rcases key i y hy with ⟨rfl, rfl⟩ | ⟨e, hy⟩
    · simp only [if_true]
      exact tt.blk (Blk.new w _ _) (by omega)
    · simp only [if_neg e]
      exact tt.blk ((h.ln i y hy).alloc _) (h.nb i y hy)
  · intro i j y z hi hj e
    rcases key i y hi with ⟨rfl, rfl⟩ | ⟨ei, hi'⟩ <;> rcases key j z hj with ⟨rfl, rfl⟩ | ⟨ej, hj'⟩
    · rfl
    · simp only [if_true, if_neg ej] at e; have := hold j z hj'; omega
    · simp only [if_true, if_neg ei] at e; have := hold i y hi'; omega
    · simp only [if_neg ei, if_neg ej] at e; exact h.inj i j y z hi' hj' e
  · intro i y hy
    rcases key i y hy with ⟨rfl, rfl⟩ | ⟨e, hy⟩
    · simp
    · simp only [if_neg e]; exact .inl (h.fl i y hy)
  · intro i y hy
    rcases key i y hy with ⟨rfl, rfl⟩ | ⟨e, hy⟩
    · simp only [if_true]; omega
    · simp only [if_neg e]; exact h.nb i y hy
  · rintro (e | e)
    · exact h.ng e
    · omega
  · rintro k (hk | rfl)
    · have := h.lt k hk; omega
    · omega
end
def preT (t : Tb) (nodes : List Int) (last j : Nat) : Tb := fun i => if 0 ≤ i ∧ i ≤ 6 ∧ i ∈ nodes.take j then some ((t i).getD ⟨0, last + 1, 0, false⟩) else keepT t nodes i
section
variable {t : Tb} {nodes : List Int} {last j : Nat}
theorem preT_0 : preT t nodes last 0 = keepT t nodes := by funext i; unfold preT; rw [if_neg (by simp)]
theorem preT_end (ok : t.Ok) : preT t nodes last nodes.length = setT t nodes last := by
  funext i
  unfold preT setT keepT
  rw [List.take_length]
  split
  · rfl
  · rename_i h
    by_cases hi : i ∈ nodes
    · rw [if_pos hi]
      cases ht : t i with
      | none => rfl
      | some x => have := ok i x ht; exact absurd ⟨this.1, this.2.1, hi⟩ h
    · rw [if_neg hi]
theorem mem_take1 {n : Int} (hj : j < nodes.length) (hn : nodes.getD j 0 = n) (i : Int) : i ∈ nodes.take (j + 1) ↔ i ∈ nodes.take j ∨ i = n := by
  rw [List.take_succ_eq_append_getElem hj]
  simp only [List.mem_append, List.mem_singleton]
  have : nodes[j] = n := by rw [← hn]; simp [hj]
  rw [this]
theorem preT_add {n : Int} (hj : j < nodes.length) (hn : nodes.getD j 0 = n) (h07 : 0 ≤ n ∧ n ≤ 6) (hp : preT t nodes last j n = none) : preT t nodes last (j + 1) = putT (preT t nodes last j) n ⟨0, last + 1, 0, false⟩ := by
  have hmem : n ∈ nodes := by rw [← hn]; exact Row.getD_mem hj
  funext i
  unfold putT
  by_cases e : i = n
  · subst e
    rw [if_pos rfl]
    have h1 : t i = none := by
      unfold preT at hp
      split at hp
      · cases hp
      · unfold keepT at hp; rw [if_pos hmem] at hp; exact hp
    unfold preT
    rw [if_pos ⟨h07.1, h07.2, (mem_take1 hj hn i).2 (.inr rfl)⟩, h1]; rfl
  · rw [if_neg e]
    unfold preT
    by_cases h : 0 ≤ i ∧ i ≤ 6 ∧ i ∈ nodes.take j
    · rw [if_pos h, if_pos ⟨h.1, h.2.1, (mem_take1 hj hn i).2 (.inl h.2.2)⟩]
    · rw [if_neg h, if_neg (fun h' => h ⟨h'.1, h'.2.1, ((mem_take1 hj hn i).1 h'.2.2).resolve_right e⟩)]
theorem preT_same {n : Int} (hj : j < nodes.length) (hn : nodes.getD j 0 = n) (h : ¬ (0 ≤ n ∧ n ≤ 6) ∨ (preT t nodes last j n).isSome = true) : preT t nodes last (j + 1) = preT t nodes last j := by
  have hmem : n ∈ nodes := by rw [← hn]; exact Row.getD_mem hj
  funext i
  by_cases e : i = n
  · subst e
    rcases h with h | h
    · unfold preT; rw [if_neg (fun h' => h ⟨h'.1, h'.2.1⟩), if_neg (fun h' => h ⟨h'.1, h'.2.1⟩)]
    · unfold preT at h ⊢
      by_cases hc : 0 ≤ i ∧ i ≤ 6 ∧ i ∈ nodes.take j
      · rw [if_pos hc, if_pos ⟨hc.1, hc.2.1, (mem_take1 hj hn i).2 (.inl hc.2.2)⟩]
      · rw [if_neg hc] at h ⊢
        by_cases hc' : 0 ≤ i ∧ i ≤ 6
        · rw [if_pos ⟨hc'.1, hc'.2, (mem_take1 hj hn i).2 (.inr rfl)⟩]
          unfold keepT at h ⊢
          rw [if_pos hmem] at h ⊢
          obtain ⟨x, hx⟩ := Option.isSome_iff_exists.1 h
          rw [hx]; rfl
        · rw [if_neg (fun h' => hc' ⟨h'.1, h'.2.1⟩)]
  · unfold preT
    by_cases h : 0 ≤ i ∧ i ≤ 6 ∧ i ∈ nodes.take j
    · rw [if_pos h, if_pos ⟨h.1, h.2.1, (mem_take1 hj hn i).2 (.inl h.2.2)⟩]
    · rw [if_neg h, if_neg (fun h' => h ⟨h'.1, h'.2.1, ((mem_take1 hj hn i).1 h'.2.2).resolve_right e⟩)]
end
def SetP (g b : Nat) (B : Bool) (t' : Tb) (F : Nat → Prop) (w : World) (e : Ending) (w' : World) : Prop := e = .returned (.bool B) ∧ ∃ F', PgAt w' g b t' F' ∧ (∀ k, F' k → F k ∨ w.heap.size ≤ k) ∧ Touch F w w'
theorem pset_any (g b : Nat) (t : Tb) (F F0 : Nat → Prop) (A : Option Addr) (c : Nat) (nodes : List Int) (last : Nat) (hl : last < 18446744073709551616) (w : World) (h : PgAt w g b t F) (hr : Rd w F0 A nodes.length (nodes.map I64)) (hF0 : ∀ k, F0 k → ¬ F k) (hsm : nodes.length ≤ 1000000) :
    Calls Try.prog 28 #[.pointer (some ⟨g, 0, none⟩), .slice A nodes.length c, .int .u64 last] w (SetP g b (setB last) (setR t nodes last) F w) := by
  have HH := Lib.hid h
  have HR := Lib.hid hr
  have HF0 := Lib.hid hF0
  have hbin : ∀ w, (binOp .eql 52 (.map (some b)) (.map none)).run Try.prog w = .ok (.bool false) w := fun w => by first | rfl | simp [go_sem]
  have hgl := h.gl
  have HTn := Lib.hid ((Touch.refl (fun _ => False) w).alloc (.cells #[.slice A nodes.length c] 23))
  have HBn := Lib.hid (Blk.new w 23 #[.slice A nodes.length c])
  have q0 := (h.blk.alloc (.cells #[.slice A nodes.length c] 23)).cell 0
  simp at q0
  clear h hr hF0
  by_cases hi : last ≤ 1152921504606846976
  · have hB : setB last = true := by simpa [setB] using hi
    have HV := Lib.hid (show setR t nodes last = setT t nodes last by rw [setR, hB]; rfl)
    rw [hB]
    have hi3 : ¬ (1152921504606846976 : Int) < last := by omega
    have hwr : IntKind.u64.wrap ((last : Int) + 1) = (last : Int) + 1 := IntWalk.u64_in _ (by omega)
    obtain ⟨p, hp⟩ := HH.out
    have hfb := hp.fb
    have hbl := hp.map.lt
    have hok := hp.ok
    have HP := Lib.hid hp
    have HD := Lib.hid (delRange_any F F0 A c nodes w.heap.size b 7 t p (w.alloc (.cells #[.slice A nodes.length c] 23)) (hp.map.touch HTn.out (fun e => e)) HBn.out (HR.out.touch HTn.out (fun _ _ e => e)) (fun e => HF0.out b e hfb) (by omega) hsm)
    have HOk := Lib.hid hok
    clear hB hp hok hi
    go_enter Try.func28, Try.ntmps28
    go_wp2_with (go_at_call 70; go_must (refine HD.out.mono ?_); rintro e w1 ⟨rfl, hm1, t1⟩
                 have HP1 := Lib.hid (PgP.keep (HP.out.touch HTn.out (fun e => e) (fun _ _ e => e)) nodes hm1 t1)
                 have HT1 := Lib.hid (show Touch F w w1 from (HTn.out.mono (fun _ _ e => e.elim)).trans t1 (fun q hq e => e ▸ hfb))
                 have HBn1 := Lib.hid (t1.blk HBn.out (by omega))
                 have c1 := HBn1.out.cell 0
                 simp at c1
                 clear hm1 t1)
    have HI := Lib.hid (show ∃ p F', PgP w1 g b (preT t nodes last 0) p F' ∧ (∀ k, F' k → F k ∨ w.heap.size ≤ k) ∧ Touch F w w1 from ⟨p, F, preT_0 (t := t) (nodes := nodes) (last := last) ▸ HP1.out, fun k hk => .inl hk, HT1.out⟩)
    clear HP1 HT1 HD HBn1 HP HTn HBn HH q0 c1
    go_loopw [8, 30] (fun _ i wr => ∃ j : Nat, j ≤ nodes.length ∧ i = .int .i64 j ∧ ∃ p F', PgP wr g b (preT t nodes last j) p F' ∧ (∀ k, F' k → F k ∨ w.heap.size ≤ k) ∧ Touch F w wr) (fun _ i _ => nodes.length - (intOf i).toNat)
    case atStart => exact ⟨0, by omega, rfl, HI.out⟩
    case round =>
      clear HI
      obtain ⟨j, hj, rfl, p, F', hP, hF, hT⟩ := hrel
      have HP := Lib.hid hP
      have HF := Lib.hid hF
      have HT := Lib.hid hT
      have hgr := hP.blk.lt
      have hbr := hP.map.lt
      clear hP hF hT
      by_cases hjk : j < nodes.length
      · obtain ⟨ga, off, rfl, hgal, hga, hc⟩ := (HR.out.touch HT.out (fun k hk e => HF0.out k hk e)).2 (by omega)
        have cj := hc j _ (get_I64 hjk)
        simp only [I64] at cj
        obtain ⟨n, hn⟩ : ∃ n, n = nodes.getD j 0 := ⟨_, rfl⟩
        rw [← hn] at cj
        have HA := Lib.hid (fun h1 h2 => preT_add (t := t) (last := last) hjk hn.symm h1 h2)
        have HS := Lib.hid (fun h1 => preT_same (t := t) (last := last) hjk hn.symm h1)
        have q0 := HP.out.blk.cell 0
        simp at q0
        clear hc hn
        have hout : ¬ (0 ≤ n ∧ n ≤ 6) → ∃ p F', PgP wr g b (preT t nodes last (j + 1)) p F' ∧ (∀ k, F' k → F k ∨ w.heap.size ≤ k) ∧ Touch F w wr := fun h => ⟨p, F', HS.out (.inl h) ▸ HP.out, HF.out, HT.out⟩
        have HO := Lib.hid hout
        clear hout
        by_cases h0 : 0 ≤ n
        · by_cases h6 : n < 7
          · have hni : inI n := ⟨by omega, by omega⟩
            have hlk := HP.out.look hni
            have hbl2 := HP.out.map.lt
            cases ht : preT t nodes last j n with
            | none =>
              rw [ht] at hlk
              simp only [Option.map_none, Option.getD_none] at hlk
              have HE := Lib.hid (HA.out ⟨h0, by omega⟩ ht)
              have HX := Lib.hid ht
              have HTl := Lib.hid ((Touch.refl (fun _ => False) wr).alloc (.cells #[.int .u64 0, .int .u64 ((last : Int) + 1), .int .u64 0, .bool false] 43))
              clear ht HA HS HO
              go_wp2_with (at_mapUpdate; refine storeV _ rfl _ _ _ _ rfl _ _ lawI Try.underlying52 b 7 _ rfl (by exact HP.out.map.touch HTl.out (fun e => e)) (by omega) _ _ _ rfl rfl (keyI hni) ?_; intro w2 hm2 t2; have HM2 := Lib.hid hm2; have HT2 := Lib.hid t2; clear hm2 t2; go_frame)
              go_roundw
              case rel =>
                refine ⟨j + 1, by omega, by go_num, _, _, HE.out ▸ HP.out.add (x := ⟨0, last + 1, 0, false⟩) ⟨h0, by omega⟩ HX.out (new_ok (by omega)) HM2.out HT2.out, ?_, ?_⟩
                · rintro k (hk | rfl)
                  · exact HF.out k hk
                  · have := HT.out.size; exact .inr (by omega)
                · exact HT.out.trans ((HTl.out.mono (fun _ _ e => e.elim)).trans HT2.out (S := fun q => q = b) (fun _ _ e => e)) (fun q hq e => e ▸ hfb)
              case measure => simp [intOf]; omega
            | some x =>
              rw [ht] at hlk
              simp only [Option.map_some, Option.getD_some] at hlk
              have HE := Lib.hid (HS.out (.inr (by rw [ht]; rfl)))
              clear ht HA HS HO
              go_wp2_with fail
              go_roundw
              case rel => exact ⟨j + 1, by omega, by go_num, p, F', HE.out ▸ HP.out, HF.out, HT.out⟩
              case measure => simp [intOf]; omega
          · have HO2 := Lib.hid (HO.out (by omega))
            clear HA HS HO
            go_wp2_with fail
            go_roundw
            case rel => exact ⟨j + 1, by omega, by go_num, HO2.out⟩
            case measure => simp [intOf]; omega
        · have HO2 := Lib.hid (HO.out (by omega))
          clear HA HS HO
          go_wp2_with fail
          go_roundw
          case rel => exact ⟨j + 1, by omega, by go_num, HO2.out⟩
          case measure => simp [intOf]; omega
      · obtain rfl : j = nodes.length := by omega
        go_wp2_with fail
        go_ret
        exact ⟨rfl, F', ⟨p, by rw [HV.out, ← preT_end (last := last) HOk.out]; exact HP.out⟩, HF.out, HT.out⟩
  · have hB : setB last = false := by simpa [setB] using hi
    have HV := Lib.hid (show setR t nodes last = t by rw [setR, hB]; rfl)
    rw [hB]
    have hi3 : (1152921504606846976 : Int) < last := by omega
    clear hi hB
    go_enter Try.func28, Try.ntmps28
    go_wp2_with fail
    go_ret
    exact ⟨rfl, F, by rw [HV.out]; exact HH.out.none_ HTn.out, fun k hk => .inl hk, HTn.out.mono (fun _ _ e => e.elim)⟩
end Go.Proofs.Ytpgakkpmpnebnaa
