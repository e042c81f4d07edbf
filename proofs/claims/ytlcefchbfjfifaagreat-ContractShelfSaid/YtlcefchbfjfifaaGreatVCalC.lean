/- Rows of spans in memory; the references of chapter 7: Right, Row. The references of chapter 7: part, Cut, Within, Len, Has, Same. The references of chapter 7: Within, Len, Has, Same. -/
import Derived.Test.YtlcefchbfjfifaaGreatProg
import Derived.Test.YtlcefchbfjfifaaGreatVArgs
import Derived.Test.YtlcefchbfjfifaaGreatVOwn
import Derived.Test.YtlcefchbfjfifaaGreatVPlan
import Derived.Test.YtlcefchbfjfifaaGreatCalM
section
namespace Go.Proofs.YtlcefchbfjfifaaGreat
open Go.RowKit Cal
set_option maxHeartbeats 4000000
set_option maxRecDepth 100000
set_option linter.unusedVariables false
attribute [local irreducible] wpPlan

def spC (s : Sp) : List Value := [.int .i64 s.f, .int .i64 s.t]
theorem sp_len (s : Sp) : (spC s).length = 2 := rfl
/-- The slice value (A, n, c) reads as these spans; its block lies in F. -/
def SpR (w : World) (F : Nat → Prop) (A : Option Addr) (n : Nat) (l : List Sp) : Prop := l.length = n ∧ RdZ w F 2 A n (l.flatMap spC)
section
variable {w w' : World} {F F' S : Nat → Prop} {A : Option Addr} {n : Nat} {l : List Sp}
theorem SpR.nil (w : World) (F : Nat → Prop) (A : Option Addr) : SpR w F A 0 [] := ⟨rfl, by simp, fun h => absurd h (by omega)⟩
theorem SpR.touch (h : SpR w F A n l) (ht : Touch S w w') (hd : ∀ k, F k → ¬ S k) : SpR w' F A n l := ⟨h.1, h.2.touch ht hd⟩
theorem SpR.mono (h : SpR w F A n l) (hF : ∀ k, F k → F' k) : SpR w F' A n l :=
  ⟨h.1, h.2.1, fun hn => by
    obtain ⟨g, off, e, hl, hf, hc⟩ := h.2.2 hn
    exact ⟨g, off, e, hl, hF g hf, hc⟩⟩
theorem SpR.at_ (h : SpR w F A n l) {i : Nat} {s : Sp} (hs : l[i]? = some s) :
    ∃ g off, A = some ⟨g, off, none⟩ ∧ g < w.heap.size ∧ F g ∧ w.cell? ⟨g, off + i * 2, none⟩ = some (.int .i64 s.f) ∧ w.cell? ⟨g, off + i * 2 + 1, none⟩ = some (.int .i64 s.t) := by
  obtain ⟨g, off, e, hg, hF, hc⟩ := h.2.at_ (fun a _ => sp_len a) h.1 hs
  exact ⟨g, off, e, hg, hF, hc 0 _ rfl, hc 1 _ rfl⟩
end

theorem fright_any (a b : Int) (w : World) : Calls Tryz.prog 131 #[.agg #[.int .i64 a, .int .i64 b]] w fun e w' => e = .returned (.bool (rightB ⟨a, b⟩)) ∧ Touch (fun _ => False) w w' := by
  have HT := Lib.hid ((Touch.refl (fun _ => False) w).alloc (.cells #[.int .i64 a, .int .i64 b] 92))
  go_enter Tryz.func131, Tryz.ntmps131
  go_wp2
  all_goals go_ret
  all_goals exact ⟨ret_bool (by simp only [rightB]; simp <;> omega), HT.out⟩
def endAt (l : List Sp) : Nat → Int
  | 0 => 0
  | k + 1 => match l[k]? with | some s => s.t | none => 0
theorem rows_drop (l : List Sp) (e : Int) (j : Nat) (s : Sp) (hs : l[j]? = some s) : rowsE e (l.drop j) = (if (!rightB s || decide (s.f < e)) = true then 2 else rowsE s.t (l.drop (j + 1))) := by
  obtain ⟨h1, h2⟩ := List.getElem?_eq_some_iff.1 hs
  rw [List.drop_eq_getElem_cons h1, h2, rowsE]
theorem endAt_succ (l : List Sp) (j : Nat) (s : Sp) (hs : l[j]? = some s) : endAt l (j + 1) = s.t := by simp only [endAt, hs]
theorem frow_any (F : Nat → Prop) (A : Option Addr) (c : Nat) (l : List Sp) (w : World) (hr : SpR w F A l.length l) (hsm : l.length ≤ 1000000) :
    Calls Tryz.prog 110 #[.slice A l.length c] w fun e w' => e = .returned (.int .i64 (rowE l)) ∧ Touch (fun _ => False) w w' := by
  have HR := Lib.hid hr
  clear hr
  by_cases hlong : 32 < l.length
  · have HV := Lib.hid (show rowE l = 21 by unfold rowE; rw [if_pos hlong])
    have hd : decide ((32 : Int) < (l.length : Int)) = true := by simp; omega
    go_enter Tryz.func110, Tryz.ntmps110
    go_wp2
    go_ret
    exact ⟨ret_int HV.out.symm, Touch.refl _ _⟩
  · have HV := Lib.hid (show rowE l = rowsE 0 l by unfold rowE; rw [if_neg hlong])
    have hd : ¬ (32 : Int) < (l.length : Int) := by omega
    go_enter Tryz.func110, Tryz.ntmps110
    go_wp2_with fail
    go_loopw [3] (fun i wr => ∃ j : Nat, j ≤ l.length ∧ i = .int .i64 j ∧ rowsE (endAt l j) (l.drop j) = rowE l ∧ Touch (fun _ => False) w wr) (fun i _ => l.length - (intOf i).toNat)
    case atStart => exact ⟨0, by omega, rfl, by rw [HV.out]; rfl, Touch.refl _ _⟩
    case round =>
      clear HV
      obtain ⟨j, hj, rfl, hv, hT⟩ := hrel
      have HV := Lib.hid hv
      have HT := Lib.hid hT
      clear hv hT
      by_cases hjk : j < l.length
      · have ha : l[j]? = some (l[j]'hjk) := List.getElem?_eq_getElem _
        obtain ⟨g, off, rfl, hg, -, hc0, hc1⟩ := (HR.out.touch HT.out (fun _ _ e => e)).at_ ha
        have HD := Lib.hid (rows_drop l (endAt l j) j _ ha)
        have HE := Lib.hid (endAt_succ l j _ ha)
        have hp : ∀ k, j = k + 1 → ∃ p : Sp, endAt l j = p.t ∧ wr.cell? ⟨g, off + k * 2 + 1, none⟩ = some (.int .i64 p.t) := by
          intro k hk
          have hb : l[k]? = some (l[k]'(by omega)) := List.getElem?_eq_getElem _
          obtain ⟨g', off', e', -, -, -, hp1⟩ := (HR.out.touch HT.out (fun _ _ e => e)).at_ hb
          injection e' with e'; injection e' with e1 e2; subst e1 e2
          subst hk
          exact ⟨_, endAt_succ l k _ hb, hp1⟩
        generalize l[j]'hjk = s at *
        obtain ⟨f, t⟩ := s
        simp only at hc0 hc1
        clear ha
        cases hb : rightB ⟨f, t⟩
        · have HB := Lib.hid hb
          have HV2 := Lib.hid (show rowE l = 2 by rw [← HV.out, HD.out, hb]; simp)
          clear hb hp
          go_wp2_with fail
          refine wp_region_plan [(0, 0), (0, 1), (0, 2), (0, 3), (2, 4), (0, 5), (0, 6), (0, 7), (0, 8), (0, 9), (0, 10), (0, 11), (0, 12), (0, 13), (0, 14), (0, 15), (0, 16), (0, 17), (0, 18), (0, 19), (0, 20), (0, 21), (0, 22), (0, 23)] (fun _ => False) (by kernel_rfl) (by kernel_rfl) (fun c a d v w h => by cases d <;> exact h) ?_
          iterate 4
            refine plan_s1 rfl (by rfl) (fun Kc hKc => ?_)
            go_simp
            first
              | (refine hKc _ ?_)
            clear hKc Kc
          refine plan_a1 rfl (by rfl) (fun Kc hKc => ?_)
          go_simp
          refine (fright_any _ _ _).mono ?_
          rintro e w1 ⟨rfl, t1⟩
          rw [HB.out]
          refine hKc _ _ ⟨t1, ?_⟩
          clear hKc Kc
          have HT2 := Lib.hid ((HT.out.drew).trans t1 (fun _ _ e => e))
          clear t1
          iterate 19
            refine plan_s rfl fun Kc hKc => ?_
            go_simp
            first
              | (refine hKc _ ?_)
            clear hKc Kc
          refine plan_done ?_
          go_wp2
          go_ret
          exact ⟨ret_int HV2.out.symm, HT2.out⟩
        · have HB := Lib.hid hb
          have hf0 : 0 ≤ f ∧ f < t := by simp [rightB] at hb; omega
          rcases j with _ | k
          · have HV2 := Lib.hid (show rowsE t (l.drop 1) = rowE l by
              rw [← HV.out, HD.out, if_neg (show ¬ (!rightB ⟨f, t⟩ || decide (f < endAt l 0)) = true from (show ¬ (!rightB ⟨f, t⟩ || decide (f < 0)) = true by rw [hb]; simp; exact hf0.1))])
            clear hb hp
            have hh : wr.drew.cell? ⟨g, off, none⟩ = some (.int .i64 f) := by simpa using hc0
            go_wp2_with fail
            refine wp_region_plan [(0, 0), (0, 1), (0, 2), (0, 3), (2, 4), (0, 5), (0, 6), (0, 7), (0, 8), (0, 9), (0, 10), (0, 11), (0, 12), (0, 13), (0, 14), (0, 15), (0, 16), (0, 17), (0, 18), (0, 19), (0, 20), (0, 21), (0, 22), (0, 23)] (fun _ => False) (by kernel_rfl) (by kernel_rfl) (fun c a d v w h => by cases d <;> exact h) ?_
            iterate 4
              refine plan_s1 rfl (by rfl) (fun Kc hKc => ?_)
              go_simp
              first
                | (refine hKc _ ?_)
              clear hKc Kc
            refine plan_a1 rfl (by rfl) (fun Kc hKc => ?_)
            go_simp
            refine (fright_any _ _ _).mono ?_
            rintro e w1 ⟨rfl, t1⟩
            rw [HB.out]
            refine hKc _ _ ⟨t1, ?_⟩
            clear hKc Kc
            have HT2 := Lib.hid ((HT.out.drew).trans t1 (fun _ _ e => e))
            clear t1
            iterate 19
              refine plan_s rfl fun Kc hKc => ?_
              go_simp
              first
                | (refine hKc _ ?_)
              clear hKc Kc
            refine plan_done ?_
            go_wp2
            go_roundw
            case rel => exact ⟨1, by omega, by go_num, by rw [HE.out]; exact HV2.out, HT2.out⟩
            case measure => simp [intOf]; omega
          · obtain ⟨p, he, hp0⟩ := hp k rfl
            obtain ⟨j, hjj⟩ : ∃ j, j = k + 1 := ⟨_, rfl⟩
            have hk : k = j - 1 := by omega
            have hj0 : 0 < j := by omega
            rw [← hjj] at HV HD HE hc0 hc1 hjk hj he ⊢
            rw [hk] at hp0
            clear hjj
            subst hk
            have hgl := hg
            have Hc0 := Lib.hid hc0
            have Hc1 := Lib.hid hp0
            have HE0 := Lib.hid he
            by_cases hfp : f < p.t
            · have HV2 := Lib.hid (show rowE l = 2 by rw [← HV.out, HD.out, hb, he]; simp [hfp])
              clear hb hp he
              go_wp2_with fail
              refine wp_region_plan [(0, 0), (0, 1), (0, 2), (0, 3), (2, 4), (0, 5), (0, 6), (0, 7), (0, 8), (0, 9), (0, 10), (0, 11), (0, 12), (0, 13), (0, 14), (0, 15), (0, 16), (0, 17), (0, 18), (0, 19), (0, 20), (0, 21), (0, 22), (0, 23)] (fun _ => False) (by kernel_rfl) (by kernel_rfl) (fun c a d v w h => by cases d <;> exact h) ?_
              iterate 4
                refine plan_s1 rfl (by rfl) (fun Kc hKc => ?_)
                go_simp
                first
                  | (refine hKc _ ?_)
                clear hKc Kc
              refine plan_a1 rfl (by rfl) (fun Kc hKc => ?_)
              go_simp
              refine (fright_any _ _ _).mono ?_
              rintro e w1 ⟨rfl, t1⟩
              rw [HB.out]
              refine hKc _ _ ⟨t1, ?_⟩
              clear hKc Kc
              have HT2 := Lib.hid ((HT.out.drew).trans t1 (fun _ _ e => e))
              have q0 : w1.cell? ⟨g, off + j * 2, none⟩ = some (.int .i64 f) := (t1.cell (p := ⟨g, off + j * 2, none⟩) hgl (fun e => e)).trans Hc0.out
              have q1 : w1.cell? ⟨g, off + (j - 1) * 2 + 1, none⟩ = some (.int .i64 p.t) := (t1.cell (p := ⟨g, off + (j - 1) * 2 + 1, none⟩) hgl (fun e => e)).trans Hc1.out
              clear t1
              have hjl : j - 1 < l.length := by omega
              have hwj : IntKind.i64.wrap ((j : Int) - 1) = ((j - 1 : Nat) : Int) := by rw [IntWalk.i64_in _ (by omega)]; omega
              iterate 19
                refine plan_s rfl fun Kc hKc => ?_
                go_simp
                first
                  | (refine hKc _ ?_)
                clear hKc Kc
              refine plan_done ?_
              clear hwj
              go_wp2
              go_ret
              exact ⟨ret_int HV2.out.symm, HT2.out⟩
            · have HV2 := Lib.hid (show rowsE t (l.drop (j + 1)) = rowE l by rw [← HV.out, HD.out, hb, he]; simp [hfp])
              clear hb hp he
              go_wp2_with fail
              refine wp_region_plan [(0, 0), (0, 1), (0, 2), (0, 3), (2, 4), (0, 5), (0, 6), (0, 7), (0, 8), (0, 9), (0, 10), (0, 11), (0, 12), (0, 13), (0, 14), (0, 15), (0, 16), (0, 17), (0, 18), (0, 19), (0, 20), (0, 21), (0, 22), (0, 23)] (fun _ => False) (by kernel_rfl) (by kernel_rfl) (fun c a d v w h => by cases d <;> exact h) ?_
              iterate 4
                refine plan_s1 rfl (by rfl) (fun Kc hKc => ?_)
                go_simp
                first
                  | (refine hKc _ ?_)
                clear hKc Kc
              refine plan_a1 rfl (by rfl) (fun Kc hKc => ?_)
              go_simp
              refine (fright_any _ _ _).mono ?_
              rintro e w1 ⟨rfl, t1⟩
              rw [HB.out]
              refine hKc _ _ ⟨t1, ?_⟩
              clear hKc Kc
              have HT2 := Lib.hid ((HT.out.drew).trans t1 (fun _ _ e => e))
              have q0 : w1.cell? ⟨g, off + j * 2, none⟩ = some (.int .i64 f) := (t1.cell (p := ⟨g, off + j * 2, none⟩) hgl (fun e => e)).trans Hc0.out
              have q1 : w1.cell? ⟨g, off + (j - 1) * 2 + 1, none⟩ = some (.int .i64 p.t) := (t1.cell (p := ⟨g, off + (j - 1) * 2 + 1, none⟩) hgl (fun e => e)).trans Hc1.out
              clear t1
              have hjl : j - 1 < l.length := by omega
              have hwj : IntKind.i64.wrap ((j : Int) - 1) = ((j - 1 : Nat) : Int) := by rw [IntWalk.i64_in _ (by omega)]; omega
              iterate 19
                refine plan_s rfl fun Kc hKc => ?_
                go_simp
                first
                  | (refine hKc _ ?_)
                clear hKc Kc
              refine plan_done ?_
              clear hwj
              go_wp2
              go_roundw
              case rel => exact ⟨j + 1, by omega, by go_num, by rw [HE.out]; exact HV2.out, HT2.out⟩
              case measure => simp [intOf]; omega
      · obtain rfl : j = l.length := by omega
        have HV2 := Lib.hid (show rowE l = 0 by rw [← HV.out, List.drop_length]; rfl)
        go_wp2
        go_ret
        exact ⟨ret_int HV2.out.symm, HT.out⟩
end Go.Proofs.YtlcefchbfjfifaaGreat
end

section
namespace Go.Proofs.YtlcefchbfjfifaaGreat
open Go.RowKit Cal
set_option maxHeartbeats 4000000
set_option maxRecDepth 100000
set_option linter.unusedVariables false
attribute [local irreducible] wpPlan

theorem Touch.realloc (W : World) (o o' : Obj) (b : Nat) (hb : b = W.heap.size) : Touch (fun q => q = b) (W.alloc o) (W.alloc o') := by
  subst hb
  refine ⟨rfl, rfl, rfl, by simp, fun k hk hn => ?_⟩
  have hk' : k < W.heap.size := by simp at hk; omega
  rw [Below.heap_alloc _ _ _ hk', Below.heap_alloc _ _ _ hk']
theorem Touch.drew_ {S : Nat → Prop} {w w' : World} (h : Touch S w w') : Touch S w.drew w'.drew := ⟨h.os, h.tape, h.output, h.size, h.block⟩
theorem infoS : (Tryz.prog.info? 92).map (fun i => (i.zero, i.size, i.bytes)) = some (some (.agg #[.int .i64 0, .int .i64 0]), 2, 16) := by kernel_rfl
/-- A new slice that reads as these spans is handed back. -/
def NewSpan (w : World) (l : List Sp) (e : Ending) (w' : World) : Prop :=
  ∃ A c, e = .returned (.slice A l.length c) ∧ l.length ≤ c ∧ c ≤ maxLen ∧ (A = none → c = 0) ∧ SpR w' (fun k => w.heap.size ≤ k) A l.length l ∧ Touch (fun _ => False) w w'
theorem cutL_take (l : List Sp) (a b : Int) (j : Nat) (s : Sp) (hs : l[j]? = some s) : cutL (l.take (j + 1)) a b = cutL (l.take j) a b ++ (if max s.f a < min s.t b then [⟨max s.f a, min s.t b⟩] else []) := by
  obtain ⟨h1, h2⟩ := List.getElem?_eq_some_iff.1 hs
  rw [List.take_succ_eq_append_getElem h1, h2, cutL_append, cutL]
  by_cases h : max s.f a < min s.t b
  · rw [if_pos h, if_pos (show (piece s a b).f < (piece s a b).t from h)]; rfl
  · rw [if_neg h, if_neg (show ¬ (piece s a b).f < (piece s a b).t from h)]; rfl
theorem Own.spR {w : World} {T : TypeId} {v : Value} {r : Option Nat} {n : Nat} {l : List Sp} {xs : List Value} (h : Own w T 2 v r n xs) (hx : xs = l.flatMap spC) (hl : l.length = n) :
    ∃ A c, v = .slice A n c ∧ n ≤ c ∧ c ≤ maxLen ∧ (A = none → c = 0) ∧ SpR w (fun k => r = some k) A n l := by
  subst hx
  rcases h.2 with ⟨hv, hn, _⟩ | ⟨g, cap, cur, hr, hv, hb, hn, hc, hs, ht⟩
  · refine ⟨none, 0, by rw [hv, hn], by omega, by simp, fun _ => rfl, hl, ?_, fun h0 => by omega⟩
    exact h.1
  · refine ⟨_, cap, hv, hn, hc, (fun e => by cases e), hl, h.1, fun hpos => ⟨g, 0, rfl, hb.lt, hr, fun j u hj => ?_⟩⟩
    rw [Nat.zero_add, hb.cell]
    rw [← ht, List.getElem?_take] at hj
    split at hj
    · simpa using hj
    · cases hj
/-- What a loop that gathers spans has. -/
def Gath (w wr : World) (v : Value) (l : List Sp) : Prop := ∃ r, Own wr 92 2 v r l.length (l.flatMap spC) ∧ (∀ k, r = some k → w.heap.size ≤ k) ∧ Touch (fun _ => False) w wr
theorem Gath.new {w wr : World} {v : Value} {l : List Sp} (h : Gath w wr v l) : NewSpan w l (.returned v) wr := by
  obtain ⟨r, ho, hr, ht⟩ := h
  obtain ⟨A, c, rfl, h1, h2, h3, h4⟩ := ho.spR rfl rfl
  exact ⟨A, c, rfl, h1, h2, h3, h4.mono hr, ht⟩
theorem Gath.next {w w1 w2 : World} {v' : Value} {r r' : Option Nat} {l : List Sp} {s : Sp} (hk : ∀ k, r = some k → w.heap.size ≤ k) (ht : Touch (fun _ => False) w w1)
    (ho : Own w2 92 2 v' r' (l.length + 1) (l.flatMap spC ++ spC s)) (h2 : Touch (fun k => r = some k) w1 w2) (hr : r' = r ∨ ∃ k, r' = some k ∧ w1.heap.size ≤ k) : Gath w w2 v' (l ++ [s]) := by
  refine ⟨r', by simpa using ho, fun k e => ?_, ht.trans h2 (fun k hk' e => by have := hk k e; omega)⟩
  rcases hr with e' | ⟨q, e', hq⟩
  · exact hk k (e'.symm.trans e)
  · rw [e'] at e; injection e with e; have := ht.size; omega
end Go.Proofs.YtlcefchbfjfifaaGreat
end

section
namespace Go.Proofs.YtlcefchbfjfifaaGreat
open Go.RowKit Cal
set_option maxHeartbeats 4000000
set_option maxRecDepth 100000
set_option linter.unusedVariables false
attribute [local irreducible] wpPlan

theorem longS_bd : ∀ (l : List Sp), (∀ s ∈ l, 0 ≤ s.f ∧ s.f < s.t ∧ s.t ≤ 1125899906842624) → 0 ≤ longS l ∧ longS l ≤ l.length * 1125899906842624
  | [], _ => by simp [longS]
  | s :: l, h => by
    have h1 := longS_bd l (fun x hx => h x (by simp [hx]))
    have h2 := h s (by simp)
    rw [longS, List.length_cons]; omega
theorem cutL_bd : ∀ (l : List Sp) (a b : Int), (∀ s ∈ l, 0 ≤ s.f ∧ s.f < s.t ∧ s.t ≤ 1125899906842624) → ∀ s ∈ cutL l a b, 0 ≤ s.f ∧ s.f < s.t ∧ s.t ≤ 1125899906842624
  | [], _, _, _, s, hs => absurd hs (by simp [cutL])
  | x :: l, a, b, h, s, hs => by
    have h2 := h x (by simp)
    rw [cutL] at hs
    split at hs
    · rename_i hc
      rcases List.mem_cons.1 hs with rfl | hs
      · simp only [piece] at hc ⊢; omega
      · exact cutL_bd l a b (fun y hy => h y (by simp [hy])) s hs
    · exact cutL_bd l a b (fun y hy => h y (by simp [hy])) s hs
theorem row_bd {l : List Sp} (h : rowE l = 0) : ∀ s ∈ l, 0 ≤ s.f ∧ s.f < s.t ∧ s.t ≤ 1125899906842624 := fun s hs => Row.mem (rowE_row h).1 s hs
theorem has_take (l : List Sp) (j : Nat) (s : Sp) (hs : l[j]? = some s) (x : Int) : hasB (l.take (j + 1)) x = (hasB (l.take j) x || (decide (s.f ≤ x) && decide (x < s.t))) := by
  have key : ∀ (a b : List Sp), hasB (a ++ b) x = (hasB a x || hasB b x) := fun a b => by
    induction a with
    | nil => simp [hasB]
    | cons y a ih => rw [List.cons_append, hasB, hasB, ih, Bool.or_assoc]
  obtain ⟨h1, h2⟩ := List.getElem?_eq_some_iff.1 hs
  rw [List.take_succ_eq_append_getElem h1, h2, key]
  simp [hasB]
theorem has_of_take (l : List Sp) (j : Nat) (x : Int) (h : hasB (l.take j) x = true) : hasB l x = true := by
  have key : ∀ (a b : List Sp), hasB (a ++ b) x = (hasB a x || hasB b x) := fun a b => by
    induction a with
    | nil => simp [hasB]
    | cons y a ih => rw [List.cons_append, hasB, hasB, ih, Bool.or_assoc]
  rw [← List.take_append_drop j l, key, h]; rfl
/-- Are two rows the same? -/
def sameL : List Sp → List Sp → Bool
  | [], [] => true
  | s :: l, u :: l' => decide (s.f = u.f) && decide (s.t = u.t) && sameL l l'
  | _, _ => false
theorem sameL_len : ∀ (a b : List Sp), sameL a b = true → a.length = b.length
  | [], [], _ => rfl
  | s :: l, u :: l', h => by
    simp only [sameL, Bool.and_eq_true] at h
    simp [sameL_len l l' h.2]
  | [], _ :: _, h => by simp [sameL] at h
  | _ :: _, [], h => by simp [sameL] at h
theorem sameL_self : ∀ (a : List Sp), sameL a a = true
  | [] => rfl
  | s :: l => by simp [sameL, sameL_self l]
theorem sameL_eq : ∀ (a b : List Sp), sameL a b = true → a = b
  | [], [], _ => rfl
  | ⟨f, t⟩ :: l, ⟨f', t'⟩ :: l', h => by
    simp only [sameL, Bool.and_eq_true, decide_eq_true_eq] at h
    obtain ⟨⟨rfl, rfl⟩, h⟩ := h
    rw [sameL_eq l l' h]
  | [], _ :: _, h => by simp [sameL] at h
  | _ :: _, [], h => by simp [sameL] at h
theorem sameL_drop (a b : List Sp) (j : Nat) (s u : Sp) (hs : a[j]? = some s) (hu : b[j]? = some u) : sameL (a.drop j) (b.drop j) = (decide (s.f = u.f) && decide (s.t = u.t) && sameL (a.drop (j + 1)) (b.drop (j + 1))) := by
  obtain ⟨h1, h2⟩ := List.getElem?_eq_some_iff.1 hs
  obtain ⟨h3, h4⟩ := List.getElem?_eq_some_iff.1 hu
  rw [List.drop_eq_getElem_cons h1, h2, List.drop_eq_getElem_cons h3, h4, sameL]
theorem fsame_any (F F' : Nat → Prop) (A A' : Option Addr) (c c' : Nat) (a b : List Sp) (w : World) (hr : SpR w F A a.length a) (hr' : SpR w F' A' b.length b) (hsm : a.length ≤ 1000000) :
    Calls Tryz.prog 97 #[.slice A a.length c, .slice A' b.length c'] w fun e w' => e = .returned (.bool (sameL a b)) ∧ Touch (fun _ => False) w w' := by
  have Hr := Lib.hid hr
  have Hr' := Lib.hid hr'
  clear hr hr'
  by_cases hlen : a.length = b.length
  · rw [← hlen] at Hr' ⊢
    have HL := Lib.hid hlen
    clear hlen
    go_enter Tryz.func97, Tryz.ntmps97
    go_wp2_with fail
    go_loopw [5] (fun i wr => ∃ j : Nat, j ≤ a.length ∧ i = .int .i64 j ∧ sameL (a.drop j) (b.drop j) = sameL a b ∧ Touch (fun _ => False) w wr) (fun i _ => a.length - (intOf i).toNat)
    case atStart => exact ⟨0, by omega, rfl, rfl, Touch.refl _ _⟩
    case round =>
      obtain ⟨j, hj, rfl, hno, hT⟩ := hrel
      have HN := Lib.hid hno
      have HT := Lib.hid hT
      clear hno hT
      by_cases hjk : j < a.length
      · have ha : a[j]? = some (a[j]'hjk) := List.getElem?_eq_getElem _
        have hb : b[j]? = some (b[j]'(by have := HL.out; omega)) := List.getElem?_eq_getElem _
        obtain ⟨g, off, rfl, hg, -, hc0, hc1⟩ := (Hr.out.touch HT.out (fun _ _ e => e)).at_ ha
        obtain ⟨g', off', rfl, hg', -, hd0, hd1⟩ := (Hr'.out.touch HT.out (fun _ _ e => e)).at_ hb
        have HE := Lib.hid (sameL_drop a b j _ _ ha hb)
        generalize a[j]'hjk = s at *
        generalize b[j]'_ = u at *
        obtain ⟨f, t⟩ := s
        obtain ⟨f', t'⟩ := u
        simp only at hc0 hc1 hd0 hd1
        clear ha hb
        by_cases h1 : f = f' ∧ t = t'
        · obtain ⟨rfl, rfl⟩ := h1
          have HV := Lib.hid (show sameL (a.drop (j + 1)) (b.drop (j + 1)) = sameL a b by rw [← HN.out, HE.out]; simp)
          go_wp2_with fail
          refine wp_region_plan [(0, 0), (0, 1), (0, 2), (0, 3), (0, 4), (0, 5), (0, 6), (0, 7), (0, 8)] (fun _ => False) (by kernel_rfl) (by kernel_rfl) (fun c a d v w h => by cases d <;> exact h) ?_
          iterate 9
            refine plan_s1 rfl (by rfl) (fun Kc hKc => ?_)
            go_simp
            first
              | (refine hKc _ ?_)
            clear hKc Kc
          refine plan_done ?_
          go_wp2
          go_roundw
          case rel => exact ⟨j + 1, by omega, by go_num, HV.out, HT.out.drew⟩
          case measure => simp [intOf]; omega
        · have HV := Lib.hid (show sameL a b = false by rw [← HN.out, HE.out]; simp; intro h2 h3; exact absurd ⟨h2, h3⟩ h1)
          by_cases hf : f = f'
          · subst hf
            have ht : ¬ t = t' := fun e => h1 ⟨rfl, e⟩
            clear h1
            go_wp2_with fail
            refine wp_region_plan [(0, 0), (0, 1), (0, 2), (0, 3), (0, 4), (0, 5), (0, 6), (0, 7), (0, 8)] (fun _ => False) (by kernel_rfl) (by kernel_rfl) (fun c a d v w h => by cases d <;> exact h) ?_
            iterate 9
              refine plan_s1 rfl (by rfl) (fun Kc hKc => ?_)
              go_simp
              first
                | (refine hKc _ ?_)
              clear hKc Kc
            refine plan_done ?_
            go_wp2
            go_ret
            exact ⟨ret_bool HV.out.symm, HT.out.drew⟩
          · clear h1
            go_wp2_with fail
            refine wp_region_plan [(0, 0), (0, 1), (0, 2), (0, 3), (0, 4), (0, 5), (0, 6), (0, 7), (0, 8)] (fun _ => False) (by kernel_rfl) (by kernel_rfl) (fun c a d v w h => by cases d <;> exact h) ?_
            iterate 9
              refine plan_s1 rfl (by rfl) (fun Kc hKc => ?_)
              go_simp
              first
                | (refine hKc _ ?_)
              clear hKc Kc
            refine plan_done ?_
            go_wp2
            go_ret
            exact ⟨ret_bool HV.out.symm, HT.out.drew⟩
      · obtain rfl : j = a.length := by omega
        have HV := Lib.hid (show sameL a b = true by rw [← HN.out, List.drop_length, HL.out, List.drop_length]; rfl)
        go_wp2
        go_ret
        exact ⟨ret_bool HV.out.symm, HT.out⟩
  · have HV := Lib.hid (show sameL a b = false by cases h : sameL a b; rfl; exact absurd (sameL_len a b h) hlen)
    go_enter Tryz.func97, Tryz.ntmps97
    have hd : ((a.length : Int) != (b.length : Int)) = true := by simp; omega
    go_wp2
    go_ret
    exact ⟨ret_bool HV.out.symm, Touch.refl _ _⟩
end Go.Proofs.YtlcefchbfjfifaaGreat
end
