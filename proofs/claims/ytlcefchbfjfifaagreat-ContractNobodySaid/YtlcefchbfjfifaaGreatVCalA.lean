/- Rows of spans in memory; the references of chapter 7: Right, Row. -/
import Derived.Test.YtlcefchbfjfifaaGreatProg
import Derived.Test.YtlcefchbfjfifaaGreatVArgs
import Derived.Test.YtlcefchbfjfifaaGreatVOwn
import Derived.Test.YtlcefchbfjfifaaGreatVPlan
import Derived.Test.YtlcefchbfjfifaaGreatCalM
namespace Go.Proofs.YtlcefchbfjfifaaGreat
open Go.RowKit Cal
set_option maxHeartbeats 4000000
set_option maxRecDepth 100000
set_option linter.unusedVariables false
attribute [local irreducible] wpPlan

def spC (s : Sp) : List Value := [.int .i64 s.f, .int .i64 s.t]
theorem sp_len (s : Sp) : (spC s).length = 2 := rfl
/-- The slice value (A, n, c) reads as these spans; its block lies in F. -/
def SpR (w : World) (F : Nat → Prop) (A : Option Addr) (n : Nat) (l : List Sp) : Prop := l.length = n ∧ RdZ w F 2 A n (l.flatMap spC)
section
variable {w w' : World} {F F' S : Nat → Prop} {A : Option Addr} {n : Nat} {l : List Sp}
theorem SpR.nil (w : World) (F : Nat → Prop) (A : Option Addr) : SpR w F A 0 [] := ⟨rfl, by simp, fun h => absurd h (by omega)⟩
theorem SpR.touch (h : SpR w F A n l) (ht : Touch S w w') (hd : ∀ k, F k → ¬ S k) : SpR w' F A n l := ⟨h.1, h.2.touch ht hd⟩
theorem SpR.mono (h : SpR w F A n l) (hF : ∀ k, F k → F' k) : SpR w F' A n l :=
  ⟨h.1, h.2.1, fun hn => by
    obtain ⟨g, off, e, hl, hf, hc⟩ := h.2.2 hn
    exact ⟨g, off, e, hl, hF g hf, hc⟩⟩
theorem SpR.at_ (h : SpR w F A n l) {i : Nat} {s : Sp} (hs : l[i]? = some s) :
    ∃ g off, A = some ⟨g, off, none⟩ ∧ g < w.heap.size ∧ F g ∧ w.cell? ⟨g, off + i * 2, none⟩ = some (.int .i64 s.f) ∧ w.cell? ⟨g, off + i * 2 + 1, none⟩ = some (.int .i64 s.t) := by
  obtain ⟨g, off, e, hg, hF, hc⟩ := h.2.at_ (fun a _ => sp_len a) h.1 hs
  exact ⟨g, off, e, hg, hF, hc 0 _ rfl, hc 1 _ rfl⟩
end

theorem fright_any (a b : Int) (w : World) : Calls Tryz.prog 131 #[.agg #[.int .i64 a, .int .i64 b]] w fun e w' => e = .returned (.bool (rightB ⟨a, b⟩)) ∧ Touch (fun _ => False) w w' := by
  have HT := Lib.hid ((Touch.refl (fun _ => False) w).alloc (.cells #[.int .i64 a, .int .i64 b] 92))
  go_enter Tryz.func131, Tryz.ntmps131
  go_wp2
  all_goals go_ret
  all_goals exact ⟨ret_bool (by simp only [rightB]; simp <;> omega), HT.out⟩
def endAt (l : List Sp) : Nat → Int
  | 0 => 0
  | k + 1 => match l[k]? with | some s => s.t | none => 0
theorem rows_drop (l : List Sp) (e : Int) (j : Nat) (s : Sp) (hs : l[j]? = some s) : rowsE e (l.drop j) = (if (!rightB s || decide (s.f < e)) = true then 2 else rowsE s.t (l.drop (j + 1))) := by
  obtain ⟨h1, h2⟩ := List.getElem?_eq_some_iff.1 hs
  rw [List.drop_eq_getElem_cons h1, h2, rowsE]
theorem endAt_succ (l : List Sp) (j : Nat) (s : Sp) (hs : l[j]? = some s) : endAt l (j + 1) = s.t := by simp only [endAt, hs]
theorem frow_any (F : Nat → Prop) (A : Option Addr) (c : Nat) (l : List Sp) (w : World) (hr : SpR w F A l.length l) (hsm : l.length ≤ 1000000) :
    Calls Tryz.prog 110 #[.slice A l.length c] w fun e w' => e = .returned (.int .i64 (rowE l)) ∧ Touch (fun _ => False) w w' := by
  have HR := Lib.hid hr
  clear hr
  by_cases hlong : 32 < l.length
  · have HV := Lib.hid (show rowE l = 21 by unfold rowE; rw [if_pos hlong])
    have hd : decide ((32 : Int) < (l.length : Int)) = true := by simp; omega
    go_enter Tryz.func110, Tryz.ntmps110
    go_wp2
    go_ret
    exact ⟨ret_int HV.out.symm, Touch.refl _ _⟩
  · have HV := Lib.hid (show rowE l = rowsE 0 l by unfold rowE; rw [if_neg hlong])
    have hd : ¬ (32 : Int) < (l.length : Int) := by omega
    go_enter Tryz.func110, Tryz.ntmps110
    go_wp2_with fail
    go_loopw [3] (fun i wr => ∃ j : Nat, j ≤ l.length ∧ i = .int .i64 j ∧ rowsE (endAt l j) (l.drop j) = rowE l ∧ Touch (fun _ => False) w wr) (fun i _ => l.length - (intOf i).toNat)
    case atStart => exact ⟨0, by omega, rfl, by rw [HV.out]; rfl, Touch.refl _ _⟩
    case round =>
      clear HV
      obtain ⟨j, hj, rfl, hv, hT⟩ := hrel
      have HV := Lib.hid hv
      have HT := Lib.hid hT
      clear hv hT
      by_cases hjk : j < l.length
      · have ha : l[j]? = some (l[j]'hjk) := List.getElem?_eq_getElem _
        obtain ⟨g, off, rfl, hg, -, hc0, hc1⟩ := (HR.out.touch HT.out (fun _ _ e => e)).at_ ha
        have HD := Lib.hid (rows_drop l (endAt l j) j _ ha)
        have HE := Lib.hid (endAt_succ l j _ ha)
        have hp : ∀ k, j = k + 1 → ∃ p : Sp, endAt l j = p.t ∧ wr.cell? ⟨g, off + k * 2 + 1, none⟩ = some (.int .i64 p.t) := by
          intro k hk
          have hb : l[k]? = some (l[k]'(by omega)) := List.getElem?_eq_getElem _
          obtain ⟨g', off', e', -, -, -, hp1⟩ := (HR.out.touch HT.out (fun _ _ e => e)).at_ hb
          injection e' with e'; injection e' with e1 e2; subst e1 e2
          subst hk
          exact ⟨_, endAt_succ l k _ hb, hp1⟩
        generalize l[j]'hjk = s at *
        obtain ⟨f, t⟩ := s
        simp only at hc0 hc1
        clear ha
        cases hb : rightB ⟨f, t⟩
        · have HB := Lib.hid hb
          have HV2 := Lib.hid (show rowE l = 2 by rw [← HV.out, HD.out, hb]; simp)
          clear hb hp
          go_wp2_with fail
          refine wp_region_plan [(0, 0), (0, 1), (0, 2), (0, 3), (2, 4), (0, 5), (0, 6), (0, 7), (0, 8), (0, 9), (0, 10), (0, 11), (0, 12), (0, 13), (0, 14), (0, 15), (0, 16), (0, 17), (0, 18), (0, 19), (0, 20), (0, 21), (0, 22), (0, 23)] (fun _ => False) (by kernel_rfl) (by kernel_rfl) (fun c a d v w h => by cases d <;> exact h) ?_
          iterate 4
            refine plan_s1 rfl (by rfl) (fun Kc hKc => ?_)
            go_simp
            first
              | (refine hKc _ ?_)
            clear hKc Kc
          refine plan_a1 rfl (by rfl) (fun Kc hKc => ?_)
          go_simp
          refine (fright_any _ _ _).mono ?_
          rintro e w1 ⟨rfl, t1⟩
          rw [HB.out]
          refine hKc _ _ ⟨t1, ?_⟩
          clear hKc Kc
          have HT2 := Lib.hid ((HT.out.drew).trans t1 (fun _ _ e => e))
          clear t1
          iterate 19
            refine plan_s rfl fun Kc hKc => ?_
            go_simp
            first
              | (refine hKc _ ?_)
            clear hKc Kc
          refine plan_done ?_
          go_wp2
          go_ret
          exact ⟨ret_int HV2.out.symm, HT2.out⟩
        · have HB := Lib.hid hb
          have hf0 : 0 ≤ f ∧ f < t := by simp [rightB] at hb; omega
          rcases j with _ | k
          · have HV2 := Lib.hid (show rowsE t (l.drop 1) = rowE l by
              rw [← HV.out, HD.out, if_neg (show ¬ (!rightB ⟨f, t⟩ || decide (f < endAt l 0)) = true from (show ¬ (!rightB ⟨f, t⟩ || decide (f < 0)) = true by rw [hb]; simp; exact hf0.1))])
            clear hb hp
            have hh : wr.drew.cell? ⟨g, off, none⟩ = some (.int .i64 f) := by simpa using hc0
            go_wp2_with fail
            refine wp_region_plan [(0, 0), (0, 1), (0, 2), (0, 3), (2, 4), (0, 5), (0, 6), (0, 7), (0, 8), (0, 9), (0, 10), (0, 11), (0, 12), (0, 13), (0, 14), (0, 15), (0, 16), (0, 17), (0, 18), (0, 19), (0, 20), (0, 21), (0, 22), (0, 23)] (fun _ => False) (by kernel_rfl) (by kernel_rfl) (fun c a d v w h => by cases d <;> exact h) ?_
            iterate 4
              refine plan_s1 rfl (by rfl) (fun Kc hKc => ?_)
              go_simp
              first
                | (refine hKc _ ?_)
              clear hKc Kc
            refine plan_a1 rfl (by rfl) (fun Kc hKc => ?_)
            go_simp
            refine (fright_any _ _ _).mono ?_
            rintro e w1 ⟨rfl, t1⟩
            rw [HB.out]
            refine hKc _ _ ⟨t1, ?_⟩
            clear hKc Kc
            have HT2 := Lib.hid ((HT.out.drew).trans t1 (fun _ _ e => e))
            clear t1
            iterate 19
              refine plan_s rfl fun Kc hKc => ?_
              go_simp
              first
                | (refine hKc _ ?_)
              clear hKc Kc
            refine plan_done ?_
            go_wp2
            go_roundw
            case rel => exact ⟨1, by omega, by go_num, by rw [HE.out]; exact HV2.out, HT2.out⟩
            case measure => simp [intOf]; omega
          · obtain ⟨p, he, hp0⟩ := hp k rfl
            obtain ⟨j, hjj⟩ : ∃ j, j = k + 1 := ⟨_, rfl⟩
            have hk : k = j - 1 := by omega
            have hj0 : 0 < j := by omega
            rw [← hjj] at HV HD HE hc0 hc1 hjk hj he ⊢
            rw [hk] at hp0
            clear hjj
            subst hk
            have hgl := hg
            have Hc0 := Lib.hid hc0
            have Hc1 := Lib.hid hp0
            have HE0 := Lib.hid he
            by_cases hfp : f < p.t
            · have HV2 := Lib.hid (show rowE l = 2 by rw [← HV.out, HD.out, hb, he]; simp [hfp])
              clear hb hp he
              go_wp2_with fail
              refine wp_region_plan [(0, 0), (0, 1), (0, 2), (0, 3), (2, 4), (0, 5), (0, 6), (0, 7), (0, 8), (0, 9), (0, 10), (0, 11), (0, 12), (0, 13), (0, 14), (0, 15), (0, 16), (0, 17), (0, 18), (0, 19), (0, 20), (0, 21), (0, 22), (0, 23)] (fun _ => False) (by kernel_rfl) (by kernel_rfl) (fun c a d v w h => by cases d <;> exact h) ?_
              iterate 4
                refine plan_s1 rfl (by rfl) (fun Kc hKc => ?_)
                go_simp
                first
                  | (refine hKc _ ?_)
                clear hKc Kc
              refine plan_a1 rfl (by rfl) (fun Kc hKc => ?_)
              go_simp
              refine (fright_any _ _ _).mono ?_
              rintro e w1 ⟨rfl, t1⟩
              rw [HB.out]
              refine hKc _ _ ⟨t1, ?_⟩
              clear hKc Kc
              have HT2 := Lib.hid ((HT.out.drew).trans t1 (fun _ _ e => e))
              have q0 : w1.cell? ⟨g, off + j * 2, none⟩ = some (.int .i64 f) := (t1.cell (p := ⟨g, off + j * 2, none⟩) hgl (fun e => e)).trans Hc0.out
              have q1 : w1.cell? ⟨g, off + (j - 1) * 2 + 1, none⟩ = some (.int .i64 p.t) := (t1.cell (p := ⟨g, off + (j - 1) * 2 + 1, none⟩) hgl (fun e => e)).trans Hc1.out
              clear t1
              have hjl : j - 1 < l.length := by omega
              have hwj : IntKind.i64.wrap ((j : Int) - 1) = ((j - 1 : Nat) : Int) := by rw [IntWalk.i64_in _ (by omega)]; omega
              iterate 19
                refine plan_s rfl fun Kc hKc => ?_
                go_simp
                first
                  | (refine hKc _ ?_)
                clear hKc Kc
              refine plan_done ?_
              clear hwj
              go_wp2
              go_ret
              exact ⟨ret_int HV2.out.symm, HT2.out⟩
            · have HV2 := Lib.hid (show rowsE t (l.drop (j + 1)) = rowE l by rw [← HV.out, HD.out, hb, he]; simp [hfp])
              clear hb hp he
              go_wp2_with fail
              refine wp_region_plan [(0, 0), (0, 1), (0, 2), (0, 3), (2, 4), (0, 5), (0, 6), (0, 7), (0, 8), (0, 9), (0, 10), (0, 11), (0, 12), (0, 13), (0, 14), (0, 15), (0, 16), (0, 17), (0, 18), (0, 19), (0, 20), (0, 21), (0, 22), (0, 23)] (fun _ => False) (by kernel_rfl) (by kernel_rfl) (fun c a d v w h => by cases d <;> exact h) ?_
              iterate 4
                refine plan_s1 rfl (by rfl) (fun Kc hKc => ?_)
                go_simp
                first
                  | (refine hKc _ ?_)
                clear hKc Kc
              refine plan_a1 rfl (by rfl) (fun Kc hKc => ?_)
              go_simp
              refine (fright_any _ _ _).mono ?_
              rintro e w1 ⟨rfl, t1⟩
              rw [HB.out]
              refine hKc _ _ ⟨t1, ?_⟩
              clear hKc Kc
              have HT2 := Lib.hid ((HT.out.drew).trans t1 (fun _ _ e => e))
              have q0 : w1.cell? ⟨g, off + j * 2, none⟩ = some (.int .i64 f) := (t1.cell (p := ⟨g, off + j * 2, none⟩) hgl (fun e => e)).trans Hc0.out
              have q1 : w1.cell? ⟨g, off + (j - 1) * 2 + 1, none⟩ = some (.int .i64 p.t) := (t1.cell (p := ⟨g, off + (j - 1) * 2 + 1, none⟩) hgl (fun e => e)).trans Hc1.out
              clear t1
              have hjl : j - 1 < l.length := by omega
              have hwj : IntKind.i64.wrap ((j : Int) - 1) = ((j - 1 : Nat) : Int) := by rw [IntWalk.i64_in _ (by omega)]; omega
              iterate 19
                refine plan_s rfl fun Kc hKc => ?_
                go_simp
                first
                  | (refine hKc _ ?_)
                clear hKc Kc
              refine plan_done ?_
              clear hwj
              go_wp2
              go_roundw
              case rel => exact ⟨j + 1, by omega, by go_num, by rw [HE.out]; exact HV2.out, HT2.out⟩
              case measure => simp [intOf]; omega
      · obtain rfl : j = l.length := by omega
        have HV2 := Lib.hid (show rowE l = 0 by rw [← HV.out, List.drop_length]; rfl)
        go_wp2
        go_ret
        exact ⟨ret_int HV2.out.symm, HT.out⟩
end Go.Proofs.YtlcefchbfjfifaaGreat
