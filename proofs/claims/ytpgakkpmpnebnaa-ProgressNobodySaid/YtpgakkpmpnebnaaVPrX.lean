/- The reference's progress: Set. -/
import Derived.Test.YtpgakkpmpnebnaaVPrU
import Derived.Test.YtpgakkpmpnebnaaVMemB
namespace Go.Proofs.Ytpgakkpmpnebnaa
open Go.RowKit Prg
set_option maxHeartbeats 4000000
set_option maxRecDepth 100000
set_option linter.unusedVariables false

theorem refA_line (h : Nat → Bool) (l : Nat → Ln) {n : Nat} (hn : n < 7) (x : Ln) : setAll (refA h l) (7 + n * 4) (lnC x).toList = refA h (updL l n x) := by
  rcases lt7 hn with rfl | rfl | rfl | rfl | rfl | rfl | rfl <;> rfl
/-- A table half set. -/
def midT (t t' : Tb) (j : Nat) : Tb := fun i => if i < (j : Int) then t' i else t i
theorem midT_ok {t t' : Tb} (h : t.Ok) (h' : t'.Ok) (j : Nat) : (midT t t' j).Ok := by
  intro i x hx
  unfold midT at hx
  split at hx
  · exact h' i x hx
  · exact h i x hx
theorem midT_0 {t t' : Tb} : refT (midT t t' 0) = refT t := by
  refine refA_congr (fun i _ => ?_) (fun i _ => ?_)
  · simp only [hasN, midT]; rw [if_neg (by omega)]
  · simp only [linN, midT]; rw [if_neg (by omega)]
theorem midT_7 {t t' : Tb} : refT (midT t t' 7) = refT t' := by
  refine refA_congr (fun i _ => ?_) (fun i _ => ?_)
  · simp only [hasN, midT]; rw [if_pos (by omega)]
  · simp only [linN, midT]; rw [if_pos (by omega)]
theorem midT_has {t t' : Tb} (j : Nat) (hj : j < 7) : (refT (midT t t' j))[j]? = some (.bool (t j).isSome) := by
  rw [refT, refA_h _ _ hj]; simp only [hasN, midT]; rw [if_neg (by omega)]
theorem midT_step {t t' : Tb} (j : Nat) (hj : j < 7) (x : Ln) (hx : (t' j).getD Ln.z = x) : refA (updB (hasN (midT t t' j)) j (t' j).isSome) (updL (linN (midT t t' j)) j x) = refT (midT t t' (j + 1)) := by
  refine refA_congr (fun i _ => ?_) (fun i _ => ?_)
  · simp only [hasN, midT, updB]
    by_cases e : i = j
    · subst e; rw [if_pos rfl, if_pos (by omega)]
    · rw [if_neg e]
      by_cases h : (i : Int) < j
      · rw [if_pos h, if_pos (by omega)]
      · rw [if_neg h, if_neg (by omega)]
  · simp only [linN, midT, updL]
    by_cases e : i = j
    · subst e; rw [if_pos rfl, if_pos (by omega), hx]
    · rw [if_neg e]
      by_cases h : (i : Int) < j
      · rw [if_pos h, if_pos (by omega)]
      · rw [if_neg h, if_neg (by omega)]
section
variable {t : Tb} {nodes : List Int} {last j : Nat}
theorem setT_at (hj : j < 7) : (setT t nodes last j) = if nodes.contains (j : Int) then some ((t j).getD ⟨0, last + 1, 0, false⟩) else none := by
  unfold setT
  by_cases h : (j : Int) ∈ nodes
  · rw [if_pos ⟨by omega, by omega, h⟩, if_pos (by simpa using h)]
  · rw [if_neg (fun e => h e.2.2), if_neg (by simpa using h)]
/-- Nothing turns; a line goes; a line comes. -/
theorem set_same (hj : j < 7) (h : nodes.contains (j : Int) = (t j).isSome) : (refT (midT t (setT t nodes last) j)).setIfInBounds j (.bool (t j).isSome) = refT (midT t (setT t nodes last) (j + 1)) := by
  have e : setT t nodes last j = t j := by
    rw [setT_at hj, h]
    cases t j <;> rfl
  have := midT_step (t := t) (t' := setT t nodes last) j hj _ rfl
  rw [e] at this
  rw [← this, refT, refA_seth _ _ hj]
  refine refA_congr (fun i _ => rfl) (fun i _ => ?_)
  simp only [updL, linN, midT]
  by_cases e' : i = j
  · subst e'; rw [if_pos rfl, if_neg (by omega)]
  · rw [if_neg e']
theorem set_gone (hj : j < 7) (h : nodes.contains (j : Int) = false) : (setAll (refT (midT t (setT t nodes last) j)) (7 + j * 4) (lnC Ln.z).toList).setIfInBounds j (.bool false) = refT (midT t (setT t nodes last) (j + 1)) := by
  have e : setT t nodes last j = none := by rw [setT_at hj, h]; rfl
  have := midT_step (t := t) (t' := setT t nodes last) j hj Ln.z (by rw [e]; rfl)
  rw [e] at this
  rw [← this, refT, refA_line _ _ hj, refA_seth _ _ hj]; rfl
theorem set_come (hj : j < 7) (h : nodes.contains (j : Int) = true) (hs : (t j).isSome = false) : ((setAll (refT (midT t (setT t nodes last) j)) (7 + j * 4) (lnC Ln.z).toList).setIfInBounds (7 + j * 4 + 1) (.int .u64 ((last + 1 : Nat) : Int))).setIfInBounds j (.bool true) = refT (midT t (setT t nodes last) (j + 1)) := by
  have ht : t j = none := by cases ht : t j with | none => rfl | some x => rw [ht] at hs; cases hs
  have e : setT t nodes last j = some ⟨0, last + 1, 0, false⟩ := by rw [setT_at hj, h, ht]; rfl
  have := midT_step (t := t) (t' := setT t nodes last) j hj ⟨0, last + 1, 0, false⟩ (by rw [e]; rfl)
  rw [e] at this
  rw [← this, refT, refA_line _ _ hj, refA_setn _ _ hj, refA_seth _ _ hj, updL_twice, updL_self]; rfl
end
def setB (last : Nat) : Bool := decide (last ≤ 1152921504606846976)
def setR (t : Tb) (nodes : List Int) (last : Nat) : Tb := if setB last then setT t nodes last else t
theorem setR_ok {t : Tb} (h : t.Ok) (nodes : List Int) (last : Nat) : (setR t nodes last).Ok := by
  unfold setR; split
  · rename_i e; exact setT_ok h nodes (by simpa [setB] using e)
  · exact h
theorem fset_any (F : Nat → Prop) (A : Option Addr) (c : Nat) (nodes : List Int) (t : Tb) (ok : t.Ok) (last : Nat) (hl : last < 18446744073709551616) (w : World) (hr : Rd w F A nodes.length (nodes.map I64)) (hsm : nodes.length ≤ 1000000) :
    Calls Try.prog 19 #[.agg (refT t), .slice A nodes.length c, .int .u64 last] w (ROp (setR t nodes last) (setB last) w) := by
  have HW := Lib.hid (TbW.new w (refT t))
  have HN := Lib.hid (refT_size t)
  have H1 := Lib.hid (refT_one t)
  have HR := Lib.hid hr
  unfold ROp
  clear hr ok
  by_cases hi : last ≤ 1152921504606846976
  · have HV := Lib.hid (show setR t nodes last = setT t nodes last ∧ setB last = true from have this : setB last = true := by simpa [setB] using hi
      ⟨by rw [setR, this]; rfl, this⟩)
    rw [HV.out.1, HV.out.2]
    have HW0 := Lib.hid (show TbW w _ (refT (midT t (setT t nodes last) 0)) from midT_0 (t := t) (t' := setT t nodes last) ▸ HW.out)
    clear HV HW HN H1
    have hi3 : ¬ (1152921504606846976 : Int) < last := by omega
    have hwr : IntKind.u64.wrap ((last : Int) + 1) = (last : Int) + 1 := IntWalk.u64_in _ (by omega)
    go_enter Try.func19, Try.ntmps19
    go_wp2_with fail
    go_loopw [8, 9] (fun i _ wr => ∃ j : Nat, j ≤ 7 ∧ i = .int .i64 j ∧ TbW w wr (refT (midT t (setT t nodes last) j))) (fun i _ _ => 7 - (intOf i).toNat)
    case atStart => exact ⟨0, by omega, rfl, HW0.out⟩
    case round =>
      clear HW0
      obtain ⟨j, hj, rfl, hW⟩ := hrel
      have HW := Lib.hid hW
      clear hW
      have HN := Lib.hid (refT_size (midT t (setT t nodes last) j))
      by_cases hj7 : j < 7
      · have HD1 := Lib.hid (fun h => set_same (t := t) (nodes := nodes) (last := last) hj7 h)
        have HD2 := Lib.hid (fun h => set_gone (t := t) (nodes := nodes) (last := last) hj7 h)
        have HD3 := Lib.hid (fun h1 h2 => set_come (t := t) (nodes := nodes) (last := last) hj7 h1 h2)
        have HH := Lib.hid (midT_has (t := t) (t' := setT t nodes last) j hj7)
        have HHas := Lib.hid (rhas_any F A c nodes (j : Int) wr (HR.out.touch HW.out.t (fun _ _ e => e)) (by omega))
        obtain ⟨D, hDe⟩ : ∃ D, D = refT (midT t (setT t nodes last) (j + 1)) := ⟨_, rfl⟩
        rw [← hDe] at HD1 HD2 HD3
        have HDe := Lib.hid hDe
        clear hDe
        generalize refT (midT t (setT t nodes last) j) = C at *
        generalize (t (j : Int)).isSome = hb at *
        generalize nodes.contains (j : Int) = wb at *
        have cj := HW.out.b.cell j
        rw [HH.out] at cj
        have fj := HW.out.b.frozen j
        by_cases he : wb = hb
        · subst he
          have HB := Lib.hid (HD1.out rfl ▸ HW.out.b.set_ j (.bool wb))
          have hbe : (wb != wb) = false := by cases wb <;> rfl
          clear HD1 HD2 HD3
          go_wp2_with (go_at_call 61; go_must (refine HHas.out.mono ?_); rintro e w1 ⟨rfl, rfl⟩)
          go_roundw
          case rel => exact ⟨j + 1, by omega, by go_num, HW.out.own ((Touch.refl (fun q => q = w.heap.size) wr).set (fun _ => rfl) _) (HDe.out ▸ HB.out)⟩
          case measure => simp [intOf]; omega
        · have hlt := HW.out.lt
          cases wb
          · obtain rfl : hb = true := by cases hb <;> simp_all
            have HD := Lib.hid (HD2.out rfl)
            clear HD1 HD2 HD3 he
            obtain ⟨E, hE⟩ : ∃ E, E = setAll C (7 + j * 4) (lnC Ln.z).toList := ⟨_, rfl⟩
            have HE := Lib.hid (show setAll C (7 + j * 4) [.int .u64 0, .int .u64 0, .int .u64 0, .bool false] = E from hE.symm)
            have HEn := Lib.hid (show E.size = 35 by rw [hE, setAll_size]; exact HN.out)
            rw [← hE] at HD
            clear hE
            go_wp2_with (first
              | (go_at_call 61; go_must (refine HHas.out.mono ?_); rintro e w1 ⟨rfl, rfl⟩)
              | (refine buildZ builtLn rfl rfl ?_)
              | ((with_reducible apply TbW.put (L := #[.int .u64 0, .int .u64 0, .int .u64 0, .bool false]) HW.out HN.out j hj7 rfl zLn_one HE.out); exact rfl; exact rfl; exact rfl; exact rfl; intro w3 hw3 t3
                 have HW3 := Lib.hid hw3
                 have HT3 := Lib.hid t3
                 have c3 := hw3.b.cell j
                 have f3 := hw3.b.frozen j
                 rw [Array.getElem?_eq_getElem (by rw [HEn.out]; omega)] at c3
                 clear hw3 t3))
            have HB := Lib.hid (HD.out ▸ HW3.out.b.set_ j (.bool false))
            go_roundw
            case rel => exact ⟨j + 1, by omega, by go_num, HW3.out.own ((Touch.refl (fun q => q = w.heap.size) w3).set (fun _ => rfl) _) (HDe.out ▸ HB.out)⟩
            case measure => simp [intOf]; omega
          · obtain rfl : hb = false := by cases hb <;> simp_all
            have HD := Lib.hid (HD3.out rfl rfl)
            clear HD1 HD2 HD3 he
            obtain ⟨E, hE⟩ : ∃ E, E = setAll C (7 + j * 4) (lnC Ln.z).toList := ⟨_, rfl⟩
            have HE := Lib.hid (show setAll C (7 + j * 4) [.int .u64 0, .int .u64 0, .int .u64 0, .bool false] = E from hE.symm)
            have HEn := Lib.hid (show E.size = 35 by rw [hE, setAll_size]; exact HN.out)
            rw [← hE] at HD
            have HD' := Lib.hid (show (E.setIfInBounds (7 + j * 4 + 1) (.int .u64 ((last : Int) + 1))).setIfInBounds j (.bool true) = D from HD.out)
            clear hE HD
            go_wp2_with (first
              | (go_at_call 61; go_must (refine HHas.out.mono ?_); rintro e w1 ⟨rfl, rfl⟩)
              | (refine buildZ builtLn rfl rfl ?_)
              | ((with_reducible apply TbW.put (L := #[.int .u64 0, .int .u64 0, .int .u64 0, .bool false]) HW.out HN.out j hj7 rfl zLn_one HE.out); exact rfl; exact rfl; exact rfl; exact rfl; intro w3 hw3 t3
                 have HW3 := Lib.hid hw3
                 have HT3 := Lib.hid t3
                 have c3 := hw3.b.cell j
                 have f3 := hw3.b.frozen j
                 have c4 := hw3.b.cell (7 + j * 4 + 1)
                 have f4 := hw3.b.frozen (7 + j * 4 + 1)
                 rw [Array.getElem?_eq_getElem (by rw [HEn.out]; omega)] at c3 c4
                 have hne : ¬ j = 7 + j * 4 + 1 := by omega
                 have hne' : ¬ 7 + j * 4 + 1 = j := by omega
                 clear hw3 t3))
            have HB := Lib.hid (HD'.out ▸ (HW3.out.b.set_ (7 + j * 4 + 1) (.int .u64 ((last : Int) + 1))).set_ j (.bool true))
            go_roundw
            case rel => exact ⟨j + 1, by omega, by go_num, HW3.out.own (((Touch.refl (fun q => q = w.heap.size) w3).set (fun _ => rfl) _).set (fun _ => rfl) _) (HDe.out ▸ HB.out)⟩
            case measure => simp [intOf]; omega
      · obtain rfl : j = 7 := by omega
        have HW7 := Lib.hid (show TbW w wr (refT (setT t nodes last)) from midT_7 (t := t) (t' := setT t nodes last) ▸ HW.out)
        have HN7 := Lib.hid (refT_size (setT t nodes last))
        have H17 := Lib.hid (refT_one (setT t nodes last))
        obtain ⟨D, hDe⟩ : ∃ D, D = refT (setT t nodes last) := ⟨_, rfl⟩
        rw [← hDe] at HW7 HN7 H17
        have HDe := Lib.hid hDe
        clear HW HN hDe
        go_wp2_with (first
          | ((with_reducible apply HW7.out.load HN7.out); exact rfl; exact rfl; exact rfl)
          | ((with_reducible apply HW7.out.store HN7.out H17.out); exact rfl; exact rfl; exact rfl; exact rfl; intro w2 hb2 t2; have HB2 := Lib.hid hb2; have HT2 := Lib.hid t2; clear hb2 t2))
        exact bodyPost_ret (results_cell2 6 7 rowTb HN7.out (HB2.out.whole) rfl rfl) rfl ⟨by rw [HDe.out]; rfl, HT2.out⟩
  · have HV := Lib.hid (show setR t nodes last = t ∧ setB last = false from have this : setB last = false := by simpa [setB] using hi
      ⟨by rw [setR, this]; rfl, this⟩)
    rw [HV.out.1, HV.out.2]
    have hi3 : (1152921504606846976 : Int) < last := by omega
    generalize refT t = C at *
    clear HV hi
    go_enter Try.func19, Try.ntmps19
    go_wp2_with (first
      | ((with_reducible apply HW.out.load HN.out); exact rfl; exact rfl; exact rfl)
      | ((with_reducible apply HW.out.store HN.out H1.out); exact rfl; exact rfl; exact rfl; exact rfl; intro w2 hb2 t2; have HB2 := Lib.hid hb2; have HT2 := Lib.hid t2; clear hb2 t2))
    exact bodyPost_ret (results_cell2 6 7 rowTb HN.out (HB2.out.whole) rfl rfl) rfl ⟨rfl, HT2.out⟩
end Go.Proofs.Ytpgakkpmpnebnaa
