/- The reference's progress: Live. -/
import Derived.Test.YtpgakkpmpnebnaaVPrY
import Derived.Test.YtpgakkpmpnebnaaVMemI
namespace Go.Proofs.Ytpgakkpmpnebnaa
open Go.RowKit Prg
set_option maxHeartbeats 4000000
set_option maxRecDepth 100000
set_option linter.unusedVariables false
attribute [local irreducible] wpPlan

def liveB (t : Tb) (members : List Int) (self : Int) : Bool := Row.soundB members && decide (members.length < 2 * members.countP (fun x => x == self || (lineV t x).a))
def liveP (t : Tb) (self : Int) (i : Nat) : Bool := (i : Int) == self || (hasN t i && (linN t i).a)
theorem liveP_at (t : Tb) (self : Int) (i : Nat) : liveP t self i = ((i : Int) == self || (lineV t i).a) := by
  unfold liveP lineV hasN linN
  cases t (i : Int) <;> simp [Ln.z]
theorem live_ref (t : Tb) (members : List Int) (self : Int) : (Row.soundB members && decide (members.length < 2 * members.countP (fun x => (Row.rowOf (liveP t self)).contains x))) = liveB t members self := by
  unfold liveB
  cases hs : Row.soundB members
  · rfl
  · have hin := ((Row.sound_iff members).1 hs).2.2
    have : members.countP (fun x => (Row.rowOf (liveP t self)).contains x) = members.countP (fun x => x == self || (lineV t x).a) := by
      refine List.countP_congr fun x hx => ?_
      obtain ⟨h0, h7⟩ := hin x hx
      obtain ⟨i, rfl⟩ := Int.eq_ofNat_of_zero_le h0
      have hi : i < 7 := by omega
      rw [← liveP_at t self i]
      have : (Row.rowOf (liveP t self)).contains (i : Int) = liveP t self i := by
        rw [Bool.eq_iff_iff, List.contains_iff_mem]
        simp only [Row.rowOf, List.mem_map, List.mem_filter, List.mem_range]
        constructor
        · rintro ⟨k, ⟨_, h2⟩, h3⟩; have : k = i := by omega
          subst this; exact h2
        · intro h; exact ⟨i, ⟨hi, h⟩, rfl⟩
      rw [this]
    rw [this]
theorem calm_step (t : Tb) (j : Nat) (hj : j < 7) : (refT (midT t (calmT t) j)).setIfInBounds (7 + j * 4 + 3) (.bool false) = refT (midT t (calmT t) (j + 1)) := by
  have := midT_step (t := t) (t' := calmT t) j hj _ rfl
  rw [← this, refT, refA_seta _ _ hj]
  refine refA_congr (fun i _ => ?_) (fun i _ => ?_)
  · simp only [updB, hasN, midT, calmT]
    by_cases e : i = j
    · subst e; rw [if_pos rfl, if_neg (by omega)]; cases t (i : Int) <;> rfl
    · rw [if_neg e]
  · simp only [updL, linN, midT, calmT]
    by_cases e : i = j
    · subst e; rw [if_pos rfl, if_pos rfl, if_neg (by omega)]; cases t (i : Int) <;> rfl
    · rw [if_neg e, if_neg e]
theorem mid_act (t : Tb) (j : Nat) (hj : j < 7) : (refT (midT t (calmT t) j))[7 + j * 4 + 3]? = some (.bool (linN t j).a) := by
  rw [refT, refA_a _ _ hj]; simp only [linN, midT]; rw [if_neg (by omega)]
theorem flive_any (F : Nat → Prop) (A : Option Addr) (c : Nat) (members : List Int) (t : Tb) (self : Int) (hse : inI self) (w : World) (hr : Rd w F A members.length (members.map I64)) (hsm : members.length ≤ 1000000) :
    Calls Try.prog 56 #[.agg (refT t), .slice A members.length c, .int .i64 self] w (ROp (calmT t) (liveB t members self) w) := by
  obtain ⟨i0, hi, hz0, hz1, hz2⟩ := info_parts infoI
  have HR := Lib.hid hr
  unfold ROp
  have HW0 := Lib.hid (show TbW w _ (refT (midT t (calmT t) 0)) from midT_0 (t := t) (t' := calmT t) ▸ TbW.new w (refT t))
  clear hr
  go_enter Try.func56, Try.ntmps56
  go_wp2_with fail
  go_loopw [8, 9] (fun v i wr => ∃ j : Nat, j ≤ 7 ∧ i = .int .i64 j ∧ (∃ r, Own wr 3 1 v r (Row.rowK (liveP t self) j).length ((Row.rowK (liveP t self) j).map I64) ∧ ∀ k, r = some k → w.heap.size + 1 < k) ∧ TbW w wr (refT (midT t (calmT t) j))) (fun _ i _ => 7 - (intOf i).toNat)
  case atStart => exact ⟨0, by omega, rfl, ⟨none, Own.nil _ _ _, fun k e => by cases e⟩, HW0.out⟩
  case round =>
    clear HW0
    obtain ⟨j, hj, rfl, ⟨r, ho, hrk⟩, hW⟩ := hrel
    obtain ⟨A0, c0, rfl, -, -⟩ := ho.form
    have HO := Lib.hid ho
    have HRk := Lib.hid hrk
    have HW := Lib.hid hW
    clear ho hrk hW
    by_cases hjk : j < 7
    · have hU := Row.rowK_succ (liveP t self) j
      have hol := Row.rowK_len (liveP t self) j
      have HD := Lib.hid (calm_step t j hjk)
      have HH := Lib.hid (midT_has (t := t) (t' := calmT t) j hjk)
      have HAc := Lib.hid (mid_act t j hjk)
      obtain ⟨D, hDe⟩ : ∃ D, D = refT (midT t (calmT t) (j + 1)) := ⟨_, rfl⟩
      rw [← hDe] at HD
      have HDe := Lib.hid hDe
      clear hDe
      have hlt := HW.out.lt
      have hb := HW.out.b
      generalize refT (midT t (calmT t) j) = C at *
      generalize Row.rowK (liveP t self) j = P at *
      have cj := hb.cell j
      rw [HH.out] at cj
      have ca := hb.cell (7 + j * 4 + 3)
      rw [HAc.out] at ca
      have fa := hb.frozen (7 + j * 4 + 3)
      have hCa := HAc.out
      clear hb HH HAc
      have HP := Lib.hid (show liveP t self j = ((j : Int) == self || (hasN t j && (linN t j).a)) from rfl)
      rw [show (t (j : Int)).isSome = hasN t j from rfl] at cj
      generalize hasN t j = h1 at *
      generalize (linN t j).a = h2 at *
      generalize hbe : ((j : Int) == self) = h0 at *
      have hF : ∀ w2 : World, Blk w2 w.heap.size 37 C → Blk (w2.setCell ⟨w.heap.size, 7 + j * 4 + 3, none⟩ (.bool false)) w.heap.size 37 D := fun w2 h => HD.out ▸ h.set_ (7 + j * 4 + 3) (.bool false)
      have HF := Lib.hid hF
      clear hF
      cases hv : liveP t self j
      · rw [hv] at hU HP
        simp only [Bool.false_eq_true, if_false, List.append_nil] at hU
        have HU := Lib.hid hU
        clear hv hU
        have h00 : h0 = false := by have := HP.out; revert this; cases h0 <;> simp
        subst h00
        have h12 : (h1 && h2) = false := by have := HP.out; revert this; cases h1 <;> cases h2 <;> simp
        have HG := Lib.hid (HW.out.own ((Touch.refl (fun q => q = w.heap.size) wr).set (o := 7 + j * 4 + 3) (fun _ => rfl) (.bool false)) (HF.out _ HW.out.b))
        clear HP
        cases h1
        · clear h12
          go_wp2_with fail
          go_roundw
          case rel => exact ⟨j + 1, by omega, by go_num, ⟨r, by rw [HU.out]; exact HO.out.touch ((Touch.refl (fun q => q = w.heap.size) wr).set (fun _ => rfl) _) (fun k e hk => by have := HRk.out k e; omega), HRk.out⟩, HDe.out ▸ HG.out⟩
          case measure => simp [intOf]; omega
        · obtain rfl : h2 = false := by simpa using h12
          clear h12
          go_wp2_with fail
          go_roundw
          case rel => exact ⟨j + 1, by omega, by go_num, ⟨r, by rw [HU.out]; exact HO.out.touch ((Touch.refl (fun q => q = w.heap.size) wr).set (fun _ => rfl) _) (fun k e hk => by have := HRk.out k e; omega), HRk.out⟩, HDe.out ▸ HG.out⟩
          case measure => simp [intOf]; omega
      · rw [hv] at hU HP
        simp only [if_true] at hU
        have HU := Lib.hid hU
        have hz : h0 = true ∨ (h0 = false ∧ h1 = true ∧ h2 = true) := by have := HP.out; revert this; cases h0 <;> cases h1 <;> cases h2 <;> simp
        clear hv hU HP
        have HTl := Lib.hid ((Touch.refl (fun _ => False) wr).alloc (.cells #[.int .i64 (j : Int)] 3))
        have HBl := Lib.hid (Blk.new wr 3 #[.int .i64 (j : Int)])
        have hne : ¬ w.heap.size = wr.heap.size := by omega
        rcases hz with rfl | ⟨rfl, rfl, rfl⟩
        all_goals
          go_wp2_with (
            at_builtin
            go_must (refine wpList_own_append rfl _ _ 23 23 rfl 3 i0 (.int .i64 0) 1 8 Try.underlying23 hi hz0 hz1 hz2 rfl _ r P.length (P.map I64) rfl (by exact HO.out.touch HTl.out (fun _ _ e => e)) _ 1 [.int .i64 (j : Int)] rfl (by exact Src.lit Try.underlying23 wr.heap.size 1 1 3 #[.int .i64 (j : Int)] HBl.out rfl (fun u hu => by simp at hu; subst hu; rfl)) (by simp only [maxLen]; omega) (by omega) ?_)
            intro v1 r1 w1 ho1 ht1 hr1
            have hb1 := ht1.blk (HTl.out.blk HW.out.b (fun e => e)) (fun e => by have := HRk.out _ e; omega)
            have HB1 := Lib.hid hb1
            have cj1 := hb1.cell j; have ca1 := hb1.cell (7 + j * 4 + 3); have fa1 := hb1.frozen (7 + j * 4 + 3)
            rw [hCa] at ca1
            have HR1 := Lib.hid (And.intro ho1 (And.intro ht1 hr1))
            clear ho1 ht1 hr1 hb1 cj1)
          go_roundw
          case rel =>
            obtain ⟨ho1, ht1, hr1⟩ := HR1.out
            have htw : Touch (fun q => r = some q) wr w1 := (HTl.out.mono (fun _ _ e => e.elim)).trans ht1 (fun _ _ e => e)
            have hWr := HW.out
            obtain ⟨hb, ⟨Z, hZ, hzb⟩, ht⟩ := hWr
            have hW1 : TbW w w1 C := ⟨HB1.out, ⟨Z, hZ, htw.blk hzb (fun e => by have := HRk.out _ e; omega)⟩, ht.trans htw (fun q hq e => by have := HRk.out _ e; omega)⟩
            refine ⟨j + 1, by omega, by go_num, ⟨r1, ?_, ?_⟩, HDe.out ▸ hW1.own ((Touch.refl (fun q => q = w.heap.size) w1).set (o := 7 + j * 4 + 3) (fun _ => rfl) (.bool false)) (HF.out _ HB1.out)⟩
            · rw [HU.out, List.length_append, List.map_append]
              refine ho1.touch ((Touch.refl (fun q => q = w.heap.size) w1).set (fun _ => rfl) _) (fun k e hk => ?_)
              rcases hr1 with e' | ⟨q, e', hq⟩
              · have := HRk.out k (e'.symm.trans e); omega
              · rw [e'] at e; injection e with e; simp at hq; omega
            · intro k e
              rcases hr1 with e' | ⟨q, e', hq⟩
              · exact HRk.out k (e'.symm.trans e)
              · rw [e'] at e; injection e with e; simp at hq; omega
          case measure => simp [intOf]; omega
    · obtain rfl : j = 7 := by omega
      have HW7 := Lib.hid (show TbW w wr (refT (calmT t)) from midT_7 (t := t) (t' := calmT t) ▸ HW.out)
      have HN7 := Lib.hid (refT_size (calmT t))
      have H17 := Lib.hid (refT_one (calmT t))
      obtain ⟨D, hDe⟩ : ∃ D, D = refT (calmT t) := ⟨_, rfl⟩
      rw [← hDe] at HW7 HN7 H17
      have HDe := Lib.hid hDe
      clear hDe HW
      rw [Row.rowK_7] at HO ⊢
      have hS7 : (Row.rowOf (liveP t self)).length ≤ 7 := rowOf_len _
      obtain ⟨A1, c1, hv, hc1, hc2, _, hr⟩ := HO.out.rd
      injection hv with hv1 hv2 hv3
      subst hv1 hv3
      have HRe := Lib.hid (fun w1 h h' => rreached_any F (fun _ => True) A A0 c c0 members (Row.rowOf (liveP t self)) w1 h h' hsm (by omega))
      rw [live_ref] at HRe
      have HRs := Lib.hid (hr.mono (F' := fun _ => True) (fun _ _ => trivial))
      clear hr hv2 hc1 hc2
      generalize Row.rowOf (liveP t self) = P at *
      obtain ⟨lb, hlb⟩ : ∃ lb, lb = liveB t members self := ⟨_, rfl⟩
      rw [← hlb] at HRe
      have HLb := Lib.hid hlb
      clear hlb
      go_wp2_with fail
      have HWd := Lib.hid HW7.out.drew
      refine wp_region_plan [(0, 1), (0, 2), (1, 0), (2, 3), (2, 4), (0, 5)] (fun q => q = w.heap.size + 1) (by kernel_rfl) (by kernel_rfl) (fun c a d v w h => by cases d <;> exact h) ?_
      iterate 2
        refine plan_s1 rfl (by rfl) (fun Kc hKc => ?_)
        go_simp
        first
          | (refine hKc _ ?_)
        clear hKc Kc
      ((with_reducible apply HWd.out.hold (T := fun q => q = w.heap.size + 1) HN7.out (by omega)); exact rfl; exact rfl; exact rfl; exact rfl; go_frame)
      refine plan_a1 rfl (by rfl) (fun Kc hKc => ?_)
      go_simp
      refine (HRe.out _ (by exact HR.out.touch HWd.out.t (fun _ _ e => e)) (by exact HRs.out.touch (Touch.refl (fun _ => False) wr).drew (fun _ _ e => e))).mono ?_
      rintro e w4 ⟨rfl, t4⟩
      refine hKc _ _ ⟨t4.mono (fun _ _ e => e.elim), ?_⟩
      clear hKc Kc
      have HW4 := Lib.hid (HWd.out.none_ t4)
      clear t4
      ((with_reducible apply HW4.out.alone (T := fun q => q = w.heap.size + 1) HN7.out H17.out rfl); exact rfl; exact rfl; exact rfl; exact rfl; exact rfl; intro w2 hb2 t2; have HB2 := Lib.hid hb2; have HT2 := Lib.hid t2; clear hb2 t2; go_frame)
      iterate 1
        refine plan_s1 rfl (by rfl) (fun Kc hKc => ?_)
        go_simp
        first
          | (refine hKc _ ?_)
        clear hKc Kc
      refine plan_done ?_
      go_wp2_with fail
      refine bodyPost_ret (results_cell2 6 7 rowTb HN7.out (HB2.out.whole) rfl rfl) rfl ⟨?_, HT2.out⟩
      rw [HDe.out, ← HLb.out]; rfl
end Go.Proofs.Ytpgakkpmpnebnaa
