/- slices.Clone at levels; contract.Copy, contract.copied. -/
import Derived.Test.YtlcefchbfjfifaaGreatVShA
import Derived.Test.YtlcefchbfjfifaaGreatVCtD
import Derived.Test.YtlcefchbfjfifaaGreatVRowE
namespace Go.Proofs.YtlcefchbfjfifaaGreat
open Go.RowKit Cal
set_option maxHeartbeats 4000000
set_option maxRecDepth 100000
set_option linter.unusedVariables false
attribute [local irreducible] wpPlan

theorem lvclone_any (F : Nat → Prop) (A : Option Addr) (c : Nat) (l : List Sp) (w : World) (h : SpR w F A l.length l) (hn : l.length ≤ 1000000) :
    Calls Tryz.prog 40 #[.slice A l.length c] w (NewSpan w l) := by
  rcases A with _ | ad
  · obtain ⟨h0, rfl⟩ := h.isN
    clear h hn h0
    have hbin : ∀ w, (binOp .eql 22 (.slice none 0 c) (.slice none 0 0)).run Tryz.prog w = .ok (.bool true) w := fun w => by first | rfl | simp [go_sem]
    simp only [List.length_nil]
    go_enter Tryz.func40, Tryz.ntmps40
    go_wp2
    go_ret
    exact ⟨none, 0, rfl, Nat.le_refl _, by simp, fun _ => rfl, SpR.nil _ _ _, Touch.refl _ _⟩
  · have Hn := Lib.hid (show ∀ j u, (l.flatMap spC)[j]? = some u → (w.alloc (.cells #[] 68)).cell? (ad.add j) = some u from fun j u hj => (World.cell?_alloc_lt _ _ _ (World.block_lt_of_cell? w _ (h.isS j u hj))).trans (h.isS j u hj))
    have h1 := Lib.hid (spC_one l)
    have hfl := Lib.hid (show (l.flatMap spC).length = l.length * 2 from h.2.1)
    obtain ⟨i0, hi, hz0, hz1, hz2⟩ := info_parts infoLv
    have HO := Lib.hid (show Own (w.alloc (.cells #[] 68)) 68 2 (.slice (some ⟨w.heap.size, 0, none⟩) 0 0) (some w.heap.size) 0 [] from by simpa using Own.lit w 68 2 #[] 0 (by simp) (by simp))
    clear h
    generalize hm : l.length = m at *
    have hbin : ∀ w, (binOp .eql 22 (.slice (some ad) m c) (.slice none 0 0)).run Tryz.prog w = .ok (.bool false) w := fun w => by first | rfl | simp [go_sem]
    have HM := Lib.hid hm
    clear hm
    go_enter Tryz.func40, Tryz.ntmps40
    go_wp2_with (at_builtin; go_must (refine wpList_own_append rfl _ _ 22 22 rfl 68 i0 (.agg #[.int .i64 0, .int .i64 0]) 2 16 Tryz.underlying22 hi hz0 hz1 hz2 rfl _ (some w.heap.size) 0 [] rfl (by exact HO.out) _ m (l.flatMap spC) rfl (by exact Src.ofSlice _ Tryz.underlying22 ad m c _ hfl.out Hn.out h1.out) (by simp only [maxLen]; omega) (by omega) ?_); intro v1 r1 w1 ho1 ht1 hr1; have HR1 := Lib.hid (And.intro ho1 (And.intro ht1 hr1)); clear ho1 ht1 hr1)
    go_ret
    obtain ⟨ho1, ht1, hr1⟩ := HR1.out
    obtain ⟨A', c', hv, k1, k2, k3, k4⟩ := ho1.spR (l := l) (by simp) (by simp [HM.out])
    rw [Nat.zero_add, ← HM.out] at k4 hv k1
    refine ⟨A', c', by rw [← hv]; rfl, k1, k2, k3, k4.mono (fun q hq => ?_), ((Touch.refl _ w).alloc _).trans ht1 (fun q hq e => ?_)⟩
    · rcases hr1 with e | ⟨q', e, hq'⟩
      · rw [e] at hq; injection hq with hq; omega
      · rw [e] at hq; injection hq with hq; simp at hq'; omega
    · injection e with e; omega
def conA (c : Co) (A : Option Addr) (n : Nat) : Array Value := #[.int .i64 c.cal, .slice A c.lv.length n, .int .i64 c.rt, .int .i64 c.bk]
/-- A contract copied. -/
def CopK (c : Co) (w : World) (e : Ending) (w' : World) : Prop :=
  ∃ A n, e = .returned (.agg (conA c A n)) ∧ SpR w' (fun k => w.heap.size ≤ k ∧ k < w'.heap.size) A c.lv.length c.lv ∧ Touch (fun _ => False) w w'
theorem rowCo : RowT 24 4 := ⟨⟨_, Tryz.underlying24, rfl⟩, by kernel_rfl⟩
theorem rowCa : RowT 51 3 := ⟨⟨_, Tryz.underlying51, rfl⟩, by kernel_rfl⟩
def conZA : Array Value := conA conZ none 0
theorem conA_one (c : Co) (A : Option Addr) (n : Nat) : (conA c A n).all (·.oneCell') = true := by simp [conA, Value.oneCell']
theorem caA_one (c : Ca) (A B : Option Addr) (k m : Nat) : (caA c A B k m).all (·.oneCell') = true := by simp [caA, Value.oneCell']
theorem kcopy_any (F : Nat → Prop) (A : Option Addr) (n : Nat) (c : Co) (w : World) (hr : SpR w F A c.lv.length c.lv) (hl : c.lv.length ≤ 1000000) : Calls Tryz.prog 13 #[.agg (conA c A n)] w (CopK c w) := by
  have HC := Lib.hid (fun w1 (t : Touch (fun _ => False) w w1) => lvclone_any F A n c.lv w1 (hr.touch t (fun _ _ e => e)) hl)
  unfold NewSpan at HC
  obtain ⟨W0, hW0⟩ : ∃ W0, W0 = (w.alloc (.cells (conA c A n) 24)).alloc (.cells #[.int .i64 0, .slice none 0 0, .int .i64 0, .int .i64 0] 24) := ⟨_, rfl⟩
  have hT : Touch (fun _ => False) w W0 := hW0 ▸ ((Touch.refl _ w).alloc _).alloc _
  have HT := Lib.hid hT
  have HB := Lib.hid (show Blk W0 w.heap.size 24 (conA c A n) from hW0 ▸ (Blk.new w _ _).alloc _)
  have HZ := Lib.hid (show Blk W0 (w.heap.size + 1) 24 #[.int .i64 0, .slice none 0 0, .int .i64 0, .int .i64 0] from hW0 ▸ (by simpa using Blk.new (w.alloc (.cells (conA c A n) 24)) 24 #[.int .i64 0, .slice none 0 0, .int .i64 0, .int .i64 0]))
  have HW0 := Lib.hid hW0
  have hz0 : w.heap.size + 2 ≤ W0.heap.size := by rw [hW0]; simp
  have q1 := HB.out.cell 1
  rw [show (conA c A n)[1]? = some (.slice A c.lv.length n) from rfl, hW0] at q1
  have HK1 := Lib.hid (show (conA c A n)[1]? = some (.slice A c.lv.length n) from rfl)
  have HE := Lib.hid (fun A1 c1 => (show (conA c A n).setIfInBounds 1 (.slice A1 c.lv.length c1) = conA c A1 c1 by simp [conA]))
  have HZn := Lib.hid (show (#[.int .i64 0, .slice none 0 0, .int .i64 0, .int .i64 0] : Array Value).size = 4 from rfl)
  have HCn := Lib.hid (fun A1 c1 => (show (conA c A1 c1).size = 4 from rfl))
  have HC1 := Lib.hid (fun A1 c1 => conA_one c A1 c1)
  unfold CopK
  obtain ⟨CA, hCA⟩ : ∃ CA : Option Addr → Nat → Array Value, CA = conA c := ⟨_, rfl⟩
  rw [← hCA] at HB HW0 q1 HK1 HE HCn HC1 ⊢
  generalize CA A n = C0 at *
  have HS0 := Lib.hid hr
  generalize c.lv.length = ln at *
  clear hr hT hW0 hCA
  go_enter Tryz.func13, Tryz.ntmps13
  go_wp2_with (first
    | (go_at_call 40; rw [← HW0.out]; go_must (refine (HC.out _ (by exact HT.out)).mono ?_)
       rintro e w1 ⟨A1, c1, rfl, -, -, -, hs, t1⟩
       have HS := Lib.hid hs
       have HT1 := Lib.hid t1
       have hb := t1.blk HB.out (fun e => e)
       have hz := t1.blk HZ.out (fun e => e)
       have x1 := hb.cell 1
       have f1 := hb.frozen 1
       rw [HK1.out] at x1
       have hb1 := hb.set_ 1 (.slice A1 ln c1)
       rw [HE.out] at hb1
       have ts := (Touch.refl (fun q => q = w.heap.size) w1).set (b := w.heap.size) (o := 1) (fun _ => rfl) (.slice A1 ln c1)
       have HBs := Lib.hid hb1
       have HZs := Lib.hid (ts.blk hz (by omega))
       have HTs := Lib.hid ts
       have HN1 := Lib.hid (HCn.out A1 c1)
       have H11 := Lib.hid (HC1.out A1 c1)
       clear hs t1 hb hb1 hz ts)
    | ((with_reducible apply HBs.out.ld rowCo HN1.out); exact rfl; exact rfl; exact rfl)
    | ((with_reducible apply HZs.out.st rowCo HZn.out HN1.out H11.out); exact rfl; exact rfl; exact rfl; exact rfl
       intro w4 hb4 t4
       have HB4 := Lib.hid hb4
       have HT4 := Lib.hid t4
       clear hb4 t4))
  refine bodyPost_ret (results_cell1 2 rowCo HN1.out (HB4.out.whole) rfl rfl) rfl ?_
  have tt := (HTs.out.mono (S' := fun q => q = w.heap.size ∨ q = w.heap.size + 1) (fun _ _ e => .inl e)).trans HT4.out (fun _ _ e => .inr e)
  have z1 := HT1.out.size
  refine ⟨A1, c1, rfl, (HS.out.near.touch tt (fun q hq e => by have := hq.1; omega)).mono (fun q hq => ⟨by have := hq.1; omega, Nat.lt_of_lt_of_le hq.2 tt.size⟩), (HT.out.trans HT1.out (fun _ _ e => e)).trans tt (fun q hq e => by omega)⟩
end Go.Proofs.YtlcefchbfjfifaaGreat
