/- The references of chapters 8 and 10: Wrong, Until, Between, weekly, count, Elapsed. The reference of chapter 10: count, Elapsed, Rest, Check, Open, Same. week's sums: how many open seconds are ahead of each span. -/
import Derived.Test.YtlcefchbfjfifaaGreatVCalC
section
namespace Go.Proofs.YtlcefchbfjfifaaGreat
open Go.RowKit Cal
set_option maxHeartbeats 4000000
set_option maxRecDepth 100000
set_option linter.unusedVariables false
attribute [local irreducible] wpPlan

def overB : List Sp → Bool
  | [] => false
  | s :: l => decide (604800 < s.t) || overB l
def weekE (l : List Sp) : Int := if rowE l ≠ 0 then rowE l else if overB l = true then 2 else 0
theorem over_take (l : List Sp) (j : Nat) (s : Sp) (hs : l[j]? = some s) : overB (l.take (j + 1)) = (overB (l.take j) || decide (604800 < s.t)) := by
  have key : ∀ (a b : List Sp), overB (a ++ b) = (overB a || overB b) := fun a b => by
    induction a with
    | nil => simp [overB]
    | cons y a ih => rw [List.cons_append, overB, overB, ih, Bool.or_assoc]
  obtain ⟨h1, h2⟩ := List.getElem?_eq_some_iff.1 hs
  rw [List.take_succ_eq_append_getElem h1, h2, key]
  simp [overB]
theorem over_of_take (l : List Sp) (j : Nat) (h : overB (l.take j) = true) : overB l = true := by
  have key : ∀ (a b : List Sp), overB (a ++ b) = (overB a || overB b) := fun a b => by
    induction a with
    | nil => simp [overB]
    | cons y a ih => rw [List.cons_append, overB, overB, ih, Bool.or_assoc]
  rw [← List.take_append_drop j l, key, h]; rfl
theorem over_none : ∀ (l : List Sp), overB l = false → ∀ s ∈ l, s.t ≤ 604800
  | [], _, s, hs => absurd hs (by simp)
  | x :: l, h, s, hs => by
    simp only [overB, Bool.or_eq_false_iff, decide_eq_false_iff_not] at h
    rcases List.mem_cons.1 hs with rfl | hs
    · omega
    · exact over_none l h.2 s hs
theorem weekE_week {l : List Sp} (h : weekE l = 0) : Week l ∧ rowE l = 0 := by
  unfold weekE at h
  split at h
  · rename_i h1; exact absurd h h1
  · rename_i h1
    have h1 : rowE l = 0 := by simpa using h1
    split at h
    · omega
    · rename_i h2
      exact ⟨⟨(rowE_row h1).1, (rowE_row h1).2, over_none l (by simpa using h2)⟩, h1⟩
theorem Cal.Week.row {l : List Sp} (h : Week l) : rowE l = 0 := by
  unfold rowE
  rw [if_neg (by have := h.2.1; omega), rows_of l 0 (by omega) h.1]
theorem fwrong_any (F : Nat → Prop) (A : Option Addr) (c : Nat) (l : List Sp) (w : World) (hr : SpR w F A l.length l) (hsm : l.length ≤ 1000000) :
    Calls Tryz.prog 109 #[.slice A l.length c] w fun e w' => e = .returned (.int .i64 (weekE l)) ∧ Touch (fun _ => False) w w' := by
  have HR := Lib.hid hr
  have HF := Lib.hid (frow_any F A c l w hr hsm)
  clear hr
  by_cases hrow : rowE l = 0
  · rw [hrow] at HF
    have HV := Lib.hid (show weekE l = (if overB l = true then 2 else 0) by unfold weekE; rw [if_neg (by simp [hrow])])
    clear hrow
    go_enter Tryz.func109, Tryz.ntmps109
    go_wp2_with (go_at_call 110; go_must (refine HF.out.mono ?_); rintro e w0 ⟨rfl, t0⟩; have HT0 := Lib.hid t0; clear t0)
    clear HF
    go_loopw [4] (fun i wr => ∃ j : Nat, j ≤ l.length ∧ i = .int .i64 j ∧ overB (l.take j) = false ∧ wr = w0) (fun i _ => l.length - (intOf i).toNat)
    case atStart => exact ⟨0, by omega, rfl, rfl, rfl⟩
    case round =>
      obtain ⟨j, hj, rfl, hno, rfl⟩ := hrel
      have HN := Lib.hid hno
      clear hno
      by_cases hjk : j < l.length
      · have ha : l[j]? = some (l[j]'hjk) := List.getElem?_eq_getElem _
        obtain ⟨g, off, rfl, hg, -, hc0, hc1⟩ := (HR.out.touch HT0.out (fun _ _ e => e)).at_ ha
        have HE := Lib.hid (over_take l j _ ha)
        generalize l[j]'hjk = s at *
        obtain ⟨f, t⟩ := s
        simp only at hc0 hc1
        clear ha
        by_cases h2 : 604800 < t
        · have HW := Lib.hid (show weekE l = 2 by rw [HV.out, over_of_take l (j + 1) (by rw [HE.out]; simp [h2])]; rfl)
          go_wp2
          go_ret
          exact ⟨ret_int HW.out.symm, HT0.out⟩
        · have HW := Lib.hid (show overB (l.take (j + 1)) = false by rw [HE.out, HN.out]; simp [h2])
          go_wp2
          go_roundw
          case rel => exact ⟨j + 1, by omega, by go_num, HW.out, trivial⟩
          case measure => simp [intOf]; omega
      · obtain rfl : j = l.length := by omega
        have HW := Lib.hid (show weekE l = 0 by rw [HV.out, ← List.take_length (l := l), HN.out]; rfl)
        go_wp2
        go_ret
        exact ⟨ret_int HW.out.symm, HT0.out⟩
  · have HV := Lib.hid (show weekE l = rowE l by unfold weekE; rw [if_pos hrow])
    have hb : (rowE l != 0) = true := by simpa using hrow
    generalize rowE l = v at *
    clear hrow
    go_enter Tryz.func109, Tryz.ntmps109
    go_wp2_with (go_at_call 110; go_must (refine HF.out.mono ?_); rintro e w0 ⟨rfl, t0⟩; have HT0 := Lib.hid t0; clear t0)
    go_ret
    exact ⟨ret_int HV.out.symm, HT0.out⟩

theorem U_zero {l : List Sp} (h : Week l) : U l 0 = 0 := by
  unfold U
  rw [show (0 : Int) / 604800 = 0 by omega, show (0 : Int) % 604800 = 0 by omega, within_self]; simp
theorem U_bd {l : List Sp} (h : Week l) {u : Int} (hu : 0 ≤ u) : 0 ≤ U l u ∧ U l u ≤ u := by
  have e1 := cnt_of (p := fun u => hasB l (u % 604800)) (U l) hu (fun u h1 h2 => U_step h (by omega))
  have e2 := cnt_pos (p := fun u => hasB l (u % 604800)) hu
  rw [U_zero h] at e1
  omega
theorem U_parts {l : List Sp} (h : Week l) {u : Int} (hu : 0 ≤ u) : 0 ≤ u / 604800 * len l ∧ u / 604800 * len l ≤ u ∧ 0 ≤ within l 0 (u % 604800) ∧ within l 0 (u % 604800) ≤ 604800 := by
  have h1 := within_bd h.1 (a := 0) (b := u % 604800) (by omega)
  have h2 := (U_bd h hu).2
  unfold U at h2
  have h3 := h.len_bd
  have h4 : 0 ≤ u / 604800 * len l := Int.mul_nonneg (by omega) h3.1
  omega
/-- A calendar's rows lie in memory. -/
structure CaR (w : World) (F : Nat → Prop) (c : Ca) (A B : Option Addr) : Prop where
  wk : SpR w F A c.wk.length c.wk
  cl : SpR w F B c.cl.length c.cl
theorem CaR.touch {w w' : World} {F S : Nat → Prop} {c : Ca} {A B : Option Addr} (h : CaR w F c A B) (ht : Touch S w w') (hd : ∀ k, F k → ¬ S k) : CaR w' F c A B := ⟨h.wk.touch ht hd, h.cl.touch ht hd⟩
end Go.Proofs.YtlcefchbfjfifaaGreat
end

section
namespace Go.Proofs.YtlcefchbfjfifaaGreat
open Go.RowKit Cal
set_option maxHeartbeats 4000000
set_option maxRecDepth 100000
set_option linter.unusedVariables false
attribute [local irreducible] wpPlan

def instB (t : Int) : Bool := decide (0 ≤ t) && decide (t ≤ 1125899906842624)
theorem lost_pre {c : Ca} (h : c.Ok) (L : List Sp) (hL : ∀ s ∈ L, 0 ≤ s.f ∧ s.f < s.t ∧ s.t ≤ 1125899906842624) (j : Nat) (hj : L.length ≤ 40) : 0 ≤ c.lost (L.take j) ∧ c.lost (L.take j) ≤ 45035996273704960 := by
  have h1 := h.lost_bd (L.take j) (fun s hs => by have := hL s (List.mem_of_mem_take hs); omega)
  have h2 := longS_bd (L.take j) (fun s hs => hL s (List.mem_of_mem_take hs))
  have h3 : (L.take j).length ≤ 40 := by simp; omega
  omega
theorem lost_take (c : Ca) (L : List Sp) (j : Nat) (s : Sp) (hs : L[j]? = some s) : c.lost (L.take (j + 1)) = c.lost (L.take j) + c.weekly s.f s.t := by
  obtain ⟨h1, h2⟩ := List.getElem?_eq_some_iff.1 hs
  rw [List.take_succ_eq_append_getElem h1, h2, Ca.lost_snoc]
end Go.Proofs.YtlcefchbfjfifaaGreat
end

section
namespace Go.Proofs.YtlcefchbfjfifaaGreat
open Go.RowKit Cal
set_option maxHeartbeats 4000000
set_option maxRecDepth 100000
set_option linter.unusedVariables false
attribute [local irreducible] wpPlan

def V64 (x : Int) : Value := .int .i64 x
theorem V64_one (l : List Int) : ∀ u ∈ l.map V64, u.oneCell' = true := by
  intro u hu
  obtain ⟨x, -, rfl⟩ := List.mem_map.1 hu
  rfl
theorem info64 : (Tryz.prog.info? 2).map (fun i => (i.zero, i.size, i.bytes)) = some (some (.int .i64 0), 1, 8) := by kernel_rfl
/-- A new slice that reads as these numbers. -/
def NewInts (w : World) (l : List Int) (e : Ending) (w' : World) : Prop :=
  ∃ A c, e = .returned (.slice A l.length c) ∧ l.length ≤ c ∧ c ≤ maxLen ∧ Rd w' (fun k => w.heap.size ≤ k) A l.length (l.map V64) ∧ Touch (fun _ => False) w w'
theorem append64 {o : Oper} {a : Act} {K : Act → World → Prop} {Q : Exit → Act → World → Prop} {w : World} (s x : Operand)
    (ho : o.op = .call { callee := .builtin .append, args := #[s, x], argTypes := #[191, 191] })
    (xs : List Value) (m : Nat) (n : Int) (g c : Nat) (v : Value) (r : Option Nat) (hsv : a.eval s = v) (hx : a.eval x = .slice (some ⟨g, 0, none⟩) 1 c) (h1 : Own w 2 1 v r m xs) (hb : Blk w g 2 #[.int .i64 n]) (hsm : m + 1 ≤ 1000000)
    (h : ∀ v' w' r', Own w' 2 1 v' r' (m + 1) (xs ++ [.int .i64 n]) → Touch (fun k => r = some k) w w' → (r' = r ∨ ∃ k, r' = some k ∧ w.heap.size ≤ k) → K (a.put o.dst v') w') : o.wp Tryz.prog a w K Q := by
  obtain ⟨i0, hi, hz0, hz1, hz2⟩ := info_parts info64
  refine wp_own_append s x 191 191 ho 2 i0 (.int .i64 0) 1 8 Tryz.underlying191 hi hz0 hz1 hz2 rfl v r m xs hsv h1 _ 1 [.int .i64 n] hx
    (Src.lit Tryz.underlying191 g 1 c 2 #[.int .i64 n] hb rfl (fun u hu => by simp at hu; subst hu; rfl)) (by simp only [maxLen]; omega) (by omega) ?_
  intro v1 r1 w2 ho2 ht2 hr2
  exact h v1 w2 r1 ho2 ht2 hr2
theorem madeCells_head (n : Nat) : ∃ cs : Array Value, madeCells #[.int .i64 0] (n + 1) = cs ∧ cs.size = n + 1 ∧ cs[0]? = some (.int .i64 0) := by
  refine ⟨_, rfl, size_madeCells _ _, ?_⟩
  simp [madeCells]
/-- A plan: its row and its lazy cell. -/
structure PlAt (w : World) (g : Nat) (wk : List Sp) (A : Option Addr) (k : Nat) (b : Nat) (F : Nat → Prop) : Prop where
  blk : Blk w g 194 #[.slice A wk.length k, .pointer (some ⟨b, 0, none⟩)]
  row : SpR w F A wk.length wk
theorem PlAt.touch {w w' : World} {g : Nat} {wk : List Sp} {A : Option Addr} {k b : Nat} {F S : Nat → Prop} (h : PlAt w g wk A k b F) (ht : Touch S w w') (hg : ¬ S g) (hd : ∀ k, F k → ¬ S k) : PlAt w' g wk A k b F := ⟨ht.blk h.blk hg, h.row.touch ht hd⟩
theorem sums_any (g : Nat) (wk : List Sp) (A : Option Addr) (k b : Nat) (F : Nat → Prop) (w : World) (h : PlAt w g wk A k b F) (hw : Week wk) :
    Calls Tryz.prog 113 #[.pointer (some ⟨g, 0, none⟩)] w (NewInts w (sumsN wk wk.length)) := by
  have hlen := hw.2.1
  have q := h.blk.cell 0
  simp at q
  have HP := Lib.hid h
  have HB := Lib.hid (sums_bd hw)
  have HLb := Lib.hid hw.len_bd
  have HMem := Lib.hid (fun s (hs : s ∈ wk) => Row.mem hw.1 s hs)
  have hgl := h.blk.lt
  clear h hw
  obtain ⟨i0, hi, hz0, hz1, hz2⟩ := info_parts info64
  obtain ⟨cs, hcs, hsz, hc0⟩ := madeCells_head wk.length
  have hmk : ∀ w, (Instr.makeSlice 191 (.int .i64 1) (.int .i64 (wk.length + 1))).run Tryz.prog w = .ok (.slice (some ⟨w.heap.size, 0, none⟩) 1 (wk.length + 1)) (w.alloc (.cells cs 2)) := by
    intro w
    have := run_make (P := Tryz.prog) w 191 2 i0 (.int .i64 0) Tryz.underlying191 hi hz0 .i64 .i64 1 (wk.length + 1) (by omega) (by omega) (by rw [hz2]; omega) (by omega)
    rw [this, hz1]
    simp only [Value.cells, Nat.mul_one]
    rw [show ((wk.length : Int) + 1).toNat = wk.length + 1 by omega, hcs]; rfl
  have HO := Lib.hid (show Own (w.alloc (.cells cs 2)) 2 1 (.slice (some ⟨w.heap.size, 0, none⟩) 1 (wk.length + 1)) (some w.heap.size) 1 [.int .i64 0] from
    ⟨rfl, .inr ⟨w.heap.size, wk.length + 1, cs, rfl, rfl, Blk.new _ _ _, by omega, by simp only [maxLen]; omega, by omega, by
      have h1 : 0 < cs.toList.length := by simp; omega
      have h2 : cs[0] = .int .i64 0 := by rw [Array.getElem?_eq_some_iff] at hc0; exact hc0.2
      rw [show 1 * 1 = 0 + 1 by rfl, List.take_succ_eq_append_getElem h1]; simp [h2]⟩⟩)
  clear hcs hsz hc0
  go_enter Tryz.func113, Tryz.ntmps113
  have hq : (w.alloc (.cells cs 2)).cell? ⟨g, 0, none⟩ = some (.slice A wk.length k) := (World.cell?_alloc_lt _ _ _ hgl).trans q
  go_wp2_with fail
  clear hmk
  go_loopw [3, 18] (fun v i wr => ∃ (j : Nat) (r : Option Nat), j ≤ wk.length ∧ i = .int .i64 j ∧ Own wr 2 1 v r (j + 1) ((sumsN wk j).map V64) ∧ (∀ q, r = some q → w.heap.size ≤ q) ∧ Touch (fun _ => False) w wr) (fun _ i _ => wk.length - (intOf i).toNat)
  case atStart => exact ⟨0, some w.heap.size, by omega, rfl, HO.out, (fun q e => by injection e with e; omega), (Touch.refl _ _).alloc _⟩
  case round =>
    clear HO
    obtain ⟨j, r, hj, rfl, ho, hk, hT⟩ := hrel
    obtain ⟨A0, c0, rfl, hc1, hc2⟩ := ho.form
    have HO := Lib.hid ho
    have HK := Lib.hid hk
    have HT := Lib.hid hT
    clear ho hk hT
    by_cases hjk : j < wk.length
    · have ha : wk[j]? = some (wk[j]'hjk) := List.getElem?_eq_getElem _
      obtain ⟨g', off, rfl, hg', -, hc0', hc1'⟩ := (HP.out.row.touch HT.out (fun _ _ e => e)).at_ ha
      have hsm := HMem.out _ (List.getElem_mem hjk)
      have HS := Lib.hid (longS_take wk j _ ha)
      have HN := Lib.hid (sumsN_succ wk j)
      have hbd := HB.out j
      have hbd1 := HB.out (j + 1)
      have hlb := HLb.out
      obtain ⟨A1, c1, e1, -, -, -, hrd⟩ := HO.out.rd
      injection e1 with e1 e2 e3
      subst e1 e3
      obtain ⟨g0, o0, rfl, hg0, hr0, hcc⟩ := hrd.2 (by omega)
      have hx0 := hcc j (V64 (longS (wk.take j))) (by rw [List.getElem?_map, sumsN_get wk j j (by omega)]; rfl)
      simp only [V64] at hx0
      clear hcc hrd e2
      generalize hxs : (sumsN wk j).map V64 = xs at *
      have HX := Lib.hid hxs
      clear hxs
      generalize longS (wk.take j) = x at *
      generalize wk[j]'hjk = s at *
      obtain ⟨f, t⟩ := s
      simp only at hc0' hc1' hsm HS
      clear ha
      have hgb : g0 < wr.heap.size := hg0
      have hq0 : (wr.alloc (.cells #[.int .i64 f, .int .i64 t] 92)).cell? ⟨g0, o0 + j, none⟩ = some (.int .i64 x) := (World.cell?_alloc_lt _ _ _ hgb).trans hx0
      have hw1 : IntKind.i64.wrap (x + t) = x + t := IntWalk.i64_in _ (by omega)
      have hw2 : IntKind.i64.wrap (x + t - f) = x + t - f := IntWalk.i64_in _ (by omega)
      have hjb : (j : Int) < (j : Int) + 1 := by omega
      go_wp2_with fail
      refine wp_region_plan [(0, 1), (0, 2), (0, 3), (0, 4), (0, 5), (0, 6), (0, 7), (0, 8), (0, 9), (0, 10), (1, 0), (2, 11), (2, 12), (0, 13)] (fun q => r = some q) (by kernel_rfl) (by kernel_rfl) (fun c a d v w h => by cases d <;> exact h) ?_
      iterate 10
        refine plan_s1 rfl (by rfl) (fun Kc hKc => ?_)
        go_simp
        first
          | (refine hKc _ ?_)
        clear hKc Kc
      iterate 1
        first
          | (apply plan_h
             · rfl
             · rfl
             · intro wh hT
               go_simp
               try rfl
             go_frame)
          | (refine plan_hn rfl (by rfl) ?_; go_frame)
      refine plan_a1 rfl (by rfl) (fun Kc hKc => ?_)
      go_simp
      refine hKc _ _ ⟨(Touch.refl _ _).alloc _, ?_⟩
      clear hKc Kc
      refine plan_a1 rfl (by rfl) (fun Kc hKc => ?_)
      refine append64 _ _ rfl xs (j + 1) (x + t - f) (wr.heap.size + 1) 1 (.slice (some ⟨g0, o0, none⟩) (j + 1) c0) r rfl rfl ?_ ?_ (by omega) ?_
      · exact HO.out.touch ((((Touch.refl (fun _ => False) wr).alloc _).drew).alloc _) (fun _ _ e => e)
      · exact (show Blk ((wr.alloc (.cells #[.int .i64 f, .int .i64 t] 92)).alloc (.cells #[.int .i64 (x + t - f)] 2)) (wr.heap.size + 1) _ _ by simpa using Blk.new (wr.alloc (.cells #[.int .i64 f, .int .i64 t] 92)) 2 #[.int .i64 (x + t - f)])
      intro v2 w2 r2 ho2 ht2 hr2
      refine hKc _ _ ⟨ht2, ?_⟩
      clear hKc Kc
      obtain ⟨A2, c2, rfl, -, -⟩ := ho2.form
      have HQ := Lib.hid (And.intro ho2 (And.intro ht2 hr2))
      clear ho2 ht2 hr2
      iterate 1
        refine plan_s1 rfl (by rfl) (fun Kc hKc => ?_)
        go_simp
        first
          | (refine hKc _ ?_)
        clear hKc Kc
      refine plan_done ?_
      clear hw1 hw2 hjb
      go_wp2
      go_roundw
      case rel =>
        obtain ⟨ho2, ht2, hr2⟩ := HQ.out
        have hs := HT.out.size
        refine ⟨j + 1, r2, by omega, by go_num, ?_, fun q e => ?_, ((HT.out.alloc _).alloc _).drew.trans ht2 (fun q hq e => by have := HK.out q e; omega)⟩
        · rw [HN.out, List.map_append, HX.out, HS.out]; exact ho2
        · rcases hr2 with e' | ⟨q', e', hq'⟩
          · exact HK.out q (e'.symm.trans e)
          · rw [e'] at e; injection e with e; simp at hq'; omega
      case measure => simp [intOf]; omega
    · obtain rfl : j = wk.length := by omega
      generalize hL : sumsN wk wk.length = L at *
      have hLl : L.length = wk.length + 1 := by rw [← hL, sumsN_len]
      have HL := Lib.hid hLl
      clear hL hLl
      go_wp2
      go_ret
      obtain ⟨A1, c1, e1, k1, k2, -, hrd⟩ := HO.out.rd
      injection e1 with e1 e2 e3
      subst e1 e3
      exact ⟨A0, c0, by rw [HL.out]; rfl, by rw [HL.out]; exact k1, k2, by rw [HL.out]; exact hrd.mono HK.out, HT.out⟩
end Go.Proofs.YtlcefchbfjfifaaGreat
end
