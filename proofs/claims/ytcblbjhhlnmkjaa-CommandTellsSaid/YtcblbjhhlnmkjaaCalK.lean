/- week's sums: how many open seconds are ahead of each span. -/
import Derived.Test.YtcblbjhhlnmkjaaCalE
namespace Go.Proofs.Ytcblbjhhlnmkjaa
open Go.RowKit Cal
set_option maxHeartbeats 4000000
set_option maxRecDepth 100000
set_option linter.unusedVariables false
attribute [local irreducible] wpPlan

def V64 (x : Int) : Value := .int .i64 x
theorem V64_one (l : List Int) : ∀ u ∈ l.map V64, u.oneCell' = true := by
  intro u hu
  obtain ⟨x, -, rfl⟩ := List.mem_map.1 hu
  rfl
theorem info64 : (Try.prog.info? 2).map (fun i => (i.zero, i.size, i.bytes)) = some (some (.int .i64 0), 1, 8) := by kernel_rfl
/-- A new slice that reads as these numbers. -/
def NewInts (w : World) (l : List Int) (e : Ending) (w' : World) : Prop :=
  ∃ A c, e = .returned (.slice A l.length c) ∧ l.length ≤ c ∧ c ≤ maxLen ∧ Rd w' (fun k => w.heap.size ≤ k) A l.length (l.map V64) ∧ Touch (fun _ => False) w w'
theorem append64 {o : Oper} {a : Act} {K : Act → World → Prop} {Q : Exit → Act → World → Prop} {w : World} (s x : Operand)
    (ho : o.op = .call { callee := .builtin .append, args := #[s, x], argTypes := #[166, 166] })
    (xs : List Value) (m : Nat) (n : Int) (g c : Nat) (v : Value) (r : Option Nat) (hsv : a.eval s = v) (hx : a.eval x = .slice (some ⟨g, 0, none⟩) 1 c) (h1 : Own w 2 1 v r m xs) (hb : Blk w g 2 #[.int .i64 n]) (hsm : m + 1 ≤ 1000000)
    (h : ∀ v' w' r', Own w' 2 1 v' r' (m + 1) (xs ++ [.int .i64 n]) → Touch (fun k => r = some k) w w' → (r' = r ∨ ∃ k, r' = some k ∧ w.heap.size ≤ k) → K (a.put o.dst v') w') : o.wp Try.prog a w K Q := by
  obtain ⟨i0, hi, hz0, hz1, hz2⟩ := info_parts info64
  refine wp_own_append s x 166 166 ho 2 i0 (.int .i64 0) 1 8 Try.underlying166 hi hz0 hz1 hz2 rfl v r m xs hsv h1 _ 1 [.int .i64 n] hx
    (Src.lit Try.underlying166 g 1 c 2 #[.int .i64 n] hb rfl (fun u hu => by simp at hu; subst hu; rfl)) (by simp only [maxLen]; omega) (by omega) ?_
  intro v1 r1 w2 ho2 ht2 hr2
  exact h v1 w2 r1 ho2 ht2 hr2
theorem madeCells_head (n : Nat) : ∃ cs : Array Value, madeCells #[.int .i64 0] (n + 1) = cs ∧ cs.size = n + 1 ∧ cs[0]? = some (.int .i64 0) := by
  refine ⟨_, rfl, size_madeCells _ _, ?_⟩
  simp [madeCells]
/-- A plan: its row and its lazy cell. -/
structure PlAt (w : World) (g : Nat) (wk : List Sp) (A : Option Addr) (k : Nat) (b : Nat) (F : Nat → Prop) : Prop where
  blk : Blk w g 185 #[.slice A wk.length k, .pointer (some ⟨b, 0, none⟩)]
  row : SpR w F A wk.length wk
theorem PlAt.touch {w w' : World} {g : Nat} {wk : List Sp} {A : Option Addr} {k b : Nat} {F S : Nat → Prop} (h : PlAt w g wk A k b F) (ht : Touch S w w') (hg : ¬ S g) (hd : ∀ k, F k → ¬ S k) : PlAt w' g wk A k b F := ⟨ht.blk h.blk hg, h.row.touch ht hd⟩
theorem sums_any (g : Nat) (wk : List Sp) (A : Option Addr) (k b : Nat) (F : Nat → Prop) (w : World) (h : PlAt w g wk A k b F) (hw : Week wk) :
    Calls Try.prog 116 #[.pointer (some ⟨g, 0, none⟩)] w (NewInts w (sumsN wk wk.length)) := by
  have hlen := hw.2.1
  have q := h.blk.cell 0
  simp at q
  have HP := Lib.hid h
  have HB := Lib.hid (sums_bd hw)
  have HLb := Lib.hid hw.len_bd
  have HMem := Lib.hid (fun s (hs : s ∈ wk) => Row.mem hw.1 s hs)
  have hgl := h.blk.lt
  clear h hw
  obtain ⟨i0, hi, hz0, hz1, hz2⟩ := info_parts info64
  obtain ⟨cs, hcs, hsz, hc0⟩ := madeCells_head wk.length
  have hmk : ∀ w, (Instr.makeSlice 166 (.int .i64 1) (.int .i64 (wk.length + 1))).run Try.prog w = .ok (.slice (some ⟨w.heap.size, 0, none⟩) 1 (wk.length + 1)) (w.alloc (.cells cs 2)) := by
    intro w
    have := run_make (P := Try.prog) w 166 2 i0 (.int .i64 0) Try.underlying166 hi hz0 .i64 .i64 1 (wk.length + 1) (by omega) (by omega) (by rw [hz2]; omega) (by omega)
    rw [this, hz1]
    simp only [Value.cells, Nat.mul_one]
    rw [show ((wk.length : Int) + 1).toNat = wk.length + 1 by omega, hcs]; rfl
  have HO := Lib.hid (show Own (w.alloc (.cells cs 2)) 2 1 (.slice (some ⟨w.heap.size, 0, none⟩) 1 (wk.length + 1)) (some w.heap.size) 1 [.int .i64 0] from
    ⟨rfl, .inr ⟨w.heap.size, wk.length + 1, cs, rfl, rfl, Blk.new _ _ _, by omega, by simp only [maxLen]; omega, by omega, by
      have h1 : 0 < cs.toList.length := by simp; omega
      have h2 : cs[0] = .int .i64 0 := by rw [Array.getElem?_eq_some_iff] at hc0; exact hc0.2
      rw [show 1 * 1 = 0 + 1 by rfl, List.take_succ_eq_append_getElem h1]; simp [h2]⟩⟩)
  clear hcs hsz hc0
  go_enter Try.func116, Try.ntmps116
  have hq : (w.alloc (.cells cs 2)).cell? ⟨g, 0, none⟩ = some (.slice A wk.length k) := (World.cell?_alloc_lt _ _ _ hgl).trans q
  go_wp2_with fail
  clear hmk
  go_loopw [3, 18] (fun v i wr => ∃ (j : Nat) (r : Option Nat), j ≤ wk.length ∧ i = .int .i64 j ∧ Own wr 2 1 v r (j + 1) ((sumsN wk j).map V64) ∧ (∀ q, r = some q → w.heap.size ≤ q) ∧ Touch (fun _ => False) w wr) (fun _ i _ => wk.length - (intOf i).toNat)
  case atStart => exact ⟨0, some w.heap.size, by omega, rfl, HO.out, (fun q e => by injection e with e; omega), (Touch.refl _ _).alloc _⟩
  case round =>
    clear HO
    obtain ⟨j, r, hj, rfl, ho, hk, hT⟩ := hrel
    obtain ⟨A0, c0, rfl, hc1, hc2⟩ := ho.form
    have HO := Lib.hid ho
    have HK := Lib.hid hk
    have HT := Lib.hid hT
    clear ho hk hT
    by_cases hjk : j < wk.length
    · have ha : wk[j]? = some (wk[j]'hjk) := List.getElem?_eq_getElem _
      obtain ⟨g', off, rfl, hg', -, hc0', hc1'⟩ := (HP.out.row.touch HT.out (fun _ _ e => e)).at_ ha
      have hsm := HMem.out _ (List.getElem_mem hjk)
      have HS := Lib.hid (longS_take wk j _ ha)
      have HN := Lib.hid (sumsN_succ wk j)
      have hbd := HB.out j
      have hbd1 := HB.out (j + 1)
      have hlb := HLb.out
      obtain ⟨A1, c1, e1, -, -, -, hrd⟩ := HO.out.rd
      injection e1 with e1 e2 e3
      subst e1 e3
      obtain ⟨g0, o0, rfl, hg0, hr0, hcc⟩ := hrd.2 (by omega)
      have hx0 := hcc j (V64 (longS (wk.take j))) (by rw [List.getElem?_map, sumsN_get wk j j (by omega)]; rfl)
      simp only [V64] at hx0
      clear hcc hrd e2
      generalize hxs : (sumsN wk j).map V64 = xs at *
      have HX := Lib.hid hxs
      clear hxs
      generalize longS (wk.take j) = x at *
      generalize wk[j]'hjk = s at *
      obtain ⟨f, t⟩ := s
      simp only at hc0' hc1' hsm HS
      clear ha
      have hgb : g0 < wr.heap.size := hg0
      have hq0 : (wr.alloc (.cells #[.int .i64 f, .int .i64 t] 165)).cell? ⟨g0, o0 + j, none⟩ = some (.int .i64 x) := (World.cell?_alloc_lt _ _ _ hgb).trans hx0
      have hw1 : IntKind.i64.wrap (x + t) = x + t := IntWalk.i64_in _ (by omega)
      have hw2 : IntKind.i64.wrap (x + t - f) = x + t - f := IntWalk.i64_in _ (by omega)
      have hjb : (j : Int) < (j : Int) + 1 := by omega
      go_wp2_with fail
      refine wp_region_plan [(0, 1), (0, 2), (0, 3), (0, 4), (0, 5), (0, 6), (0, 7), (0, 8), (0, 9), (0, 10), (1, 0), (2, 11), (2, 12), (0, 13)] (fun q => r = some q) (by kernel_rfl) (by kernel_rfl) (fun c a d v w h => by cases d <;> exact h) ?_
      iterate 10
        refine plan_s1 rfl (by rfl) (fun Kc hKc => ?_)
        go_simp
        first
          | (refine hKc _ ?_)
        clear hKc Kc
      iterate 1
        first
          | (apply plan_h
             · rfl
             · rfl
             · intro wh hT
               go_simp
               try rfl
             go_frame)
          | (refine plan_hn rfl (by rfl) ?_; go_frame)
      refine plan_a1 rfl (by rfl) (fun Kc hKc => ?_)
      go_simp
      refine hKc _ _ ⟨(Touch.refl _ _).alloc _, ?_⟩
      clear hKc Kc
      refine plan_a1 rfl (by rfl) (fun Kc hKc => ?_)
      refine append64 _ _ rfl xs (j + 1) (x + t - f) (wr.heap.size + 1) 1 (.slice (some ⟨g0, o0, none⟩) (j + 1) c0) r rfl rfl ?_ ?_ (by omega) ?_
      · exact HO.out.touch ((((Touch.refl (fun _ => False) wr).alloc _).drew).alloc _) (fun _ _ e => e)
      · exact (show Blk ((wr.alloc (.cells #[.int .i64 f, .int .i64 t] 165)).alloc (.cells #[.int .i64 (x + t - f)] 2)) (wr.heap.size + 1) _ _ by simpa using Blk.new (wr.alloc (.cells #[.int .i64 f, .int .i64 t] 165)) 2 #[.int .i64 (x + t - f)])
      intro v2 w2 r2 ho2 ht2 hr2
      refine hKc _ _ ⟨ht2, ?_⟩
      clear hKc Kc
      obtain ⟨A2, c2, rfl, -, -⟩ := ho2.form
      have HQ := Lib.hid (And.intro ho2 (And.intro ht2 hr2))
      clear ho2 ht2 hr2
      iterate 1
        refine plan_s1 rfl (by rfl) (fun Kc hKc => ?_)
        go_simp
        first
          | (refine hKc _ ?_)
        clear hKc Kc
      refine plan_done ?_
      clear hw1 hw2 hjb
      go_wp2
      go_roundw
      case rel =>
        obtain ⟨ho2, ht2, hr2⟩ := HQ.out
        have hs := HT.out.size
        refine ⟨j + 1, r2, by omega, by go_num, ?_, fun q e => ?_, ((HT.out.alloc _).alloc _).drew.trans ht2 (fun q hq e => by have := HK.out q e; omega)⟩
        · rw [HN.out, List.map_append, HX.out, HS.out]; exact ho2
        · rcases hr2 with e' | ⟨q', e', hq'⟩
          · exact HK.out q (e'.symm.trans e)
          · rw [e'] at e; injection e with e; simp at hq'; omega
      case measure => simp [intOf]; omega
    · obtain rfl : j = wk.length := by omega
      generalize hL : sumsN wk wk.length = L at *
      have hLl : L.length = wk.length + 1 := by rw [← hL, sumsN_len]
      have HL := Lib.hid hLl
      clear hL hLl
      go_wp2
      go_ret
      obtain ⟨A1, c1, e1, k1, k2, -, hrd⟩ := HO.out.rd
      injection e1 with e1 e2 e3
      subst e1 e3
      exact ⟨A0, c0, by rw [HL.out]; rfl, by rw [HL.out]; exact k1, k2, by rw [HL.out]; exact hrd.mono HK.out, HT.out⟩
end Go.Proofs.Ytcblbjhhlnmkjaa
