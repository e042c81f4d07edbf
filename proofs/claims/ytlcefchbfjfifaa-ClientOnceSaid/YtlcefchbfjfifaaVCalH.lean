/- week's sums: how many open seconds are ahead of each span. sync.Once, sync/atomic and the lock, at the cells of a lazy cell. Package lazy: fill, Get. Package lazy: Do, Get; a plan and its lazy cell. Package span: Right, Row, common, Cut. -/
import Derived.Test.YtlcefchbfjfifaaVCalG
import Derived.Tactics
import Derived.Tactics2
import Derived.Defers
import Derived.Laws.Pointers
import Derived.Laws.LoneSync
import Derived.RegionTactic
import Derived.RegionCalls
import Derived.Laws.EntriesVeiled
section
namespace Go.Proofs.Ytlcefchbfjfifaa
open Go.RowKit Cal
set_option maxHeartbeats 4000000
set_option maxRecDepth 100000
set_option linter.unusedVariables false
attribute [local irreducible] wpPlan

def V64 (x : Int) : Value := .int .i64 x
theorem V64_one (l : List Int) : ∀ u ∈ l.map V64, u.oneCell' = true := by
  intro u hu
  obtain ⟨x, -, rfl⟩ := List.mem_map.1 hu
  rfl
theorem info64 : (Try.prog.info? 2).map (fun i => (i.zero, i.size, i.bytes)) = some (some (.int .i64 0), 1, 8) := by kernel_rfl
/-- A new slice that reads as these numbers. -/
def NewInts (w : World) (l : List Int) (e : Ending) (w' : World) : Prop :=
  ∃ A c, e = .returned (.slice A l.length c) ∧ l.length ≤ c ∧ c ≤ maxLen ∧ Rd w' (fun k => w.heap.size ≤ k) A l.length (l.map V64) ∧ Touch (fun _ => False) w w'
theorem append64 {o : Oper} {a : Act} {K : Act → World → Prop} {Q : Exit → Act → World → Prop} {w : World} (s x : Operand)
    (ho : o.op = .call { callee := .builtin .append, args := #[s, x], argTypes := #[141, 141] })
    (xs : List Value) (m : Nat) (n : Int) (g c : Nat) (v : Value) (r : Option Nat) (hsv : a.eval s = v) (hx : a.eval x = .slice (some ⟨g, 0, none⟩) 1 c) (h1 : Own w 2 1 v r m xs) (hb : Blk w g 2 #[.int .i64 n]) (hsm : m + 1 ≤ 1000000)
    (h : ∀ v' w' r', Own w' 2 1 v' r' (m + 1) (xs ++ [.int .i64 n]) → Touch (fun k => r = some k) w w' → (r' = r ∨ ∃ k, r' = some k ∧ w.heap.size ≤ k) → K (a.put o.dst v') w') : o.wp Try.prog a w K Q := by
  obtain ⟨i0, hi, hz0, hz1, hz2⟩ := info_parts info64
  refine wp_own_append s x 141 141 ho 2 i0 (.int .i64 0) 1 8 Try.underlying141 hi hz0 hz1 hz2 rfl v r m xs hsv h1 _ 1 [.int .i64 n] hx
    (Src.lit Try.underlying141 g 1 c 2 #[.int .i64 n] hb rfl (fun u hu => by simp at hu; subst hu; rfl)) (by simp only [maxLen]; omega) (by omega) ?_
  intro v1 r1 w2 ho2 ht2 hr2
  exact h v1 w2 r1 ho2 ht2 hr2
theorem madeCells_head (n : Nat) : ∃ cs : Array Value, madeCells #[.int .i64 0] (n + 1) = cs ∧ cs.size = n + 1 ∧ cs[0]? = some (.int .i64 0) := by
  refine ⟨_, rfl, size_madeCells _ _, ?_⟩
  simp [madeCells]
/-- A plan: its row and its lazy cell. -/
structure PlAt (w : World) (g : Nat) (wk : List Sp) (A : Option Addr) (k : Nat) (b : Nat) (F : Nat → Prop) : Prop where
  blk : Blk w g 179 #[.slice A wk.length k, .pointer (some ⟨b, 0, none⟩)]
  row : SpR w F A wk.length wk
theorem PlAt.touch {w w' : World} {g : Nat} {wk : List Sp} {A : Option Addr} {k b : Nat} {F S : Nat → Prop} (h : PlAt w g wk A k b F) (ht : Touch S w w') (hg : ¬ S g) (hd : ∀ k, F k → ¬ S k) : PlAt w' g wk A k b F := ⟨ht.blk h.blk hg, h.row.touch ht hd⟩
theorem sums_any (g : Nat) (wk : List Sp) (A : Option Addr) (k b : Nat) (F : Nat → Prop) (w : World) (h : PlAt w g wk A k b F) (hw : Week wk) :
    Calls Try.prog 98 #[.pointer (some ⟨g, 0, none⟩)] w (NewInts w (sumsN wk wk.length)) := by
  have hlen := hw.2.1
  have q := h.blk.cell 0
  simp at q
  have HP := Lib.hid h
  have HB := Lib.hid (sums_bd hw)
  have HLb := Lib.hid hw.len_bd
  have HMem := Lib.hid (fun s (hs : s ∈ wk) => Row.mem hw.1 s hs)
  have hgl := h.blk.lt
  clear h hw
  obtain ⟨i0, hi, hz0, hz1, hz2⟩ := info_parts info64
  obtain ⟨cs, hcs, hsz, hc0⟩ := madeCells_head wk.length
  have hmk : ∀ w, (Instr.makeSlice 141 (.int .i64 1) (.int .i64 (wk.length + 1))).run Try.prog w = .ok (.slice (some ⟨w.heap.size, 0, none⟩) 1 (wk.length + 1)) (w.alloc (.cells cs 2)) := by
    intro w
    have := run_make (P := Try.prog) w 141 2 i0 (.int .i64 0) Try.underlying141 hi hz0 .i64 .i64 1 (wk.length + 1) (by omega) (by omega) (by rw [hz2]; omega) (by omega)
    rw [this, hz1]
    simp only [Value.cells, Nat.mul_one]
    rw [show ((wk.length : Int) + 1).toNat = wk.length + 1 by omega, hcs]; rfl
  have HO := Lib.hid (show Own (w.alloc (.cells cs 2)) 2 1 (.slice (some ⟨w.heap.size, 0, none⟩) 1 (wk.length + 1)) (some w.heap.size) 1 [.int .i64 0] from
    ⟨rfl, .inr ⟨w.heap.size, wk.length + 1, cs, rfl, rfl, Blk.new _ _ _, by omega, by simp only [maxLen]; omega, by omega, by
      have h1 : 0 < cs.toList.length := by simp; omega
      have h2 : cs[0] = .int .i64 0 := by rw [Array.getElem?_eq_some_iff] at hc0; exact hc0.2
      rw [show 1 * 1 = 0 + 1 by rfl, List.take_succ_eq_append_getElem h1]; simp [h2]⟩⟩)
  clear hcs hsz hc0
  go_enter Try.func98, Try.ntmps98
  have hq : (w.alloc (.cells cs 2)).cell? ⟨g, 0, none⟩ = some (.slice A wk.length k) := (World.cell?_alloc_lt _ _ _ hgl).trans q
  go_wp2_with fail
  clear hmk
  go_loopw [3, 18] (fun v i wr => ∃ (j : Nat) (r : Option Nat), j ≤ wk.length ∧ i = .int .i64 j ∧ Own wr 2 1 v r (j + 1) ((sumsN wk j).map V64) ∧ (∀ q, r = some q → w.heap.size ≤ q) ∧ Touch (fun _ => False) w wr) (fun _ i _ => wk.length - (intOf i).toNat)
  case atStart => exact ⟨0, some w.heap.size, by omega, rfl, HO.out, (fun q e => by injection e with e; omega), (Touch.refl _ _).alloc _⟩
  case round =>
    clear HO
    obtain ⟨j, r, hj, rfl, ho, hk, hT⟩ := hrel
    obtain ⟨A0, c0, rfl, hc1, hc2⟩ := ho.form
    have HO := Lib.hid ho
    have HK := Lib.hid hk
    have HT := Lib.hid hT
    clear ho hk hT
    by_cases hjk : j < wk.length
    · have ha : wk[j]? = some (wk[j]'hjk) := List.getElem?_eq_getElem _
      obtain ⟨g', off, rfl, hg', -, hc0', hc1'⟩ := (HP.out.row.touch HT.out (fun _ _ e => e)).at_ ha
      have hsm := HMem.out _ (List.getElem_mem hjk)
      have HS := Lib.hid (longS_take wk j _ ha)
      have HN := Lib.hid (sumsN_succ wk j)
      have hbd := HB.out j
      have hbd1 := HB.out (j + 1)
      have hlb := HLb.out
      obtain ⟨A1, c1, e1, -, -, -, hrd⟩ := HO.out.rd
      injection e1 with e1 e2 e3
      subst e1 e3
      obtain ⟨g0, o0, rfl, hg0, hr0, hcc⟩ := hrd.2 (by omega)
      have hx0 := hcc j (V64 (longS (wk.take j))) (by rw [List.getElem?_map, sumsN_get wk j j (by omega)]; rfl)
      simp only [V64] at hx0
      clear hcc hrd e2
      generalize hxs : (sumsN wk j).map V64 = xs at *
      have HX := Lib.hid hxs
      clear hxs
      generalize longS (wk.take j) = x at *
      generalize wk[j]'hjk = s at *
      obtain ⟨f, t⟩ := s
      simp only at hc0' hc1' hsm HS
      clear ha
      have hgb : g0 < wr.heap.size := hg0
      have hq0 : (wr.alloc (.cells #[.int .i64 f, .int .i64 t] 140)).cell? ⟨g0, o0 + j, none⟩ = some (.int .i64 x) := (World.cell?_alloc_lt _ _ _ hgb).trans hx0
      have hw1 : IntKind.i64.wrap (x + t) = x + t := IntWalk.i64_in _ (by omega)
      have hw2 : IntKind.i64.wrap (x + t - f) = x + t - f := IntWalk.i64_in _ (by omega)
      have hjb : (j : Int) < (j : Int) + 1 := by omega
      go_wp2_with fail
      refine wp_region_plan [(0, 1), (0, 2), (0, 3), (0, 4), (0, 5), (0, 6), (0, 7), (0, 8), (0, 9), (0, 10), (1, 0), (2, 11), (2, 12), (0, 13)] (fun q => r = some q) (by kernel_rfl) (by kernel_rfl) (fun c a d v w h => by cases d <;> exact h) ?_
      iterate 10
        refine plan_s1 rfl (by rfl) (fun Kc hKc => ?_)
        go_simp
        first
          | (refine hKc _ ?_)
        clear hKc Kc
      iterate 1
        first
          | (apply plan_h
             · rfl
             · rfl
             · intro wh hT
               go_simp
               try rfl
             go_frame)
          | (refine plan_hn rfl (by rfl) ?_; go_frame)
      refine plan_a1 rfl (by rfl) (fun Kc hKc => ?_)
      go_simp
      refine hKc _ _ ⟨(Touch.refl _ _).alloc _, ?_⟩
      clear hKc Kc
      refine plan_a1 rfl (by rfl) (fun Kc hKc => ?_)
      refine append64 _ _ rfl xs (j + 1) (x + t - f) (wr.heap.size + 1) 1 (.slice (some ⟨g0, o0, none⟩) (j + 1) c0) r rfl rfl ?_ ?_ (by omega) ?_
      · exact HO.out.touch ((((Touch.refl (fun _ => False) wr).alloc _).drew).alloc _) (fun _ _ e => e)
      · exact (show Blk ((wr.alloc (.cells #[.int .i64 f, .int .i64 t] 140)).alloc (.cells #[.int .i64 (x + t - f)] 2)) (wr.heap.size + 1) _ _ by simpa using Blk.new (wr.alloc (.cells #[.int .i64 f, .int .i64 t] 140)) 2 #[.int .i64 (x + t - f)])
      intro v2 w2 r2 ho2 ht2 hr2
      refine hKc _ _ ⟨ht2, ?_⟩
      clear hKc Kc
      obtain ⟨A2, c2, rfl, -, -⟩ := ho2.form
      have HQ := Lib.hid (And.intro ho2 (And.intro ht2 hr2))
      clear ho2 ht2 hr2
      iterate 1
        refine plan_s1 rfl (by rfl) (fun Kc hKc => ?_)
        go_simp
        first
          | (refine hKc _ ?_)
        clear hKc Kc
      refine plan_done ?_
      clear hw1 hw2 hjb
      go_wp2
      go_roundw
      case rel =>
        obtain ⟨ho2, ht2, hr2⟩ := HQ.out
        have hs := HT.out.size
        refine ⟨j + 1, r2, by omega, by go_num, ?_, fun q e => ?_, ((HT.out.alloc _).alloc _).drew.trans ht2 (fun q hq e => by have := HK.out q e; omega)⟩
        · rw [HN.out, List.map_append, HX.out, HS.out]; exact ho2
        · rcases hr2 with e' | ⟨q', e', hq'⟩
          · exact HK.out q (e'.symm.trans e)
          · rw [e'] at e; injection e with e; simp at hq'; omega
      case measure => simp [intOf]; omega
    · obtain rfl : j = wk.length := by omega
      generalize hL : sumsN wk wk.length = L at *
      have hLl : L.length = wk.length + 1 := by rw [← hL, sumsN_len]
      have HL := Lib.hid hLl
      clear hL hLl
      go_wp2
      go_ret
      obtain ⟨A1, c1, e1, k1, k2, -, hrd⟩ := HO.out.rd
      injection e1 with e1 e2 e3
      subst e1 e3
      exact ⟨A0, c0, by rw [HL.out]; rfl, by rw [HL.out]; exact k1, k2, by rw [HL.out]; exact hrd.mono HK.out, HT.out⟩
end Go.Proofs.Ytlcefchbfjfifaa
end

section
namespace Go.Proofs.Ytlcefchbfjfifaa
open Go.RowKit Cal
set_option maxHeartbeats 4000000
set_option maxRecDepth 100000
set_option linter.unusedVariables false

end Go.Proofs.Ytlcefchbfjfifaa
end

section
namespace Go.Proofs.Ytlcefchbfjfifaa
open Go.RowKit Cal
set_option maxHeartbeats 4000000
set_option maxRecDepth 100000
set_option linter.unusedVariables false

/-- The cells of a lazy cell. -/
def lzC (d st sm md : Int) (ak : Int) (bd v : Value) : Array Value := #[.int .u32 d, .int .i32 st, .int .u32 sm, .int .u32 md, .int .i64 ak, bd, v]
def sumsF (g : Nat) : Value := .func (.func 98) #[.pointer (some ⟨g, 0, none⟩)] #[]
def FillP (b : Nat) (d st sm : Int) (ak : Int) (l : List Int) (w : World) (e : Ending) (w' : World) : Prop :=
  ∃ A c, e = .returned (.tuple #[]) ∧ Blk w' b 200 (lzC d st sm 1 ak .nilFunc (.slice A l.length c)) ∧ Rd w' (fun k => w.heap.size ≤ k) A l.length (l.map V64) ∧ Touch (fun q => q = b) w w'
end Go.Proofs.Ytlcefchbfjfifaa
end

section
namespace Go.Proofs.Ytlcefchbfjfifaa
open Go.RowKit Cal
set_option maxHeartbeats 4000000
set_option maxRecDepth 100000
set_option linter.unusedVariables false

/-- What a lazy cell holds. -/
def LzAt (w : World) (b g : Nat) (wk : List Sp) (G : Nat → Prop) : Prop :=
  (∃ sm ak, Blk w b 200 (lzC 0 0 sm 0 ak (sumsF g) (.slice none 0 0))) ∨
  (∃ sm ak A c, Blk w b 200 (lzC 1 0 sm 1 ak .nilFunc (.slice A (wk.length + 1) c)) ∧ Rd w G A (wk.length + 1) ((sumsN wk wk.length).map V64))
/-- A plan at block g, its lazy cell at block b; all the rest lies in G. -/
structure PnAt (w : World) (g : Nat) (wk : List Sp) (b : Nat) (G : Nat → Prop) : Prop where
  pl : ∃ A k, PlAt w g wk A k b G
  lz : LzAt w b g wk G
  gG : G g
  nb : ¬ G b
  wk : Week wk
theorem LzAt.lt {w : World} {b g : Nat} {wk : List Sp} {G : Nat → Prop} (h : LzAt w b g wk G) : b < w.heap.size := by
  rcases h with ⟨sm, ak, hb⟩ | ⟨sm, ak, A, c, hb, _⟩ <;> exact hb.lt
theorem LzAt.touch {w w' : World} {b g : Nat} {wk : List Sp} {G S : Nat → Prop} (h : LzAt w b g wk G) (ht : Touch S w w') (hb : ¬ S b) (hG : ∀ q, G q → ¬ S q) : LzAt w' b g wk G := by
  rcases h with ⟨sm, ak, h1⟩ | ⟨sm, ak, A, c, h1, h2⟩
  · exact .inl ⟨sm, ak, ht.blk h1 hb⟩
  · exact .inr ⟨sm, ak, A, c, ht.blk h1 hb, h2.touch ht hG⟩
theorem LzAt.mono {w : World} {b g : Nat} {wk : List Sp} {G G' : Nat → Prop} (h : LzAt w b g wk G) (hG : ∀ q, G q → G' q) : LzAt w b g wk G' := by
  rcases h with ⟨sm, ak, h1⟩ | ⟨sm, ak, A, c, h1, h2⟩
  · exact .inl ⟨sm, ak, h1⟩
  · exact .inr ⟨sm, ak, A, c, h1, h2.mono hG⟩
theorem PnAt.touch {w w' : World} {g : Nat} {wk : List Sp} {b : Nat} {G S : Nat → Prop} (h : PnAt w g wk b G) (ht : Touch S w w') (hb : ¬ S b) (hG : ∀ q, G q → ¬ S q) : PnAt w' g wk b G := by
  obtain ⟨A, k, hp⟩ := h.pl
  exact ⟨⟨A, k, hp.touch ht (hG g h.gG) hG⟩, h.lz.touch ht hb hG, h.gG, h.nb, h.wk⟩
theorem PlAt.mono {w : World} {g : Nat} {wk : List Sp} {A : Option Addr} {k b : Nat} {F F' : Nat → Prop} (h : PlAt w g wk A k b F) (hF : ∀ q, F q → F' q) : PlAt w g wk A k b F' := ⟨h.blk, h.row.mono hF⟩
/-- The blocks that grow behind a Get. -/
def More (G : Nat → Prop) (w w' : World) : Nat → Prop := fun q => G q ∨ (w.heap.size ≤ q ∧ q < w'.heap.size)
theorem PnAt.more {w w' : World} {g : Nat} {wk : List Sp} {b : Nat} {G S : Nat → Prop} (h : PnAt w g wk b G) (ht : Touch S w w') (hb : ¬ S b) (hG : ∀ q, G q → ¬ S q) : PnAt w' g wk b (More G w w') := by
  have h' := h.touch ht hb hG
  obtain ⟨A, k, hp⟩ := h'.pl
  have hbl := h.lz.lt
  exact ⟨⟨A, k, hp.mono (fun q hq => .inl hq)⟩, h'.lz.mono (fun q hq => .inl hq), .inl h'.gG, (fun e => by rcases e with e | e; exact h.nb e; omega), h.wk⟩
theorem more_trans {G : Nat → Prop} {w w1 w2 : World} (h1 : w.heap.size ≤ w1.heap.size) (h2 : w1.heap.size ≤ w2.heap.size) : ∀ q, More (More G w w1) w1 w2 q → More G w w2 q := by
  intro q hq
  rcases hq with (hq | hq) | hq
  · exact .inl hq
  · exact .inr (by omega)
  · exact .inr (by omega)
theorem PnAt.grow {w : World} {g : Nat} {wk : List Sp} {b : Nat} {G G' : Nat → Prop} (h : PnAt w g wk b G) (hG : ∀ q, G q → G' q) (hb : ¬ G' b) : PnAt w g wk b G' := by
  obtain ⟨A, k, hp⟩ := h.pl
  exact ⟨⟨A, k, hp.mono hG⟩, h.lz.mono hG, hG _ h.gG, hb, h.wk⟩
def GetP (g : Nat) (wk : List Sp) (b : Nat) (G : Nat → Prop) (w : World) (e : Ending) (w' : World) : Prop :=
  ∃ A c, e = .returned (.slice A (wk.length + 1) c) ∧ Rd w' (More G w w') A (wk.length + 1) ((sumsN wk wk.length).map V64) ∧ PnAt w' g wk b (More G w w') ∧ Touch (fun q => q = b) w w'
theorem Rd.near_ {w : World} {F : Nat → Prop} {A : Option Addr} {n : Nat} {xs : List Value} (h : Rd w F A n xs) : Rd w (fun k => F k ∧ k < w.heap.size) A n xs :=
  ⟨h.1, fun hn => by obtain ⟨g, off, e, hl, hf, hc⟩ := h.2 hn; exact ⟨g, off, e, hl, ⟨hf, hl⟩, hc⟩⟩
theorem GetP.mk {g : Nat} {wk : List Sp} {b : Nat} {G : Nat → Prop} {w w' : World} (h : PnAt w g wk b G) (ht : Touch (fun q => q = b) w w') (sm ak : Int) (A : Option Addr) (c n : Nat) (hn : n = wk.length + 1)
    (hb : Blk w' b 200 (lzC 1 0 sm 1 ak .nilFunc (.slice A n c))) (hr : Rd w' (More G w w') A n ((sumsN wk wk.length).map V64)) : GetP g wk b G w (.returned (.slice A n c)) w' := by
  subst hn
  have hGb : ∀ q, G q → ¬ q = b := fun q hq e => by subst e; exact h.nb hq
  obtain ⟨A1, k1, hp⟩ := h.pl
  have hbl := h.lz.lt
  exact ⟨A, c, rfl, hr, ⟨⟨A1, k1, (hp.touch ht (hGb g h.gG) hGb).mono (fun q hq => .inl hq)⟩, .inr ⟨sm, ak, A, c, hb, hr⟩, .inl h.gG, (fun e => by rcases e with e | e; exact h.nb e; omega), h.wk⟩, ht⟩
end Go.Proofs.Ytlcefchbfjfifaa
end

section
namespace Go.Proofs.Ytlcefchbfjfifaa
open Go.RowKit Cal
set_option maxHeartbeats 4000000
set_option maxRecDepth 100000
set_option linter.unusedVariables false
attribute [local irreducible] wpPlan

theorem right_any (a b : Int) (w : World) : Calls Try.prog 99 #[.agg #[.int .i64 a, .int .i64 b]] w fun e w' => e = .returned (.bool (rightB ⟨a, b⟩)) ∧ Touch (fun _ => False) w w' := by
  have HT := Lib.hid ((Touch.refl (fun _ => False) w).alloc (.cells #[.int .i64 a, .int .i64 b] 140))
  go_enter Try.func99, Try.ntmps99
  go_wp2
  all_goals go_ret
  all_goals exact ⟨ret_bool (by simp only [rightB]; simp <;> omega), HT.out⟩
theorem row_any (F : Nat → Prop) (A : Option Addr) (c : Nat) (l : List Sp) (w : World) (hr : SpR w F A l.length l) (hsm : l.length ≤ 1000000) :
    Calls Try.prog 95 #[.slice A l.length c] w fun e w' => e = .returned (.int .i64 (rowE l)) ∧ Touch (fun _ => False) w w' := by
  have HR := Lib.hid hr
  clear hr
  by_cases hlong : 32 < l.length
  · have HV := Lib.hid (show rowE l = 21 by unfold rowE; rw [if_pos hlong])
    have hd : decide ((32 : Int) < (l.length : Int)) = true := by simp; omega
    go_enter Try.func95, Try.ntmps95
    go_wp2
    go_ret
    exact ⟨ret_int HV.out.symm, Touch.refl _ _⟩
  · have HV := Lib.hid (show rowE l = rowsE 0 l by unfold rowE; rw [if_neg hlong])
    have hd : ¬ (32 : Int) < (l.length : Int) := by omega
    go_enter Try.func95, Try.ntmps95
    go_wp2_with fail
    go_loopw [3, 11] (fun x i wr => ∃ j : Nat, j ≤ l.length ∧ i = .int .i64 j ∧ x = .int .i64 (endAt l j) ∧ rowsE (endAt l j) (l.drop j) = rowE l ∧ Touch (fun _ => False) w wr) (fun _ i _ => l.length - (intOf i).toNat)
    case atStart => exact ⟨0, by omega, rfl, rfl, by rw [HV.out]; rfl, Touch.refl _ _⟩
    case round =>
      clear HV
      obtain ⟨j, hj, rfl, rfl, hv, hT⟩ := hrel
      have HV := Lib.hid hv
      have HT := Lib.hid hT
      clear hv hT
      by_cases hjk : j < l.length
      · have ha : l[j]? = some (l[j]'hjk) := List.getElem?_eq_getElem _
        obtain ⟨g, off, rfl, hg, -, hc0, hc1⟩ := (HR.out.touch HT.out (fun _ _ e => e)).at_ ha
        have HD := Lib.hid (rows_drop l (endAt l j) j _ ha)
        have HE := Lib.hid (endAt_succ l j _ ha)
        generalize endAt l j = x at *
        generalize l[j]'hjk = s at *
        obtain ⟨f, t⟩ := s
        simp only at hc0 hc1 HE
        have HTb := Lib.hid ((Touch.refl (fun _ => False) wr).alloc (.cells #[.int .i64 f, .int .i64 t] 140))
        have HBb := Lib.hid (Blk.new wr 140 #[.int .i64 f, .int .i64 t])
        clear ha
        cases hb : rightB ⟨f, t⟩
        · have HB := Lib.hid hb
          have HV2 := Lib.hid (show rowE l = 2 by rw [← HV.out, HD.out, hb]; simp)
          clear hb
          go_wp2_with (go_at_call 99; go_must (refine (right_any _ _ _).mono ?_); rintro e w1 ⟨rfl, t1⟩; rw [HB.out]; have HT2 := Lib.hid ((HT.out.trans HTb.out (fun _ _ e => e)).trans t1 (fun _ _ e => e)); clear t1)
          go_ret
          exact ⟨ret_int HV2.out.symm, HT2.out⟩
        · have HB := Lib.hid hb
          by_cases hx : f < x
          · have HV2 := Lib.hid (show rowE l = 2 by rw [← HV.out, HD.out, hb]; simp [hx])
            clear hb
            go_wp2_with (go_at_call 99; go_must (refine (right_any _ _ _).mono ?_); rintro e w1 ⟨rfl, t1⟩; rw [HB.out]; have HT2 := Lib.hid ((HT.out.trans HTb.out (fun _ _ e => e)).trans t1 (fun _ _ e => e)); have q0 := (t1.blk HBb.out (fun e => e)).cell 0; have q1 := (t1.blk HBb.out (fun e => e)).cell 1; simp at q0 q1; clear t1)
            go_ret
            exact ⟨ret_int HV2.out.symm, HT2.out⟩
          · have HV2 := Lib.hid (show rowsE t (l.drop (j + 1)) = rowE l by rw [← HV.out, HD.out, hb]; simp [hx])
            clear hb
            go_wp2_with (go_at_call 99; go_must (refine (right_any _ _ _).mono ?_); rintro e w1 ⟨rfl, t1⟩; rw [HB.out]; have HT2 := Lib.hid ((HT.out.trans HTb.out (fun _ _ e => e)).trans t1 (fun _ _ e => e)); have q0 := (t1.blk HBb.out (fun e => e)).cell 0; have q1 := (t1.blk HBb.out (fun e => e)).cell 1; simp at q0 q1; clear t1)
            go_roundw
            case rel => exact ⟨j + 1, by omega, by go_num, by rw [HE.out], by rw [HE.out]; exact HV2.out, HT2.out⟩
            case measure => simp [intOf]; omega
      · obtain rfl : j = l.length := by omega
        have HV2 := Lib.hid (show rowE l = 0 by rw [← HV.out, List.drop_length]; rfl)
        go_wp2
        go_ret
        exact ⟨ret_int HV2.out.symm, HT.out⟩
end Go.Proofs.Ytlcefchbfjfifaa
end
