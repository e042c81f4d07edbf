/- When two replies are the same: reply.Same, ref19.Same; reply.Refused; law19.Light. -/
import Derived.Test.YtmgmjehebbggaaaVRepJ
namespace Go.Proofs.Ytmgmjehebbggaaa
open Go.RowKit
set_option maxHeartbeats 4000000
set_option maxRecDepth 100000
set_option linter.unusedVariables false

/-- Any reply, as numbers. -/
structure RpV where
  code : Int
  time : Int
  t : TkV
  fired : List Nat
  notice : Nat
  dead : Int
def tkEq (a b : TkV) : Bool := decide (a.id = b.id ∧ a.contract = b.contract ∧ a.state = b.state ∧ a.level = b.level ∧ a.gen = b.gen ∧ a.from_ = b.from_ ∧ a.left = b.left ∧ a.due = b.due ∧ a.told = b.told)
def rpPlain (a b : RpV) : Bool := decide (a.code = b.code ∧ a.time = b.time ∧ tkEq a.t b.t = true ∧ a.notice = b.notice ∧ a.dead = b.dead)
def rpSame (a b : RpV) : Bool := rpPlain a b && decide (a.fired = b.fired)
theorem tkEq_refl (a : TkV) : tkEq a a = true := by simp [tkEq]
theorem rpSame_refl (a : RpV) : rpSame a a = true := by simp [rpSame, rpPlain, tkEq_refl]
theorem rpSame_eq {a b : RpV} (h : rpSame a b = true) : a = b := by
  obtain ⟨c, ti, ⟨t1, t2, t3, t4, t5, t6, t7, t8, t9⟩, f, n, d⟩ := a
  obtain ⟨c', ti', ⟨u1, u2, u3, u4, u5, u6, u7, u8, u9⟩, f', n', d'⟩ := b
  simp [rpSame, rpPlain, tkEq] at h
  obtain ⟨⟨rfl, rfl, ⟨rfl, rfl, rfl, rfl, rfl, rfl, rfl, rfl, rfl⟩, rfl, rfl⟩, rfl⟩ := h
  rfl
theorem eqTk (id : Nat) (con st lev : Int) (gen : Nat) (fr le du to_ : Int) (id' : Nat) (con' st' lev' : Int) (gen' : Nat) (fr' le' du' to' : Int) (w : World) :
    (binOp .eql 32 (.agg #[.int .u64 id, .int .i64 con, .int .i64 st, .int .i64 lev, .int .u64 gen, .int .i64 fr, .int .i64 le, .int .i64 du, .int .i64 to_]) (.agg #[.int .u64 id', .int .i64 con', .int .i64 st', .int .i64 lev', .int .u64 gen', .int .i64 fr', .int .i64 le', .int .i64 du', .int .i64 to'])).run Try.prog w =
      .ok (.bool (tkEq ⟨id, con, st, lev, gen, fr, le, du, to_⟩ ⟨id', con', st', lev', gen', fr', le', du', to'⟩)) w := by
  simp [go_sem]
  simp only [tkEq]
  repeat' split
  all_goals (simp_all <;> first | omega | (intros; omega))
theorem neTk (id : Nat) (con st lev : Int) (gen : Nat) (fr le du to_ : Int) (id' : Nat) (con' st' lev' : Int) (gen' : Nat) (fr' le' du' to' : Int) (w : World) :
    (binOp .neq 32 (.agg #[.int .u64 id, .int .i64 con, .int .i64 st, .int .i64 lev, .int .u64 gen, .int .i64 fr, .int .i64 le, .int .i64 du, .int .i64 to_]) (.agg #[.int .u64 id', .int .i64 con', .int .i64 st', .int .i64 lev', .int .u64 gen', .int .i64 fr', .int .i64 le', .int .i64 du', .int .i64 to'])).run Try.prog w =
      .ok (.bool (!tkEq ⟨id, con, st, lev, gen, fr, le, du, to_⟩ ⟨id', con', st', lev', gen', fr', le', du', to'⟩)) w := by
  simp [go_sem]
  simp only [tkEq]
  repeat' split
  all_goals (simp_all <;> first | omega | (intros; omega))
theorem get_U64 {l : List Nat} {j : Nat} (hj : j < l.length) : (l.map U64)[j]? = some (U64 (l.getD j 0)) := by simp [List.getD, List.getElem?_eq_getElem hj]
theorem eqN_take (a b : List Nat) (hl : a.length = b.length) (j : Nat) (hj : j < a.length) : a.take (j + 1) = b.take (j + 1) ↔ a.take j = b.take j ∧ a.getD j 0 = b.getD j 0 := by
  rw [List.take_succ_eq_append_getElem hj, List.take_succ_eq_append_getElem (by omega)]
  simp only [List.getD, List.getElem?_eq_getElem hj, List.getElem?_eq_getElem (show j < b.length by omega), Option.getD_some]
  constructor
  · intro e
    have := List.append_inj e (by simp; omega)
    exact ⟨this.1, by simpa using this.2⟩
  · rintro ⟨e1, e2⟩; rw [e1, e2]

theorem rsameR_any (F F' : Nat → Prop) (A A' : Option Addr) (c c' : Nat) (a b : RpV) (w : World) (hr : Rd w F A a.fired.length (a.fired.map U64)) (hr' : Rd w F' A' b.fired.length (b.fired.map U64)) (hsm : a.fired.length ≤ 1000000) :
    Calls Try.prog 11 #[.agg #[.int .i64 a.code, .int .i64 a.time, .int .u64 a.t.id, .int .i64 a.t.contract, .int .i64 a.t.state, .int .i64 a.t.level, .int .u64 a.t.gen, .int .i64 a.t.from_, .int .i64 a.t.left, .int .i64 a.t.due, .int .i64 a.t.told, .slice A a.fired.length c, .int .u64 a.notice, .int .i64 a.dead], .agg #[.int .i64 b.code, .int .i64 b.time, .int .u64 b.t.id, .int .i64 b.t.contract, .int .i64 b.t.state, .int .i64 b.t.level, .int .u64 b.t.gen, .int .i64 b.t.from_, .int .i64 b.t.left, .int .i64 b.t.due, .int .i64 b.t.told, .slice A' b.fired.length c', .int .u64 b.notice, .int .i64 b.dead]] w fun e w' => e = .returned (.bool (rpSame a b)) ∧ Touch (fun _ => False) w w' := by
  obtain ⟨coa, tia, ⟨ida, cna, sta, lva, gna, fra, lea, dua, toa⟩, xs, noa, dea⟩ := a
  obtain ⟨cob, tib, ⟨idb, cnb, stb, lvb, gnb, frb, leb, dub, tob⟩, ys, nob, deb⟩ := b
  simp only at hr hr' hsm ⊢
  have hbin := fun w => neTk ida cna sta lva gna fra lea dua toa idb cnb stb lvb gnb frb leb dub tob w
  obtain ⟨q, hq⟩ : ∃ q, q = tkEq ⟨ida, cna, sta, lva, gna, fra, lea, dua, toa⟩ ⟨idb, cnb, stb, lvb, gnb, frb, leb, dub, tob⟩ := ⟨_, rfl⟩
  have HS := Lib.hid (show rpSame ⟨coa, tia, ⟨ida, cna, sta, lva, gna, fra, lea, dua, toa⟩, xs, noa, dea⟩ ⟨cob, tib, ⟨idb, cnb, stb, lvb, gnb, frb, leb, dub, tob⟩, ys, nob, deb⟩ = (decide (coa = cob ∧ tia = tib ∧ q = true ∧ noa = nob ∧ dea = deb) && decide (xs = ys)) from by rw [hq]; rfl)
  generalize rpSame ⟨coa, tia, ⟨ida, cna, sta, lva, gna, fra, lea, dua, toa⟩, xs, noa, dea⟩ ⟨cob, tib, ⟨idb, cnb, stb, lvb, gnb, frb, leb, dub, tob⟩, ys, nob, deb⟩ = R at HS ⊢
  rw [← hq] at hbin
  clear hq
  have Hr := Lib.hid hr
  have Hr' := Lib.hid hr'
  clear hr hr'
  by_cases hp : coa = cob ∧ tia = tib ∧ q = true ∧ noa = nob ∧ dea = deb ∧ xs.length = ys.length
  · obtain ⟨rfl, rfl, rfl, rfl, rfl, hl⟩ := hp
    have HL := Lib.hid hl
    rw [← hl] at Hr' ⊢
    clear hl
    have HR := Lib.hid (show R = decide (xs = ys) from by rw [HS.out]; simp)
    obtain ⟨W, hW⟩ : ∃ W, W = (w.alloc (.cells #[.int .i64 coa, .int .i64 tia, .int .u64 ida, .int .i64 cna, .int .i64 sta, .int .i64 lva, .int .u64 gna, .int .i64 fra, .int .i64 lea, .int .i64 dua, .int .i64 toa, .slice A xs.length c, .int .u64 noa, .int .i64 dea] 35)).alloc (.cells #[.int .i64 coa, .int .i64 tia, .int .u64 idb, .int .i64 cnb, .int .i64 stb, .int .i64 lvb, .int .u64 gnb, .int .i64 frb, .int .i64 leb, .int .i64 dub, .int .i64 tob, .slice A' xs.length c', .int .u64 noa, .int .i64 dea] 35) := ⟨_, rfl⟩
    have HA := Lib.hid (show Blk W w.heap.size 35 #[.int .i64 coa, .int .i64 tia, .int .u64 ida, .int .i64 cna, .int .i64 sta, .int .i64 lva, .int .u64 gna, .int .i64 fra, .int .i64 lea, .int .i64 dua, .int .i64 toa, .slice A xs.length c, .int .u64 noa, .int .i64 dea] from hW ▸ (Blk.new w 35 _).alloc _)
    have HB := Lib.hid (show Blk W (w.heap.size + 1) 35 #[.int .i64 coa, .int .i64 tia, .int .u64 idb, .int .i64 cnb, .int .i64 stb, .int .i64 lvb, .int .u64 gnb, .int .i64 frb, .int .i64 leb, .int .i64 dub, .int .i64 tob, .slice A' xs.length c', .int .u64 noa, .int .i64 dea] from hW ▸ (by simpa using Blk.new (w.alloc (.cells #[.int .i64 coa, .int .i64 tia, .int .u64 ida, .int .i64 cna, .int .i64 sta, .int .i64 lva, .int .u64 gna, .int .i64 fra, .int .i64 lea, .int .i64 dua, .int .i64 toa, .slice A xs.length c, .int .u64 noa, .int .i64 dea] 35)) 35 #[.int .i64 coa, .int .i64 tia, .int .u64 idb, .int .i64 cnb, .int .i64 stb, .int .i64 lvb, .int .u64 gnb, .int .i64 frb, .int .i64 leb, .int .i64 dub, .int .i64 tob, .slice A' xs.length c', .int .u64 noa, .int .i64 dea]))
    have HT0 := Lib.hid (show Touch (fun _ => False) w W from hW ▸ ((Touch.refl _ w).alloc _).alloc _)
    have HW := Lib.hid hW
    clear hW
    go_enter Try.func11, Try.ntmps11
    go_wp2_with fail
    rw [← HW.out]
    clear HW
    go_loopw [5] (fun i wr => ∃ j : Nat, j ≤ xs.length ∧ i = .int .i64 j ∧ xs.take j = ys.take j ∧ Touch (fun _ => False) W wr) (fun i _ => xs.length - (intOf i).toNat)
    case atStart => exact ⟨0, by omega, rfl, rfl, Touch.refl _ _⟩
    case round =>
      obtain ⟨j, hj, rfl, hno, hT⟩ := hrel
      have HN := Lib.hid hno
      have HT := Lib.hid hT
      have qa := (hT.blk HA.out (fun e => e)).cell 11
      have qb := (hT.blk HB.out (fun e => e)).cell 11
      simp at qa qb
      clear hno hT
      by_cases hjk : j < xs.length
      · obtain ⟨g, off, rfl, _, _, hc⟩ := (Hr.out.touch (HT0.out.trans HT.out (fun _ _ e => e)) (fun _ _ e => e)).2 (by omega)
        obtain ⟨g', off', rfl, _, _, hc'⟩ := (Hr'.out.touch (HT0.out.trans HT.out (fun _ _ e => e)) (fun _ _ e => e)).2 (by omega)
        have hcj := hc j _ (get_U64 hjk)
        have hcj' := hc' j _ (get_U64 (by rw [← HL.out]; exact hjk))
        simp only [U64] at hcj hcj'
        have HE := Lib.hid (eqN_take xs ys HL.out j hjk)
        generalize xs.getD j 0 = x at *
        generalize ys.getD j 0 = y at *
        clear hc hc'
        by_cases hx : x = y
        · subst hx
          go_wp2_with fail
          refine wp_region_plan [(0, 0), (0, 1), (0, 2), (0, 3), (0, 4), (0, 5), (0, 6), (0, 7), (0, 8), (0, 9), (0, 10)] (fun _ => False) (by kernel_rfl) (by kernel_rfl) (fun c a d v w h => by cases d <;> exact h) ?_
          iterate 11
            first
              | (refine plan_s1 rfl (by rfl) (fun Kc hKc => ?_)
                 go_simp
                 first
                   | (refine hKc _ ?_)
                 clear hKc Kc)
              | (refine plan_s0 rfl (by rfl) ?_; go_frame)
          refine plan_done ?_
          go_wp2
          go_roundw
          case rel => exact ⟨j + 1, by omega, by go_num, HE.out.2 ⟨HN.out, trivial⟩, HT.out.drew⟩
          case measure => simp [intOf]; omega
        · have hx' : ¬ (x : Int) = y := by omega
          go_wp2_with fail
          refine wp_region_plan [(0, 0), (0, 1), (0, 2), (0, 3), (0, 4), (0, 5), (0, 6), (0, 7), (0, 8), (0, 9), (0, 10)] (fun _ => False) (by kernel_rfl) (by kernel_rfl) (fun c a d v w h => by cases d <;> exact h) ?_
          iterate 11
            first
              | (refine plan_s1 rfl (by rfl) (fun Kc hKc => ?_)
                 go_simp
                 first
                   | (refine hKc _ ?_)
                 clear hKc Kc)
              | (refine plan_s0 rfl (by rfl) ?_; go_frame)
          refine plan_done ?_
          go_wp2
          go_ret
          refine ⟨ret_bool ?_, (HT0.out.trans HT.out (fun _ _ e => e)).drew⟩
          rw [HR.out]
          simp only [Bool.false_eq, decide_eq_false_iff_not]
          rintro rfl
          exact hx (HE.out.1 rfl).2
      · obtain rfl : j = xs.length := by omega
        go_wp2
        go_ret
        refine ⟨ret_bool ?_, HT0.out.trans HT.out (fun _ _ e => e)⟩
        have := HN.out
        rw [List.take_length, HL.out, List.take_length] at this
        rw [HR.out]
        simp [this]
  · have HR := Lib.hid (show R = false from by
      rw [HS.out, Bool.and_eq_false_iff, decide_eq_false_iff_not, decide_eq_false_iff_not]
      by_cases hx : xs = ys
      · left; rintro ⟨h1, h2, h3, h4, h5⟩; exact hp ⟨h1, h2, h3, h4, h5, by rw [hx]⟩
      · exact .inr hx)
    have HP := Lib.hid hp
    clear hp
    cases q
    all_goals (
      go_enter Try.func11, Try.ntmps11
      go_wp2_with fail)
    all_goals first
      | (go_ret
         exact ⟨ret_bool HR.out.symm, ((Touch.refl _ w).alloc _).alloc _⟩)
      | (exfalso; have := HP.out; simp_all; done)
      | (exfalso; have := HP.out; simp_all; omega)

theorem light_any (a : RpV) (A : Option Addr) (n c : Nat) (w : World) :
    Calls Try.prog 25 #[.agg #[.int .i64 a.code, .int .i64 a.time, .int .u64 a.t.id, .int .i64 a.t.contract, .int .i64 a.t.state, .int .i64 a.t.level, .int .u64 a.t.gen, .int .i64 a.t.from_, .int .i64 a.t.left, .int .i64 a.t.due, .int .i64 a.t.told, .slice A n c, .int .u64 a.notice, .int .i64 a.dead]] w fun e w' => e = .returned (.bool (decide (n ≤ 200))) ∧ Touch (fun _ => False) w w' := by
  go_enter Try.func25, Try.ntmps25
  go_wp2
  go_ret
  exact ⟨ret_bool (by simp; omega), (Touch.refl _ w).alloc _⟩
end Go.Proofs.Ytmgmjehebbggaaa
