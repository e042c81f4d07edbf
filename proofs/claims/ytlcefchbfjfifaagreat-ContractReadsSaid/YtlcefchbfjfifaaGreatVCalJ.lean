/- The reference of chapter 10: Elapsed, Due, Rest. The reference of chapter 10: Check, Open, Same. Package almanac: Next, Closed. -/
import Derived.Test.YtlcefchbfjfifaaGreatVCalK
import Derived.Test.YtlcefchbfjfifaaGreatVCalR
section
namespace Go.Proofs.YtlcefchbfjfifaaGreat
open Go.RowKit Cal
set_option maxHeartbeats 4000000
set_option maxRecDepth 100000
set_option linter.unusedVariables false
attribute [local irreducible] wpPlan

theorem instB_true {t : Int} (h : instB t = true) : 0 ≤ t ∧ t ≤ 1125899906842624 := by simpa [instB] using h
theorem instB_false {t : Int} (h : instB t = false) : t < 0 ∨ 1125899906842624 < t := by simp [instB] at h; omega
theorem instB_of {t : Int} (h : 0 ≤ t) (h' : t ≤ 1125899906842624) : instB t = true := by simp [instB]; omega
theorem el_bad1 (c : Ca) {a b : Int} (h : instB a = false) : c.el a b = (0, 2) := by
  have := instB_false h
  unfold Ca.el; rw [if_pos (by omega)]
theorem el_bad2 (c : Ca) {a b : Int} (h : instB b = false) : c.el a b = (0, 2) := by
  have := instB_false h
  unfold Ca.el; rw [if_pos (by omega)]
theorem el_bad3 (c : Ca) {a b : Int} (h : b < a) : c.el a b = (0, 2) := by unfold Ca.el; rw [if_pos (by omega)]
theorem el_ok (c : Ca) {a b : Int} (h : instB a = true) (h' : instB b = true) (hab : ¬ b < a) : c.el a b = (cnt c.op a b, 0) := by
  have := instB_true h
  have := instB_true h'
  unfold Ca.el; rw [if_neg (by omega)]
theorem el_err (c : Ca) (a b : Int) : (c.el a b).2 = 0 ∨ (c.el a b).2 = 2 := by unfold Ca.el; split <;> simp
theorem el_bd (c : Ca) (a b : Int) : 0 ≤ (c.el a b).1 ∧ (c.el a b).1 ≤ 1125899906842624 := by
  unfold Ca.el; split
  · simp
  · have := cnt_pos (p := c.op) (a := a) (b := b) (by omega)
    simp only; omega
def El2 (r : Int × Int) (w : World) (e : Ending) (w' : World) : Prop := e = .returned (.tuple #[.int .i64 r.1, .int .i64 r.2]) ∧ Touch (fun _ => False) w w'
theorem El2.of {R r : Int × Int} {x y : Int} {w w' : World} (h1 : Hid (R = r)) (h2 : x = r.1) (h3 : y = r.2) (h4 : Touch (fun _ => False) w w') : El2 R w (.returned (.tuple #[.int .i64 x, .int .i64 y])) w' := by
  rw [h1.out]; exact ⟨by rw [h2, h3], h4⟩
theorem rest_neg (c : Ca) {a b x : Int} (h : b < 0) : c.rest a b x = (0, 2) := by unfold Ca.rest; rw [if_pos h]
theorem rest_bad (c : Ca) {a b x : Int} (h : ¬ b < 0) (h' : (c.el a x).2 ≠ 0) : c.rest a b x = (0, (c.el a x).2) := by unfold Ca.rest; rw [if_neg h, if_pos h']
theorem rest_ok (c : Ca) {a b x : Int} (h : ¬ b < 0) (h' : (c.el a x).2 = 0) : c.rest a b x = (max (b - (c.el a x).1) 0, 0) := by unfold Ca.rest; rw [if_neg h, if_neg (by simp [h'])]
theorem due_bad (c : Ca) {a b : Int} (h : instB a = false) : c.due a b = (0, 2) := by
  have := instB_false h
  unfold Ca.due; rw [if_pos (by omega)]
theorem due_neg (c : Ca) {a b : Int} (h : b < 0) : c.due a b = (0, 2) := by unfold Ca.due; rw [if_pos (by omega)]
theorem due_zero (c : Ca) {a : Int} (h : instB a = true) : c.due a 0 = (a, 0) := by
  have := instB_true h
  unfold Ca.due; rw [if_neg (by omega), if_pos rfl]
theorem due_closed (c : Ca) {a b : Int} (h : instB a = true) (hb : 0 < b) (hl : len c.wk = 0) : c.due a b = (0, 40) := by
  have := instB_true h
  unfold Ca.due; rw [if_neg (by omega), if_neg (by omega), if_pos hl]
theorem due_big (c : Ca) {a b : Int} (h : instB a = true) (hb : 0 < b) (hl : len c.wk ≠ 0) (hn : cnt c.op a 1125899906842624 < b) : c.due a b = (0, 10) := by
  have := instB_true h
  unfold Ca.due; rw [if_neg (by omega), if_neg (by omega), if_neg hl, if_pos hn]
theorem due_of (c : Ca) {a b d : Int} (h : instB a = true) (hl : len c.wk ≠ 0) (hd : IsDue c.op a b d) (hd' : d ≤ 1125899906842624) : c.due a b = (d, 0) := by
  have := instB_true h
  have := hd.pos
  unfold Ca.due; rw [if_neg (by omega), if_neg (by omega), if_neg hl, if_neg (by have := hd.le hd'; omega), dueOf_eq hd]
end Go.Proofs.YtlcefchbfjfifaaGreat
end

section
namespace Go.Proofs.YtlcefchbfjfifaaGreat
open Go.RowKit Cal
set_option maxHeartbeats 4000000
set_option maxRecDepth 100000
set_option linter.unusedVariables false
attribute [local irreducible] wpPlan

def checkE (c : Ca) : Int := if c.off < 0 ∨ 604800 ≤ c.off then 2 else if weekE c.wk ≠ 0 then weekE c.wk else rowE c.cl
theorem check_ok {c : Ca} (h : checkE c = 0) : c.Ok := by
  unfold checkE at h
  split at h
  · omega
  · split at h
    · rename_i h1; exact absurd h h1
    · rename_i h0 h1
      have h1 : weekE c.wk = 0 := by simpa using h1
      exact ⟨by omega, (weekE_week h1).1, (rowE_row h).1, (rowE_row h).2⟩
theorem Cal.Ca.Ok.rowc {c : Ca} (h : c.Ok) : rowE c.cl = 0 := by unfold rowE; rw [if_neg (by have := h.cn; omega), rows_of c.cl 0 (by omega) h.cl]
theorem fcheck_any (F : Nat → Prop) (A B : Option Addr) (k m : Nat) (c : Ca) (w : World) (hr : CaR w F c A B) (h1 : c.wk.length ≤ 1000000) (h2 : c.cl.length ≤ 1000000) :
    Calls Tryz.prog 82 #[.agg #[.int .i64 c.off, .slice A c.wk.length k, .slice B c.cl.length m]] w fun e w' => e = .returned (.int .i64 (checkE c)) ∧ Touch (fun _ => False) w w' := by
  have HT := Lib.hid ((Touch.refl (fun _ => False) w).alloc (.cells #[.int .i64 c.off, .slice A c.wk.length k, .slice B c.cl.length m] 51))
  have HB0 := Lib.hid (Blk.new w 51 #[.int .i64 c.off, .slice A c.wk.length k, .slice B c.cl.length m])
  have HW := Lib.hid (fun w1 hr => fwrong_any F A k c.wk w1 hr h1)
  have HC := Lib.hid (fun w1 hr => frow_any F B m c.cl w1 hr h2)
  have HR := Lib.hid hr
  have HV := Lib.hid (show checkE c = if c.off < 0 ∨ 604800 ≤ c.off then 2 else if weekE c.wk ≠ 0 then weekE c.wk else rowE c.cl from rfl)
  generalize checkE c = v at *
  clear hr
  obtain ⟨off, wk, cl⟩ := c
  simp only at *
  generalize weekE wk = x at *
  generalize rowE cl = y at *
  by_cases ho : off < 0
  · rw [if_pos (.inl ho)] at HV
    go_enter Tryz.func82, Tryz.ntmps82
    go_wp2
    go_ret
    exact ⟨ret_int HV.out.symm, HT.out⟩
  by_cases ho2 : 604800 ≤ off
  · rw [if_pos (.inr ho2)] at HV
    go_enter Tryz.func82, Tryz.ntmps82
    go_wp2
    go_ret
    exact ⟨ret_int HV.out.symm, HT.out⟩
  rw [if_neg (by omega)] at HV
  by_cases hx : x = 0
  · subst hx
    rw [if_neg (by simp)] at HV
    go_enter Tryz.func82, Tryz.ntmps82
    go_wp2_with (first
      | (go_at_call 109; go_must (refine (HW.out _ (by exact HR.out.wk.touch HT.out (fun _ _ e => e))).mono ?_); rintro e w0 ⟨rfl, t0⟩; have HB1 := Lib.hid (t0.blk HB0.out (fun e => e)); have q0 := HB1.out.cell 0; have q1 := HB1.out.cell 1; have q2 := HB1.out.cell 2; simp at q0 q1 q2; have HT0 := Lib.hid (HT.out.trans t0 (fun _ _ e => e)); clear t0)
      | (go_at_call 110; go_must (refine (HC.out _ (by exact HR.out.cl.touch HT0.out (fun _ _ e => e))).mono ?_); rintro e w1 ⟨rfl, t1⟩; have HT1 := Lib.hid (HT0.out.trans t1 (fun _ _ e => e)); clear t1))
    go_ret
    exact ⟨ret_int HV.out.symm, HT1.out⟩
  · rw [if_pos hx] at HV
    have hx' : (x != 0) = true := by simpa using hx
    clear hx
    go_enter Tryz.func82, Tryz.ntmps82
    go_wp2_with (go_at_call 109; go_must (refine (HW.out _ (by exact HR.out.wk.touch HT.out (fun _ _ e => e))).mono ?_); rintro e w0 ⟨rfl, t0⟩; have HT0 := Lib.hid (HT.out.trans t0 (fun _ _ e => e)); clear t0)
    go_ret
    exact ⟨ret_int HV.out.symm, HT0.out⟩
/-- Is an instant open? -/
def openV (c : Ca) (t : Int) : Bool := decide (0 ≤ t) && decide (t < 1125899906842624) && c.op t
/-- Are two calendars the same? -/
def sameC (c d : Ca) : Bool := decide (c.off = d.off) && sameL c.wk d.wk && sameL c.cl d.cl
theorem sameC_self (c : Ca) : sameC c c = true := by simp [sameC, sameL_self]
theorem fcsame_any (F F' : Nat → Prop) (A B A' B' : Option Addr) (k m k' m' : Nat) (c d : Ca) (w : World) (hr : CaR w F c A B) (hr' : CaR w F' d A' B') (h1 : c.wk.length ≤ 1000000) (h2 : c.cl.length ≤ 1000000) :
    Calls Tryz.prog 67 #[.agg #[.int .i64 c.off, .slice A c.wk.length k, .slice B c.cl.length m], .agg #[.int .i64 d.off, .slice A' d.wk.length k', .slice B' d.cl.length m']] w fun e w' => e = .returned (.bool (sameC c d)) ∧ Touch (fun _ => False) w w' := by
  have HT := Lib.hid (((Touch.refl (fun _ => False) w).alloc (.cells #[.int .i64 c.off, .slice A c.wk.length k, .slice B c.cl.length m] 51)).alloc (.cells #[.int .i64 d.off, .slice A' d.wk.length k', .slice B' d.cl.length m'] 51))
  have HB0 := Lib.hid ((Blk.new w 51 #[.int .i64 c.off, .slice A c.wk.length k, .slice B c.cl.length m]).alloc (.cells #[.int .i64 d.off, .slice A' d.wk.length k', .slice B' d.cl.length m'] 51))
  have HB0' := Lib.hid (show Blk _ (w.heap.size + 1) _ _ by simpa using Blk.new (w.alloc (.cells #[.int .i64 c.off, .slice A c.wk.length k, .slice B c.cl.length m] 51)) 51 #[.int .i64 d.off, .slice A' d.wk.length k', .slice B' d.cl.length m'])
  have HR := Lib.hid hr
  have HR' := Lib.hid hr'
  have HW := Lib.hid (fun w1 hr hr' => fsame_any F F' A A' k k' c.wk d.wk w1 hr hr' h1)
  have HC := Lib.hid (fun w1 hr hr' => fsame_any F F' B B' m m' c.cl d.cl w1 hr hr' h2)
  have HV := Lib.hid (show sameC c d = (decide (c.off = d.off) && sameL c.wk d.wk && sameL c.cl d.cl) from rfl)
  generalize sameC c d = v at *
  clear hr hr'
  obtain ⟨off, wk, cl⟩ := c
  obtain ⟨off', wk', cl'⟩ := d
  simp only at *
  generalize sameL wk wk' = x at *
  generalize sameL cl cl' = y at *
  by_cases ho : off = off'
  · subst ho
    rw [decide_eq_true rfl, Bool.true_and] at HV
    cases x
    · go_enter Tryz.func67, Tryz.ntmps67
      go_wp2_with (go_at_call 97; go_must (refine (HW.out _ (by exact HR.out.wk.touch HT.out (fun _ _ e => e)) (by exact HR'.out.wk.touch HT.out (fun _ _ e => e))).mono ?_); rintro e w0 ⟨rfl, t0⟩; have HT0 := Lib.hid (HT.out.trans t0 (fun _ _ e => e)); clear t0)
      go_ret
      exact ⟨ret_bool (by rw [HV.out]; rfl), HT0.out⟩
    · go_enter Tryz.func67, Tryz.ntmps67
      go_wp2_with (first
        | (go_at_call 97; have M9 := M1; go_must (refine (HC.out _ (by exact HR.out.cl.touch HT0.out (fun _ _ e => e)) (by exact HR'.out.cl.touch HT0.out (fun _ _ e => e))).mono ?_); rintro e w1 ⟨rfl, t1⟩; have HT1 := Lib.hid (HT0.out.trans t1 (fun _ _ e => e)); clear t1)
        | (go_at_call 97; go_must (refine (HW.out _ (by exact HR.out.wk.touch HT.out (fun _ _ e => e)) (by exact HR'.out.wk.touch HT.out (fun _ _ e => e))).mono ?_); rintro e w0 ⟨rfl, t0⟩; have HT0 := Lib.hid (HT.out.trans t0 (fun _ _ e => e)); have q2 := (t0.blk HB0.out (fun e => e)).cell 2; have r2 := (t0.blk HB0'.out (fun e => e)).cell 2; simp at q2 r2; have M1 := Lib.hid trivial; clear t0))
      go_ret
      exact ⟨ret_bool (by rw [HV.out]; rfl), HT1.out⟩
  · have ho' : (off == off') = false := by simpa using ho
    rw [decide_eq_false ho, Bool.false_and, Bool.false_and] at HV
    go_enter Tryz.func67, Tryz.ntmps67
    go_wp2
    go_ret
    exact ⟨ret_bool HV.out.symm, HT.out⟩
end Go.Proofs.YtlcefchbfjfifaaGreat
end

section
namespace Go.Proofs.YtlcefchbfjfifaaGreat
open Go.RowKit Cal
set_option maxHeartbeats 4000000
set_option maxRecDepth 100000
set_option linter.unusedVariables false
attribute [local irreducible] wpPlan

theorem next_fn (f t x : Int) (b : Nat) (w : World) (hb : w.cell? ⟨b, 0, none⟩ = some (.int .i64 x)) :
    Calls Tryz.prog 126 #[.agg #[.int .i64 f, .int .i64 t], .pointer (some ⟨b, 0, none⟩)] w fun e w' => e = .returned (.bool (decide (x < t))) ∧ Touch (fun _ => False) w w' := by
  have HT := Lib.hid ((Touch.refl (fun _ => False) w).alloc (.cells #[.int .i64 f, .int .i64 t] 92))
  have hl := World.block_lt_of_cell? w _ hb
  simp only at hl
  have hc : (w.alloc (.cells #[.int .i64 f, .int .i64 t] 92)).cell? ⟨b, 0, none⟩ = some (.int .i64 x) := (World.cell?_alloc_lt _ _ _ hl).trans hb
  go_enter Tryz.func126, Tryz.ntmps126
  go_wp2
  go_ret
  exact ⟨rfl, HT.out⟩
theorem nextL_drop (l : List Sp) (j : Nat) (s : Sp) (hs : l[j]? = some s) (x : Int) : nextL (l.drop j) x = if x < s.t then some s else nextL (l.drop (j + 1)) x := by
  obtain ⟨h1, h2⟩ := List.getElem?_eq_some_iff.1 hs
  rw [List.drop_eq_getElem_cons h1, h2, nextL]
def IdxP (l : List Sp) (x : Int) (w : World) (e : Ending) (w' : World) : Prop :=
  (match nextL l x with | some s => ∃ j : Nat, l[j]? = some s ∧ e = .returned (.int .i64 j) | none => e = .returned (.int .i64 (-1))) ∧ Touch (fun _ => False) w w'
theorem index_any (F : Nat → Prop) (A : Option Addr) (c : Nat) (l : List Sp) (x : Int) (b : Nat) (w : World) (hr : SpR w F A l.length l) (hn : l.length ≤ 1000000) (hb : w.cell? ⟨b, 0, none⟩ = some (.int .i64 x)) :
    Calls Tryz.prog 125 #[.slice A l.length c, .func (.func 126) #[] #[.pointer (some ⟨b, 0, none⟩)]] w (IdxP l x w) := by
  have hbl := World.block_lt_of_cell? w _ hb
  simp only at hbl
  have HB := Lib.hid hb
  have HR := Lib.hid hr
  clear hr hb
  go_enter Tryz.func125, Tryz.ntmps125
  go_wp2_with fail
  go_loopw [8] (fun i wr => ∃ j : Nat, j ≤ l.length ∧ i = .int .i64 j ∧ nextL (l.drop j) x = nextL l x ∧ Touch (fun _ => False) w wr) (fun i _ => l.length - (intOf i).toNat)
  case atStart => exact ⟨0, by omega, rfl, rfl, Touch.refl _ _⟩
  case round =>
    obtain ⟨j, hj, rfl, hv, hT⟩ := hrel
    have HV := Lib.hid hv
    have HT := Lib.hid hT
    clear hv hT
    by_cases hjk : j < l.length
    · have ha : l[j]? = some (l[j]'hjk) := List.getElem?_eq_getElem _
      obtain ⟨g, off, rfl, hg, -, hc0, hc1⟩ := (HR.out.touch HT.out (fun _ _ e => e)).at_ ha
      have HA := Lib.hid ha
      have HD := Lib.hid (nextL_drop l j _ ha x)
      generalize l[j]'hjk = s at *
      obtain ⟨f, t⟩ := s
      simp only at hc0 hc1 HD
      clear ha
      by_cases hx : x < t
      · have hv : nextL l x = some ⟨f, t⟩ := by rw [← HV.out, HD.out, if_pos hx]
        have HN := Lib.hid hv
        clear hv
        go_wp2_with (go_at_call 126; go_must (refine (next_fn f t x b _ (by exact (HT.out.cell (p := ⟨b, 0, none⟩) hbl (fun e => e)).trans HB.out)).mono ?_); rintro e w1 ⟨rfl, t1⟩; rw [decide_eq_true hx]; have HT1 := Lib.hid (HT.out.trans t1 (fun _ _ e => e)); clear t1)
        go_ret
        refine ⟨?_, HT1.out⟩
        rw [HN.out]
        exact ⟨j, HA.out, rfl⟩
      · have HN := Lib.hid (show nextL (l.drop (j + 1)) x = nextL l x by rw [← HV.out, HD.out, if_neg hx])
        go_wp2_with (go_at_call 126; go_must (refine (next_fn f t x b _ (by exact (HT.out.cell (p := ⟨b, 0, none⟩) hbl (fun e => e)).trans HB.out)).mono ?_); rintro e w1 ⟨rfl, t1⟩; rw [decide_eq_false hx]; have HT1 := Lib.hid (HT.out.trans t1 (fun _ _ e => e)); clear t1)
        go_roundw
        case rel => exact ⟨j + 1, by omega, by go_num, HN.out, HT1.out⟩
        case measure => simp [intOf]; omega
    · obtain rfl : j = l.length := by omega
      have hv : nextL l x = none := by rw [← HV.out, List.drop_length]; rfl
      have HN := Lib.hid hv
      clear hv
      go_wp2
      go_ret
      refine ⟨?_, HT.out⟩
      rw [HN.out]
      rfl
theorem next_some (g : Nat) (cl : List Sp) (B : Option Addr) (m : Nat) (F : Nat → Prop) (x : Int) (s : Sp) (w : World) (h : AlAt w g cl B m F) (hn : cl.length ≤ 1000000) (hs : nextL cl x = some s) :
    Calls Tryz.prog 105 #[.pointer (some ⟨g, 0, none⟩), .int .i64 x] w fun e w' => e = .returned (.tuple #[.agg #[.int .i64 s.f, .int .i64 s.t], .bool true]) ∧ Touch (fun _ => False) w w' := by
  have ta := (((Touch.refl (fun _ => False) w).alloc (.cells #[.int .i64 x] 2)).alloc (.cells #[.int .i64 0, .int .i64 0] 92))
  have h1 := h.touch ta (fun e => e) (fun _ _ e => e)
  have HA := Lib.hid (all_any g cl B m F _ h1)
  have HI := Lib.hid (index_any F B m cl x w.heap.size _ h1.row hn (by simp))
  have HR := Lib.hid h1.row
  have HT := Lib.hid ta
  have HB := Lib.hid (show Blk _ (w.heap.size + 1) _ _ by simpa using Blk.new (w.alloc (.cells #[.int .i64 x] 2)) 92 #[.int .i64 0, .int .i64 0])
  have HS := Lib.hid hs
  clear h ta h1 hs
  go_enter Tryz.func105, Tryz.ntmps105
  go_wp2_with (first
    | (go_at_call 123; go_must (refine HA.out.mono ?_); rintro e w0 ⟨rfl, rfl⟩)
    | (go_at_call 125
       go_must (refine HI.out.mono ?_)
       rintro e w1 ⟨hi, t1⟩
       rw [HS.out] at hi
       obtain ⟨j, hj, rfl⟩ := hi
       have HT1 := Lib.hid t1
       obtain ⟨g', off', rfl, hg', -, hc0, hc1⟩ := (HR.out.touch t1 (fun _ _ e => e)).at_ hj
       have hjl : j < cl.length := (List.getElem?_eq_some_iff.1 hj).1
       have HB1 := Lib.hid (t1.blk HB.out (fun e => e))
       have q0 := HB1.out.cell 0; have q1 := HB1.out.cell 1
       have z0 := HB1.out.frozen 0; have z1 := HB1.out.frozen 1
       simp at q0 q1
       have hjn : ¬ (j : Int) < 0 := by omega
       clear t1 hj))
  have hb := (HB1.out.set_ 0 (.int .i64 s.f)).set_ 1 (.int .i64 s.t)
  have p0 := hb.cell 0; have p1 := hb.cell 1
  simp at p0 p1
  refine bodyPost_ret (v := .tuple #[.agg #[.int .i64 s.f, .int .i64 s.t], .bool true]) (by simp [results, Tryz.results105, go_sem, p0, p1]) rfl ⟨rfl, ?_⟩
  exact ((HT.out.trans HT1.out (fun _ _ e => e)).set (fun e => by omega) _).set (fun e => by omega) _
theorem next_none (g : Nat) (cl : List Sp) (B : Option Addr) (m : Nat) (F : Nat → Prop) (x : Int) (w : World) (h : AlAt w g cl B m F) (hn : cl.length ≤ 1000000) (hs : nextL cl x = none) :
    Calls Tryz.prog 105 #[.pointer (some ⟨g, 0, none⟩), .int .i64 x] w fun e w' => e = .returned (.tuple #[.agg #[.int .i64 0, .int .i64 0], .bool false]) ∧ Touch (fun _ => False) w w' := by
  have ta := (((Touch.refl (fun _ => False) w).alloc (.cells #[.int .i64 x] 2)).alloc (.cells #[.int .i64 0, .int .i64 0] 92))
  have h1 := h.touch ta (fun e => e) (fun _ _ e => e)
  have HA := Lib.hid (all_any g cl B m F _ h1)
  have HI := Lib.hid (index_any F B m cl x w.heap.size _ h1.row hn (by simp))
  have HT := Lib.hid ta
  have HB := Lib.hid (show Blk _ (w.heap.size + 1) _ _ by simpa using Blk.new (w.alloc (.cells #[.int .i64 x] 2)) 92 #[.int .i64 0, .int .i64 0])
  have HS := Lib.hid hs
  clear h ta h1 hs
  go_enter Tryz.func105, Tryz.ntmps105
  go_wp2_with (first
    | (go_at_call 123; go_must (refine HA.out.mono ?_); rintro e w0 ⟨rfl, rfl⟩)
    | (go_at_call 125
       go_must (refine HI.out.mono ?_)
       rintro e w1 ⟨hi, t1⟩
       rw [HS.out] at hi
       subst hi
       have HT1 := Lib.hid t1
       have HB1 := Lib.hid (t1.blk HB.out (fun e => e))
       have q0 := HB1.out.cell 0; have q1 := HB1.out.cell 1
       have z0 := HB1.out.frozen 0; have z1 := HB1.out.frozen 1
       simp at q0 q1
       clear t1))
  have hb := (HB1.out.set_ 0 (.int .i64 0)).set_ 1 (.int .i64 0)
  have p0 := hb.cell 0; have p1 := hb.cell 1
  simp at p0 p1
  refine bodyPost_ret (v := .tuple #[.agg #[.int .i64 0, .int .i64 0], .bool false]) (by simp [results, Tryz.results105, go_sem, p0, p1]) rfl ⟨rfl, ?_⟩
  exact ((HT.out.trans HT1.out (fun _ _ e => e)).set (fun e => by omega) _).set (fun e => by omega) _
theorem has_next : ∀ (l : List Sp) (e x : Int), Row e l → hasB l x = (match nextL l x with | some s => decide (s.f ≤ x) | none => false)
  | [], _, _, _ => rfl
  | s :: l, e, x, ⟨h1, h2, h3, h4⟩ => by
    rw [hasB, nextL]
    by_cases hx : x < s.t
    · rw [if_pos hx, has_none l s.t x h4 hx]; simp [hx]
    · rw [if_neg hx, has_next l s.t x h4]; simp [hx]
end Go.Proofs.YtlcefchbfjfifaaGreat
end
