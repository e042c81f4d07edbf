/- Progress: New, Nodes, Live. -/
import Derived.Test.YtpgakkpmpnebnaaVPrO
import Derived.Test.YtpgakkpmpnebnaaVPrL
import Derived.Test.YtpgakkpmpnebnaaVKmPg
import Derived.Test.YtpgakkpmpnebnaaPolL
namespace Go.Proofs.Ytpgakkpmpnebnaa
open Go.RowKit Go.Maps Prg
set_option maxHeartbeats 4000000
set_option maxRecDepth 100000
set_option linter.unusedVariables false

def noneT : Tb := fun _ => none
theorem noneT_ok : noneT.Ok := fun i x h => by cases h
theorem PgP.empty (w : World) : PgP ((w.alloc (.map #[] 0)).alloc (.cells #[.map (some w.heap.size)] 54)) (w.heap.size + 1) w.heap.size noneT (fun _ => 0) (fun k => k = w.heap.size) := by
  refine ⟨by simpa using Blk.new (w.alloc (.map #[] 0)) 54 #[.map (some w.heap.size)], ?_, noneT_ok, fun i x h => (by cases h), fun i j x y h => (by cases h), rfl, fun i x h => (by cases h), fun i x h => (by cases h), by omega, fun k hk => by simp; omega⟩
  refine (((MapV.new Try.prog 3 w).touch ((Touch.refl (fun _ => False) _).alloc _) (fun e => e)).mono (n' := 7) (by omega)).congr fun kl hk => ?_
  obtain ⟨k, hki, rfl⟩ := keysI hk
  rw [lnP_at]; rfl
def NewTP (nodes : List Int) (last : Nat) (w : World) (e : Ending) (w' : World) : Prop :=
  ∃ g b F, e = .returned (.pointer (some ⟨g, 0, none⟩)) ∧ PgAt w' g b (setT noneT nodes last) F ∧ (∀ k, F k → w.heap.size ≤ k) ∧ w.heap.size ≤ g ∧ Touch (fun _ => False) w w'
theorem pnewT_yes (F0 : Nat → Prop) (A : Option Addr) (c : Nat) (nodes : List Int) (last : Nat) (hl : last ≤ 1152921504606846976) (w : World) (hr : Rd w F0 A nodes.length (nodes.map I64)) (hsm : nodes.length ≤ 1000000) :
    Calls Try.prog 14 #[.slice A nodes.length c, .int .u64 last] w (NewTP nodes last w) := by
  have hmm := @run_makeMap Try.prog
  have HT := Lib.hid (((Touch.refl (fun _ => False) w).alloc (.map #[] 0)).alloc (.cells #[.map (some w.heap.size)] 54))
  have HS := Lib.hid (pset_any (w.heap.size + 1) w.heap.size noneT (fun k => k = w.heap.size) (fun k => F0 k ∧ k < w.heap.size) A c nodes last (by omega) _ ⟨_, PgP.empty w⟩ (hr.lt_.touch HT.out (fun _ _ e => e)) (fun k hk e => by omega) hsm)
  have hB : setB last = true := by simpa [setB] using hl
  have HV := Lib.hid (show setR noneT nodes last = setT noneT nodes last by rw [setR, hB]; rfl)
  rw [hB] at HS
  clear hr hB
  go_enter Try.func14, Try.ntmps14
  go_wp2_with (go_at_call 28; go_must (refine HS.out.mono ?_); rintro e w1 ⟨rfl, F', hp, hF, t1⟩; have HP := Lib.hid hp; have HF := Lib.hid hF; have HT1 := Lib.hid t1; clear hp hF t1)
  go_ret
  refine ⟨w.heap.size + 1, w.heap.size, F', rfl, HV.out ▸ HP.out, fun k hk => ?_, by omega, HT.out.trans HT1.out (fun q hq e => by omega)⟩
  have hz := HT.out.size
  rcases HF.out k hk with e | e
  · omega
  · omega
theorem pnewT_no (F0 : Nat → Prop) (A : Option Addr) (c : Nat) (nodes : List Int) (last : Nat) (hl : ¬ last ≤ 1152921504606846976) (hl2 : last < 18446744073709551616) (w : World) (hr : Rd w F0 A nodes.length (nodes.map I64)) (hsm : nodes.length ≤ 1000000) :
    Calls Try.prog 14 #[.slice A nodes.length c, .int .u64 last] w fun e w' => e = .returned (.pointer none) ∧ Touch (fun _ => False) w w' := by
  have hmm := @run_makeMap Try.prog
  have HT := Lib.hid (((Touch.refl (fun _ => False) w).alloc (.map #[] 0)).alloc (.cells #[.map (some w.heap.size)] 54))
  have HS := Lib.hid (pset_any (w.heap.size + 1) w.heap.size noneT (fun k => k = w.heap.size) (fun k => F0 k ∧ k < w.heap.size) A c nodes last hl2 _ ⟨_, PgP.empty w⟩ (hr.lt_.touch HT.out (fun _ _ e => e)) (fun k hk e => by omega) hsm)
  have hB : setB last = false := by simpa [setB] using hl
  rw [hB] at HS
  clear hr hB
  go_enter Try.func14, Try.ntmps14
  go_wp2_with (go_at_call 28; go_must (refine HS.out.mono ?_); rintro e w1 ⟨rfl, F', hp, hF, t1⟩; have HT1 := Lib.hid t1; clear hp hF t1)
  go_ret
  exact ⟨rfl, HT.out.trans HT1.out (fun q hq e => by omega)⟩
theorem pnodes_any (g b : Nat) (t : Tb) (F : Nat → Prop) (w : World) (h : PgAt w g b t F) : Calls Try.prog 24 #[.pointer (some ⟨g, 0, none⟩)] w (NewSl w ((nodesT t).map I64)) := by
  obtain ⟨p, h⟩ := h
  have hbl := h.map.lt
  have HT := Lib.hid ((Touch.refl (fun _ => False) w).alloc (.cells #[.map (some b)] 52))
  have HS := Lib.hid (sortedPg_any w.heap.size b 7 (lnP t p) (w.alloc (.cells #[.map (some b)] 52)) (by simp) (by simp) (h.map.touch HT.out (fun e => e)) (by omega))
  have HK := Lib.hid (mkeysPg_any (some b) w)
  have HOk := Lib.hid h.ok
  have q0 := h.blk.cell 0
  simp at q0
  clear h
  go_enter Try.func24, Try.ntmps24
  go_wp2_with (first
    | (go_at_call 69; go_must (refine HK.out.mono ?_); rintro e w1 ⟨rfl, rfl⟩)
    | (go_at_call 68; go_must (refine HS.out.mono ?_); rintro e w2 ⟨A, c, zs, rfl, h1, h2, h3, h4, h5, h6, h7⟩
       have HZ := Lib.hid (And.intro h1 (And.intro h2 h3))
       have HX := Lib.hid (And.intro h4 (And.intro h5 (And.intro h6 h7)))
       clear h1 h2 h3 h4 h5 h6 h7))
  go_ret
  obtain ⟨h1, h2, h3⟩ := HZ.out
  obtain ⟨h4, h5, h6, h7⟩ := HX.out
  have hz : zs = nodesT t := by
    refine sorted_uniq _ _ ((h1.and h2).imp fun ⟨a, b⟩ => by omega) (rowOf_sorted _) fun x => ?_
    rw [h3 x, nodesT, rowOf_mem, lnP_at, Option.isSome_map]
    constructor
    · rintro ⟨hx, hs⟩
      obtain ⟨y, hy⟩ := Option.isSome_iff_exists.1 hs
      have := HOk.out x y hy
      obtain ⟨i, rfl⟩ := Int.eq_ofNat_of_zero_le this.1
      exact ⟨i, by omega, by simpa [hasN] using hs, rfl⟩
    · rintro ⟨i, hi, hs, rfl⟩
      exact ⟨by unfold inI; omega, hs⟩
  subst hz
  have hsz := HT.out.size
  exact ⟨A, c, by rw [List.length_map]; rfl, by simpa using h4, h5, by rw [List.length_map]; exact h6.mono fun k hk => by omega, HT.out.trans h7 (fun _ _ e => e)⟩
theorem LineC.touch {v : Value} {t : Tb} {w w' : World} (h : LineC v t w) (tt : Touch (fun _ => False) w w') : LineC v t w' := fun w2 t2 n hn => h w2 (tt.trans t2 (fun _ _ e => e)) n hn
theorem plive1_any (v : Value) (t : Tb) (self n : Int) (hn : inI n) (b1 b2 : Nat) (w : World) (h1 : Blk w b1 28 #[v]) (h2 : Blk w b2 3 #[.int .i64 self]) (hv : LineC v t w) :
    Calls Try.prog 74 #[.int .i64 n, .pointer (some ⟨b1, 0, none⟩), .pointer (some ⟨b2, 0, none⟩)] w fun e w' => e = .returned (.bool (n == self || (lineV t n).a)) ∧ Touch (fun _ => False) w w' := by
  have c1 := h1.cell 0
  simp at c1
  have HB2 := Lib.hid h2
  have HL := Lib.hid (hv w (Touch.refl _ _) n hn)
  obtain ⟨L, hL⟩ : ∃ L, L = lineV t n := ⟨_, rfl⟩
  rw [← hL] at HL ⊢
  obtain ⟨y0, y1, y2, y3⟩ := L
  simp only [lnC] at HL
  clear h1 h2 hv hL
  by_cases e : n = self
  · subst e
    have hbe : (n == n) = true := by simp
    go_enter Try.func74, Try.ntmps74
    go_wp2_with (go_at_call 18; go_must (refine HL.out.mono ?_); rintro e w1 ⟨rfl, t1⟩; have HT1 := Lib.hid (t1.alloc (.cells #[.int .u64 (y0 : Int), .int .u64 (y1 : Int), .int .u64 (y2 : Int), .bool y3] 43)); have c2 := ((t1.blk HB2.out (fun e => e)).alloc (.cells #[.int .u64 (y0 : Int), .int .u64 (y1 : Int), .int .u64 (y2 : Int), .bool y3] 43)).cell 0; simp at c2; clear t1)
    go_ret
    exact ⟨by simp, HT1.out⟩
  · have hbe : (n == self) = false := by simpa using e
    clear e
    go_enter Try.func74, Try.ntmps74
    go_wp2_with (go_at_call 18; go_must (refine HL.out.mono ?_); rintro e w1 ⟨rfl, t1⟩; have HT1 := Lib.hid (t1.alloc (.cells #[.int .u64 (y0 : Int), .int .u64 (y1 : Int), .int .u64 (y2 : Int), .bool y3] 43)); have c2 := ((t1.blk HB2.out (fun e => e)).alloc (.cells #[.int .u64 (y0 : Int), .int .u64 (y1 : Int), .int .u64 (y2 : Int), .bool y3] 43)).cell 0; simp at c2; clear t1)
    go_ret
    exact ⟨by rw [hbe]; rfl, HT1.out⟩
theorem mreachedL_any (F : Nat → Prop) (A : Option Addr) (c : Nat) (l : List Int) (v : Value) (t : Tb) (self : Int) (b1 b2 : Nat) (w : World) (hr : Rd w F A l.length (l.map I64)) (hsm : l.length ≤ 1000000) (h1 : Blk w b1 28 #[v]) (h2 : Blk w b2 3 #[.int .i64 self]) (hv : LineC v t w) :
    Calls Try.prog 73 #[.slice A l.length c, .func (.func 74) #[] #[.pointer (some ⟨b1, 0, none⟩), .pointer (some ⟨b2, 0, none⟩)]] w fun e w' => e = .returned (.bool (liveB t l self)) ∧ Touch (fun _ => False) w w' := by
  have Hr := Lib.hid hr
  have HB1 := Lib.hid h1
  have HB2 := Lib.hid h2
  have HL := Lib.hid hv
  have HSd := Lib.hid (msound_any F A c l w hr hsm)
  have HQu := Lib.hid (fun w1 (h : Rd w1 F A l.length (l.map I64)) => mquorum_any F A c l w1 h hsm)
  unfold liveB
  clear hr h1 h2 hv
  by_cases hb : Row.soundB l = true
  · have HS := Lib.hid hb
    rw [hb] at HSd HQu ⊢
    simp only [if_true] at HQu
    clear hb
    have HQq := Lib.hid (Eq.refl (l.length / 2 + 1))
    generalize hq : l.length / 2 + 1 = q at *
    have HQ := Lib.hid hq
    clear hq HQq
    have hq1 : q ≤ 500001 := by have := HQ.out; omega
    have hfn : ∀ (fn : Fn) (first cap : Array Value) (w : World), (binOp .eql 127 (.func fn first cap) .nilFunc).run Try.prog w = .ok (.bool false) w := fun _ _ _ _ => rfl
    go_enter Try.func73, Try.ntmps73
    go_wp2_with (first
      | (go_at_call 100; go_must (refine HSd.out.mono ?_); rintro e w1 ⟨rfl, t1⟩; have HT1 := Lib.hid t1; clear t1)
      | (go_at_call 102; go_must (refine (HQu.out _ (by exact Hr.out.touch HT1.out (fun _ _ e => e))).mono ?_); rintro e w2 ⟨rfl, t2⟩; have HT2 := Lib.hid (HT1.out.trans t2 (fun _ _ e => e)); clear t2))
    go_loopw [5, 19] (fun v i wr => ∃ j : Nat, j ≤ l.length ∧ i = .int .i64 j ∧ v = .int .i64 ((q : Int) - ((l.take j).countP (fun x => x == self || (lineV t x).a) : Nat)) ∧ Touch (fun _ => False) w wr) (fun _ i _ => l.length - (intOf i).toNat)
    case atStart => exact ⟨0, by omega, rfl, by simp, HT2.out⟩
    case round =>
      obtain ⟨j, hj, rfl, rfl, hT⟩ := hrel
      have HT := Lib.hid hT
      clear hT
      have hcl : (l.take j).countP (fun x => x == self || (lineV t x).a) ≤ j := Nat.le_trans List.countP_le_length (by simp; omega)
      by_cases hjk : j < l.length
      · obtain ⟨a, off, rfl, _, _, hc⟩ := (Hr.out.touch HT.out (fun _ _ e => e)).2 (by omega)
        have hcj := hc j _ (get_I64 hjk)
        simp only [I64] at hcj
        have HE := Lib.hid (Row.count_take (fun x => x == self || (lineV t x).a) l j hjk)
        have hx := ((Row.sound_iff l).1 HS.out).2.2 (l.getD j 0) (Row.getD_mem hjk)
        generalize l.getD j 0 = x at *
        have HC := Lib.hid (plive1_any v t self x (by unfold inI; omega) b1 b2 wr (HT.out.blk HB1.out (fun e => e)) (HT.out.blk HB2.out (fun e => e)) (HL.out.touch HT.out))
        have HE' := Lib.hid (show (l.take (j + 1)).countP (fun x => x == self || (lineV t x).a) = (l.take j).countP (fun x => x == self || (lineV t x).a) + if (x == self || (lineV t x).a) = true then 1 else 0 from HE.out)
        generalize List.countP (fun x => x == self || (lineV t x).a) (List.take j l) = k at *
        clear hc hx HE
        cases hbt : (x == self || (lineV t x).a)
        · rw [hbt] at HC HE'
          clear hbt
          go_wp2_with (go_at_call 74; go_must (refine HC.out.mono ?_); rintro e w3 ⟨rfl, t3⟩; have HT3 := Lib.hid (HT.out.trans t3 (fun _ _ e => e)); clear t3)
          go_roundw
          case rel => exact ⟨j + 1, by omega, by go_num, by rw [HE'.out]; simp, HT3.out⟩
          case measure => simp [intOf]; omega
        · rw [hbt] at HC HE'
          clear hbt
          go_wp2_with (go_at_call 74; go_must (refine HC.out.mono ?_); rintro e w3 ⟨rfl, t3⟩; have HT3 := Lib.hid (HT.out.trans t3 (fun _ _ e => e)); clear t3)
          go_roundw
          case rel => exact ⟨j + 1, by omega, by go_num, by rw [HE'.out]; congr 1; simp; omega, HT3.out⟩
          case measure => simp [intOf]; omega
      · obtain rfl : j = l.length := by omega
        have HE := Lib.hid (show (l.take l.length).countP (fun x => x == self || (lineV t x).a) = l.countP (fun x => x == self || (lineV t x).a) by rw [List.take_length])
        generalize List.countP (fun x => x == self || (lineV t x).a) (List.take l.length l) = k at *
        go_wp2
        go_ret
        refine ⟨ret_bool ?_, HT.out⟩
        rw [← HE.out, Bool.true_and, decide_eq_decide]
        have := HQ.out
        omega
  · have hb : Row.soundB l = false := by simpa using hb
    rw [hb] at HSd ⊢
    clear hb
    have hfn : ∀ (fn : Fn) (first cap : Array Value) (w : World), (binOp .eql 127 (.func fn first cap) .nilFunc).run Try.prog w = .ok (.bool false) w := fun _ _ _ _ => rfl
    go_enter Try.func73, Try.ntmps73
    go_wp2_with (go_at_call 100; go_must (refine HSd.out.mono ?_); rintro e w1 ⟨rfl, t1⟩; have HT1 := Lib.hid t1; clear t1)
    go_ret
    exact ⟨rfl, HT1.out⟩
end Go.Proofs.Ytpgakkpmpnebnaa
