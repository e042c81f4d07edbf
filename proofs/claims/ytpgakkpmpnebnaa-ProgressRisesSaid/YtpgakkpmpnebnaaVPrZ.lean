/- The reference's progress: Agreed, Answered. (written by genprz.py) -/
import Derived.Test.YtpgakkpmpnebnaaVPrY
import Derived.Test.YtpgakkpmpnebnaaVMemM
namespace Go.Proofs.Ytpgakkpmpnebnaa
open Go.RowKit Prg
set_option maxHeartbeats 4000000
set_option maxRecDepth 100000
set_option linter.unusedVariables false
attribute [local irreducible] wpPlan

theorem infoU64 : (Try.prog.info? 24).map (fun i => (i.zero, i.size, i.bytes)) = some (some (.int .u64 0), 1, 8) := by kernel_rfl
def agreedV (t : Tb) (of : Ln → Nat) (members : List Int) (self : Int) (own : Nat) : Nat := if Row.soundB members then great (vals t of members self own) (members.length / 2 + 1) (vals t of members self own) 0 else 0
theorem vals_len (t : Tb) (of : Ln → Nat) (members : List Int) (self : Int) (own : Nat) : (vals t of members self own).length = members.length := by simp [vals]
theorem vals_take (t : Tb) (of : Ln → Nat) (members : List Int) (self : Int) (own : Nat) (j : Nat) (hj : j < members.length) : (vals t of members self own).take (j + 1) = (vals t of members self own).take j ++ [if members.getD j 0 = self then own else of (lineV t (members.getD j 0))] := by
  have h : j < (vals t of members self own).length := by rw [vals_len]; exact hj
  rw [List.take_succ_eq_append_getElem h]
  simp [vals, lineV, hj]
theorem vals_lt (t : Tb) (ok : t.Ok) (members : List Int) (self : Int) (own : Nat) (ho : own < 18446744073709551616) : (∀ x ∈ vals t Ln.m members self own, x < 18446744073709551616) ∧ (∀ x ∈ vals t Ln.r members self own, x < 18446744073709551616) := by
  constructor
  all_goals
    intro x hx
    simp only [vals, List.mem_map] at hx
    obtain ⟨n, _, rfl⟩ := hx
    split
    · exact ho
    · cases ht : t n with
      | none => simp [Ln.z]
      | some y => have := (ok n y ht).2.2; have h1 := this.m; have h2 := this.r; simp; omega
namespace PF
theorem fagreed_any (F : Nat → Prop) (A : Option Addr) (c : Nat) (members : List Int) (t : Tb) (ok : t.Ok) (self : Int) (hse : inI self) (own : Nat) (ho : own < 18446744073709551616) (w : World) (hr : Rd w F A members.length (members.map I64)) (hsm : members.length ≤ 1000000) :
    Calls Try.prog 21 #[.agg (refT t), .slice A members.length c, .int .i64 self, .int .u64 own] w fun e w' => e = .returned (.int .u64 (agreedV t Ln.m members self own)) ∧ Touch (fun _ => False) w w' := by
  obtain ⟨i0, hi, hz0, hz1, hz2⟩ := info_parts infoU64
  have HR := Lib.hid hr
  have HT0 := Lib.hid ((Touch.refl (fun _ => False) w).alloc (.cells (refT t) 37))
  have HB0 := Lib.hid (Blk.new w 37 (refT t))
  have HN := Lib.hid (refT_size t)
  have HS := Lib.hid (rsound_any F A c members _ (HR.out.touch HT0.out (fun _ _ e => e)) (by omega))
  clear hr
  by_cases hs : Row.soundB members = true
  · have HV := Lib.hid (show agreedV t Ln.m members self own = great (vals t Ln.m members self own) (members.length / 2 + 1) (vals t Ln.m members self own) 0 by rw [agreedV, hs]; rfl)
    have hlen := Row.sound_len hs
    have HQ := Lib.hid (fun w1 h => rquorum_any F A c members w1 h hsm)
    rw [hs] at HS HQ
    simp only [if_true] at HQ
    have HIn := Lib.hid (show ∀ j, j < members.length → inI (members.getD j 0) from fun j hj => by have := ((Row.sound_iff members).1 hs).2.2 _ (Row.getD_mem hj); unfold inI; omega)
    have HGt := Lib.hid (fun n hn w1 => fget_any t ok n hn w1)
    have HTk := Lib.hid (fun j hj => vals_take t Ln.m members self own j hj)
    have HLt := Lib.hid ((vals_lt t ok members self own ho).1)
    have HLn := Lib.hid (vals_len t Ln.m members self own)
    rw [HV.out]
    generalize vals t Ln.m members self own = V at *
    generalize refT t = C at *
    clear HV hs
    go_enter Try.func21, Try.ntmps21
    go_wp2_with (go_at_call 12; go_must (refine HS.out.mono ?_); rintro e w1 ⟨rfl, t1⟩; have HT1 := Lib.hid (HT0.out.trans t1 (fun _ _ e => e)); have HB1 := Lib.hid (t1.blk HB0.out (fun e => e)); clear t1)
    go_loopw [9, 10, 11, 12] (fun v i _ _ wr => ∃ j : Nat, j ≤ members.length ∧ i = .int .i64 j ∧ (∃ r, Own wr 24 1 v r (V.take j).length ((V.take j).map U64) ∧ ∀ k, r = some k → w.heap.size < k) ∧ Touch (fun _ => False) w wr ∧ Blk wr w.heap.size 37 C) (fun _ i _ _ _ => members.length - (intOf i).toNat)
    case atStart => exact ⟨0, by omega, rfl, ⟨none, by simpa using Own.nil _ _ _, fun k e => by cases e⟩, HT1.out, HB1.out⟩
    case round =>
      clear HT1 HB1 HT0 HB0
      obtain ⟨j, hj, rfl, ⟨r, ho, hrk⟩, hT, hB⟩ := hrel
      obtain ⟨A0, c0, rfl, -, -⟩ := ho.form
      have HO := Lib.hid ho
      have HRk := Lib.hid hrk
      have HT := Lib.hid hT
      have HB := Lib.hid hB
      clear ho hT hrk hB
      have hol : (V.take j).length ≤ 7 := Nat.le_trans (List.length_take_le _ _) (by omega)
      by_cases hjk : j < members.length
      · have hU := HTk.out j hjk
        generalize V.take j = P at *
        have HU := Lib.hid hU
        clear hU
        have hn := HIn.out j hjk
        obtain ⟨g, off, rfl, hgl, _, hc⟩ := (HR.out.touch HT.out (fun _ _ e => e)).2 (by omega)
        have cj := hc j _ (get_I64 hjk)
        simp only [I64] at cj
        have hbl := HB.out.lt
        have HGt := Lib.hid (fun w1 => HGt.out (members.getD j 0) hn w1)
        generalize members.getD j 0 = n at *
        clear hc
        by_cases hns : n = self
        · subst hns
          rw [if_pos rfl] at HU
          have hbe : (n == n) = true := by simp
          obtain ⟨X, hX⟩ : ∃ X, X = own := ⟨_, rfl⟩
          rw [← hX] at HU ⊢
          clear hX
          go_wp2_with (
            at_builtin
            go_must (refine wpList_own_append rfl _ _ 117 117 rfl 24 i0 (.int .u64 0) 1 8 Try.underlying117 hi hz0 hz1 hz2 rfl _ r P.length (P.map U64) rfl (by exact HO.out.touch ((Touch.refl (fun _ => False) wr).alloc _) (fun _ _ e => e)) _ 1 [.int .u64 (X : Int)] rfl (by exact Src.lit Try.underlying117 wr.heap.size 1 1 24 #[.int .u64 (X : Int)] (Blk.new wr 24 #[.int .u64 (X : Int)]) rfl (fun u hu => by simp at hu; subst hu; rfl)) (by simp only [maxLen]; omega) (by omega) ?_)
            intro v1 r1 w9 ho1 ht1 hr1
            have HR1 := Lib.hid (And.intro ho1 (And.intro ht1 hr1))
            clear ho1 ht1 hr1)
          go_roundw
          case rel =>
            obtain ⟨ho1, ht1, hr1⟩ := HR1.out
            have hs := HT.out.size
            have htw : Touch (fun _ => False) wr (wr.alloc (.cells #[.int .u64 (X : Int)] 24)) := (Touch.refl _ wr).alloc _
            have hsz := htw.size
            refine ⟨j + 1, by omega, by go_num, ⟨r1, ?_, ?_⟩, (HT.out.trans htw (fun _ _ e => e)).trans ht1 (fun q hq e => by have := HRk.out q e; omega), ht1.blk (htw.blk HB.out (fun e => e)) (fun e => by have := HRk.out _ e; omega)⟩
            · rw [HU.out, List.length_append, List.map_append]; exact ho1
            · intro k e
              rcases hr1 with e' | ⟨q, e', hq⟩
              · exact HRk.out k (e'.symm.trans e)
              · rw [e'] at e; injection e with e; omega
          case measure => simp [intOf]; omega
        · rw [if_neg hns] at HU
          have hbe : (n == self) = false := by simpa using hns
          obtain ⟨L, hL⟩ : ∃ L, L = lineV t n := ⟨_, rfl⟩
          rw [← hL] at HU HGt
          obtain ⟨X, y1, y2, y3⟩ := L
          simp only [lnC] at HU HGt
          clear hL hns
          go_wp2_with fail
          have HBd := Lib.hid (show Blk wr.drew w.heap.size 37 C from HB.out.drewN 0)
          have cjd : wr.drew.cell? ⟨g, off + j, none⟩ = some (.int .i64 n) := cj
          clear cj
          refine PF.wp_region_fork [(1, 0), (1, 1), (1, 2), (1, 3), (1, 4)] 5 9 [(1, 6), (1, 7), (1, 8), (2, 9), (2, 10), (1, 11)] [(2, 5), (1, 6), (1, 7), (1, 8), (2, 10), (1, 11)] (fun q => wr.heap.size ≤ q) (by kernel_rfl) (by kernel_rfl) (fun c a d v w h => by cases d <;> exact h) ?_
          ((with_reducible apply PF.plan_hC rowTb (x := _) (T := fun q => wr.heap.size ≤ q) w.heap.size 0 C HN.out (fun wh hT => (hT.blk HBd.out (by omega)).whole)); exact rfl; exact rfl; exact rfl; exact rfl; go_frame)
          iterate 4
            apply plan_h
            · rfl
            · rfl
            · intro wh hT
              have hf0 := (hT.cell (p := ⟨g, off + j, none⟩) hgl (fun e => by simp only at e; omega)).trans cjd
              go_simp
              try rfl
            go_frame
          apply PF.fork_
          · rfl
          · rfl
          · rfl
          · rfl
          · intro Kc hKc
            go_simp
            refine (HGt.out _).mono ?_
            rintro e w2 ⟨rfl, t2⟩
            refine hKc _ _ ⟨t2.mono (fun q hq e => e.elim), ?_⟩
            clear hKc Kc
            have HT2 := Lib.hid (show Touch (fun _ => False) wr w2 from (Touch.refl (fun _ => False) wr).drew.trans t2 (fun _ _ e => e))
            have hsw2 := HT2.out.size
            clear t2
            iterate 3
              apply plan_h
              · rfl
              · rfl
              · intro wh hT
                go_simp
                try rfl
              go_frame
            refine plan_a1 rfl (by rfl) (fun Kc hKc => ?_)
            go_simp
            refine hKc _ _ ⟨((Touch.refl (fun q => wr.heap.size ≤ q) w2).alloc _), ?_⟩
            clear hKc Kc
            refine plan_a1 rfl (by rfl) (fun Kc hKc => ?_)
            go_simp
            refine hKc _ _ ⟨Touch.swapN (S := fun q => wr.heap.size ≤ q) (w := w2) (by omega) _ _ _ _, ?_⟩
            clear hKc Kc
            iterate 1
              apply plan_h
              · rfl
              · rfl
              · intro wh hT
                go_simp
                try rfl
              go_frame
            refine plan_done ?_
            go_wp2_with (
              at_builtin
              go_must (refine wpList_own_append rfl _ _ 117 117 rfl 24 i0 (.int .u64 0) 1 8 Try.underlying117 hi hz0 hz1 hz2 rfl _ r P.length (P.map U64) rfl (by exact HO.out.touch ((HT2.out.alloc _).alloc _) (fun _ _ e => e)) _ 1 [.int .u64 (X : Int)] rfl (by exact Src.lit Try.underlying117 (w2.heap.size + 1) 1 1 24 #[.int .u64 (X : Int)] (show Blk _ (w2.heap.size + 1) _ _ by simpa using Blk.new (w2.alloc (.cells #[.int .u64 (X : Int), .int .u64 (y1 : Int), .int .u64 (y2 : Int), .bool y3] 34)) 24 #[.int .u64 (X : Int)]) rfl (fun u hu => by simp at hu; subst hu; rfl)) (by simp only [maxLen]; omega) (by omega) ?_)
              intro v1 r1 w9 ho1 ht1 hr1
              have HR1 := Lib.hid (And.intro ho1 (And.intro ht1 hr1))
              clear ho1 ht1 hr1)
            go_roundw
            case rel =>
              obtain ⟨ho1, ht1, hr1⟩ := HR1.out
              have hs := HT.out.size
              have htw : Touch (fun _ => False) wr ((w2.alloc (.cells #[.int .u64 (X : Int), .int .u64 (y1 : Int), .int .u64 (y2 : Int), .bool y3] 34)).alloc (.cells #[.int .u64 (X : Int)] 24)) := (HT2.out.alloc _).alloc _
              have hsz := htw.size
              refine ⟨j + 1, by omega, by go_num, ⟨r1, ?_, ?_⟩, (HT.out.trans htw (fun _ _ e => e)).trans ht1 (fun q hq e => by have := HRk.out q e; omega), ht1.blk (htw.blk HB.out (fun e => e)) (fun e => by have := HRk.out _ e; omega)⟩
              · rw [HU.out, List.length_append, List.map_append]; exact ho1
              · intro k e
                rcases hr1 with e' | ⟨q, e', hq⟩
                · exact HRk.out k (e'.symm.trans e)
                · rw [e'] at e; injection e with e; omega
            case measure => simp [intOf]; omega
          · intro Kc hKc
            go_simp
            refine hKc _ _ ⟨((Touch.refl (fun q => wr.heap.size ≤ q) wr.drew).alloc _), ?_⟩
            clear hKc Kc
            have HBN := Lib.hid (show Blk (wr.drew.alloc (.cells #[.int .u64 0, .int .u64 0, .int .u64 0, .bool false] 34)) wr.heap.size 34 #[.int .u64 0, .int .u64 0, .int .u64 0, .bool false] from Blk.new wr.drew _ _)
            refine plan_a1 rfl (by rfl) (fun Kc hKc => ?_)
            go_simp
            refine (HGt.out _).mono ?_
            rintro e w2 ⟨rfl, t2⟩
            refine hKc _ _ ⟨t2.mono (fun q hq e => e.elim), ?_⟩
            clear hKc Kc
            have HT2 := Lib.hid (show Touch (fun _ => False) wr w2 from (((Touch.refl (fun _ => False) wr).drew).alloc (.cells #[.int .u64 0, .int .u64 0, .int .u64 0, .bool false] 34)).trans t2 (fun _ _ e => e))
            have HBM := Lib.hid (t2.blk HBN.out (fun e => e))
            have hsw2 : wr.heap.size < w2.heap.size := HBM.out.lt
            clear t2
            iterate 3
              apply plan_h
              · rfl
              · rfl
              · intro wh hT
                go_simp
                try rfl
              go_frame
            ((with_reducible apply PF.plan_aM rowLn (x := _) (y := _) (T := fun q => wr.heap.size ≤ q) wr.heap.size 0 #[.int .u64 (X : Int), .int .u64 (y1 : Int), .int .u64 (y2 : Int), .bool y3] _ _ HBM.out (by simp) rfl (by simp [Value.oneCell']) (Nat.le_refl _)); exact rfl; exact rfl; exact rfl; exact rfl; exact rfl; intro w3 hb3 t3 hz3; clear hz3; go_frame)
            have HB3 := Lib.hid (show Blk w3 wr.heap.size 34 #[.int .u64 (X : Int), .int .u64 (y1 : Int), .int .u64 (y2 : Int), .bool y3] from hb3)
            have HT3 := Lib.hid (HT2.out.trans t3 (fun q hq e => by omega))
            have hz3' := HT3.out.size
            clear hb3 t3
            iterate 1
              apply plan_h
              · rfl
              · rfl
              · intro wh hT
                go_simp
                try rfl
              go_frame
            refine plan_done ?_
            have cX := HB3.out.cell 0
            simp at cX
            go_wp2_with (
              at_builtin
              go_must (refine wpList_own_append rfl _ _ 117 117 rfl 24 i0 (.int .u64 0) 1 8 Try.underlying117 hi hz0 hz1 hz2 rfl _ r P.length (P.map U64) rfl (by exact HO.out.touch (HT3.out.alloc _) (fun _ _ e => e)) _ 1 [.int .u64 (X : Int)] rfl (by exact Src.lit Try.underlying117 w3.heap.size 1 1 24 #[.int .u64 (X : Int)] (Blk.new w3 24 #[.int .u64 (X : Int)]) rfl (fun u hu => by simp at hu; subst hu; rfl)) (by simp only [maxLen]; omega) (by omega) ?_)
              intro v1 r1 w9 ho1 ht1 hr1
              have HR1 := Lib.hid (And.intro ho1 (And.intro ht1 hr1))
              clear ho1 ht1 hr1)
            go_roundw
            case rel =>
              obtain ⟨ho1, ht1, hr1⟩ := HR1.out
              have hs := HT.out.size
              have htw : Touch (fun _ => False) wr (w3.alloc (.cells #[.int .u64 (X : Int)] 24)) := (HT3.out).alloc _
              have hsz := htw.size
              refine ⟨j + 1, by omega, by go_num, ⟨r1, ?_, ?_⟩, (HT.out.trans htw (fun _ _ e => e)).trans ht1 (fun q hq e => by have := HRk.out q e; omega), ht1.blk (htw.blk HB.out (fun e => e)) (fun e => by have := HRk.out _ e; omega)⟩
              · rw [HU.out, List.length_append, List.map_append]; exact ho1
              · intro k e
                rcases hr1 with e' | ⟨q, e', hq⟩
                · exact HRk.out k (e'.symm.trans e)
                · rw [e'] at e; injection e with e; omega
            case measure => simp [intOf]; omega
      · obtain rfl : j = members.length := by omega
        rw [show V.take members.length = V by rw [← HLn.out, List.take_length]] at HO
        obtain ⟨A1, c1, hv, hc1, hc2, _, hr⟩ := HO.out.rd
        injection hv with hv1 hv2 hv3
        subst hv1 hv3
        have HG := Lib.hid (fun w1 h => fgreatest_any (fun _ => True) A0 c0 V (members.length / 2 + 1) w1 h (by rw [HLn.out]; omega) (by omega) HLt.out)
        have HRv := Lib.hid (hr.mono (F' := fun _ => True) (fun _ _ => trivial))
        rw [show (V.take members.length).length = V.length by rw [← HLn.out, List.take_length]]
        clear hr hv2 hc1 hc2
        go_wp2_with (first
          | (go_at_call 66; go_must (refine (HQ.out _ (by exact HR.out.touch HT.out (fun _ _ e => e))).mono ?_); rintro e w3 ⟨rfl, t3⟩; have HT3 := Lib.hid t3; clear t3)
          | (go_at_call 65; go_must (refine (HG.out _ (by exact HRv.out.touch HT3.out (fun _ _ e => e))).mono ?_); rintro e w4 ⟨rfl, t4⟩; have HT4 := Lib.hid t4; clear t4))
        go_ret
        exact ⟨rfl, (HT.out.trans HT3.out (fun _ _ e => e)).trans HT4.out (fun _ _ e => e)⟩
  · have hs : Row.soundB members = false := by simpa using hs
    have HV := Lib.hid (show agreedV t Ln.m members self own = 0 by rw [agreedV, hs]; rfl)
    rw [HV.out]
    rw [hs] at HS
    generalize refT t = C at *
    clear HV hs
    go_enter Try.func21, Try.ntmps21
    go_wp2_with (go_at_call 12; go_must (refine HS.out.mono ?_); rintro e w1 ⟨rfl, t1⟩; have HT1 := Lib.hid (HT0.out.trans t1 (fun _ _ e => e)); clear t1)
    go_ret
    exact ⟨rfl, HT1.out⟩
theorem fanswered_any (F : Nat → Prop) (A : Option Addr) (c : Nat) (members : List Int) (t : Tb) (ok : t.Ok) (self : Int) (hse : inI self) (own : Nat) (ho : own < 18446744073709551616) (w : World) (hr : Rd w F A members.length (members.map I64)) (hsm : members.length ≤ 1000000) :
    Calls Try.prog 23 #[.agg (refT t), .slice A members.length c, .int .i64 self, .int .u64 own] w fun e w' => e = .returned (.int .u64 (agreedV t Ln.r members self own)) ∧ Touch (fun _ => False) w w' := by
  obtain ⟨i0, hi, hz0, hz1, hz2⟩ := info_parts infoU64
  have HR := Lib.hid hr
  have HT0 := Lib.hid ((Touch.refl (fun _ => False) w).alloc (.cells (refT t) 37))
  have HB0 := Lib.hid (Blk.new w 37 (refT t))
  have HN := Lib.hid (refT_size t)
  have HS := Lib.hid (rsound_any F A c members _ (HR.out.touch HT0.out (fun _ _ e => e)) (by omega))
  clear hr
  by_cases hs : Row.soundB members = true
  · have HV := Lib.hid (show agreedV t Ln.r members self own = great (vals t Ln.r members self own) (members.length / 2 + 1) (vals t Ln.r members self own) 0 by rw [agreedV, hs]; rfl)
    have hlen := Row.sound_len hs
    have HQ := Lib.hid (fun w1 h => rquorum_any F A c members w1 h hsm)
    rw [hs] at HS HQ
    simp only [if_true] at HQ
    have HIn := Lib.hid (show ∀ j, j < members.length → inI (members.getD j 0) from fun j hj => by have := ((Row.sound_iff members).1 hs).2.2 _ (Row.getD_mem hj); unfold inI; omega)
    have HGt := Lib.hid (fun n hn w1 => fget_any t ok n hn w1)
    have HTk := Lib.hid (fun j hj => vals_take t Ln.r members self own j hj)
    have HLt := Lib.hid ((vals_lt t ok members self own ho).2)
    have HLn := Lib.hid (vals_len t Ln.r members self own)
    rw [HV.out]
    generalize vals t Ln.r members self own = V at *
    generalize refT t = C at *
    clear HV hs
    go_enter Try.func23, Try.ntmps23
    go_wp2_with (go_at_call 12; go_must (refine HS.out.mono ?_); rintro e w1 ⟨rfl, t1⟩; have HT1 := Lib.hid (HT0.out.trans t1 (fun _ _ e => e)); have HB1 := Lib.hid (t1.blk HB0.out (fun e => e)); clear t1)
    go_loopw [9, 10, 11, 12] (fun v i _ _ wr => ∃ j : Nat, j ≤ members.length ∧ i = .int .i64 j ∧ (∃ r, Own wr 24 1 v r (V.take j).length ((V.take j).map U64) ∧ ∀ k, r = some k → w.heap.size < k) ∧ Touch (fun _ => False) w wr ∧ Blk wr w.heap.size 37 C) (fun _ i _ _ _ => members.length - (intOf i).toNat)
    case atStart => exact ⟨0, by omega, rfl, ⟨none, by simpa using Own.nil _ _ _, fun k e => by cases e⟩, HT1.out, HB1.out⟩
    case round =>
      clear HT1 HB1 HT0 HB0
      obtain ⟨j, hj, rfl, ⟨r, ho, hrk⟩, hT, hB⟩ := hrel
      obtain ⟨A0, c0, rfl, -, -⟩ := ho.form
      have HO := Lib.hid ho
      have HRk := Lib.hid hrk
      have HT := Lib.hid hT
      have HB := Lib.hid hB
      clear ho hT hrk hB
      have hol : (V.take j).length ≤ 7 := Nat.le_trans (List.length_take_le _ _) (by omega)
      by_cases hjk : j < members.length
      · have hU := HTk.out j hjk
        generalize V.take j = P at *
        have HU := Lib.hid hU
        clear hU
        have hn := HIn.out j hjk
        obtain ⟨g, off, rfl, hgl, _, hc⟩ := (HR.out.touch HT.out (fun _ _ e => e)).2 (by omega)
        have cj := hc j _ (get_I64 hjk)
        simp only [I64] at cj
        have hbl := HB.out.lt
        have HGt := Lib.hid (fun w1 => HGt.out (members.getD j 0) hn w1)
        generalize members.getD j 0 = n at *
        clear hc
        by_cases hns : n = self
        · subst hns
          rw [if_pos rfl] at HU
          have hbe : (n == n) = true := by simp
          obtain ⟨X, hX⟩ : ∃ X, X = own := ⟨_, rfl⟩
          rw [← hX] at HU ⊢
          clear hX
          go_wp2_with (
            at_builtin
            go_must (refine wpList_own_append rfl _ _ 117 117 rfl 24 i0 (.int .u64 0) 1 8 Try.underlying117 hi hz0 hz1 hz2 rfl _ r P.length (P.map U64) rfl (by exact HO.out.touch ((Touch.refl (fun _ => False) wr).alloc _) (fun _ _ e => e)) _ 1 [.int .u64 (X : Int)] rfl (by exact Src.lit Try.underlying117 wr.heap.size 1 1 24 #[.int .u64 (X : Int)] (Blk.new wr 24 #[.int .u64 (X : Int)]) rfl (fun u hu => by simp at hu; subst hu; rfl)) (by simp only [maxLen]; omega) (by omega) ?_)
            intro v1 r1 w9 ho1 ht1 hr1
            have HR1 := Lib.hid (And.intro ho1 (And.intro ht1 hr1))
            clear ho1 ht1 hr1)
          go_roundw
          case rel =>
            obtain ⟨ho1, ht1, hr1⟩ := HR1.out
            have hs := HT.out.size
            have htw : Touch (fun _ => False) wr (wr.alloc (.cells #[.int .u64 (X : Int)] 24)) := (Touch.refl _ wr).alloc _
            have hsz := htw.size
            refine ⟨j + 1, by omega, by go_num, ⟨r1, ?_, ?_⟩, (HT.out.trans htw (fun _ _ e => e)).trans ht1 (fun q hq e => by have := HRk.out q e; omega), ht1.blk (htw.blk HB.out (fun e => e)) (fun e => by have := HRk.out _ e; omega)⟩
            · rw [HU.out, List.length_append, List.map_append]; exact ho1
            · intro k e
              rcases hr1 with e' | ⟨q, e', hq⟩
              · exact HRk.out k (e'.symm.trans e)
              · rw [e'] at e; injection e with e; omega
          case measure => simp [intOf]; omega
        · rw [if_neg hns] at HU
          have hbe : (n == self) = false := by simpa using hns
          obtain ⟨L, hL⟩ : ∃ L, L = lineV t n := ⟨_, rfl⟩
          rw [← hL] at HU HGt
          obtain ⟨y1, y2, X, y3⟩ := L
          simp only [lnC] at HU HGt
          clear hL hns
          go_wp2_with fail
          have HBd := Lib.hid (show Blk wr.drew w.heap.size 37 C from HB.out.drewN 0)
          have cjd : wr.drew.cell? ⟨g, off + j, none⟩ = some (.int .i64 n) := cj
          clear cj
          refine PF.wp_region_fork [(1, 0), (1, 1), (1, 2), (1, 3), (1, 4)] 5 9 [(1, 6), (1, 7), (1, 8), (2, 9), (2, 10), (1, 11)] [(2, 5), (1, 6), (1, 7), (1, 8), (2, 10), (1, 11)] (fun q => wr.heap.size ≤ q) (by kernel_rfl) (by kernel_rfl) (fun c a d v w h => by cases d <;> exact h) ?_
          ((with_reducible apply PF.plan_hC rowTb (x := _) (T := fun q => wr.heap.size ≤ q) w.heap.size 0 C HN.out (fun wh hT => (hT.blk HBd.out (by omega)).whole)); exact rfl; exact rfl; exact rfl; exact rfl; go_frame)
          iterate 4
            apply plan_h
            · rfl
            · rfl
            · intro wh hT
              have hf0 := (hT.cell (p := ⟨g, off + j, none⟩) hgl (fun e => by simp only at e; omega)).trans cjd
              go_simp
              try rfl
            go_frame
          apply PF.fork_
          · rfl
          · rfl
          · rfl
          · rfl
          · intro Kc hKc
            go_simp
            refine (HGt.out _).mono ?_
            rintro e w2 ⟨rfl, t2⟩
            refine hKc _ _ ⟨t2.mono (fun q hq e => e.elim), ?_⟩
            clear hKc Kc
            have HT2 := Lib.hid (show Touch (fun _ => False) wr w2 from (Touch.refl (fun _ => False) wr).drew.trans t2 (fun _ _ e => e))
            have hsw2 := HT2.out.size
            clear t2
            iterate 3
              apply plan_h
              · rfl
              · rfl
              · intro wh hT
                go_simp
                try rfl
              go_frame
            refine plan_a1 rfl (by rfl) (fun Kc hKc => ?_)
            go_simp
            refine hKc _ _ ⟨((Touch.refl (fun q => wr.heap.size ≤ q) w2).alloc _), ?_⟩
            clear hKc Kc
            refine plan_a1 rfl (by rfl) (fun Kc hKc => ?_)
            go_simp
            refine hKc _ _ ⟨Touch.swapN (S := fun q => wr.heap.size ≤ q) (w := w2) (by omega) _ _ _ _, ?_⟩
            clear hKc Kc
            iterate 1
              apply plan_h
              · rfl
              · rfl
              · intro wh hT
                go_simp
                try rfl
              go_frame
            refine plan_done ?_
            go_wp2_with (
              at_builtin
              go_must (refine wpList_own_append rfl _ _ 117 117 rfl 24 i0 (.int .u64 0) 1 8 Try.underlying117 hi hz0 hz1 hz2 rfl _ r P.length (P.map U64) rfl (by exact HO.out.touch ((HT2.out.alloc _).alloc _) (fun _ _ e => e)) _ 1 [.int .u64 (X : Int)] rfl (by exact Src.lit Try.underlying117 (w2.heap.size + 1) 1 1 24 #[.int .u64 (X : Int)] (show Blk _ (w2.heap.size + 1) _ _ by simpa using Blk.new (w2.alloc (.cells #[.int .u64 (y1 : Int), .int .u64 (y2 : Int), .int .u64 (X : Int), .bool y3] 34)) 24 #[.int .u64 (X : Int)]) rfl (fun u hu => by simp at hu; subst hu; rfl)) (by simp only [maxLen]; omega) (by omega) ?_)
              intro v1 r1 w9 ho1 ht1 hr1
              have HR1 := Lib.hid (And.intro ho1 (And.intro ht1 hr1))
              clear ho1 ht1 hr1)
            go_roundw
            case rel =>
              obtain ⟨ho1, ht1, hr1⟩ := HR1.out
              have hs := HT.out.size
              have htw : Touch (fun _ => False) wr ((w2.alloc (.cells #[.int .u64 (y1 : Int), .int .u64 (y2 : Int), .int .u64 (X : Int), .bool y3] 34)).alloc (.cells #[.int .u64 (X : Int)] 24)) := (HT2.out.alloc _).alloc _
              have hsz := htw.size
              refine ⟨j + 1, by omega, by go_num, ⟨r1, ?_, ?_⟩, (HT.out.trans htw (fun _ _ e => e)).trans ht1 (fun q hq e => by have := HRk.out q e; omega), ht1.blk (htw.blk HB.out (fun e => e)) (fun e => by have := HRk.out _ e; omega)⟩
              · rw [HU.out, List.length_append, List.map_append]; exact ho1
              · intro k e
                rcases hr1 with e' | ⟨q, e', hq⟩
                · exact HRk.out k (e'.symm.trans e)
                · rw [e'] at e; injection e with e; omega
            case measure => simp [intOf]; omega
          · intro Kc hKc
            go_simp
            refine hKc _ _ ⟨((Touch.refl (fun q => wr.heap.size ≤ q) wr.drew).alloc _), ?_⟩
            clear hKc Kc
            have HBN := Lib.hid (show Blk (wr.drew.alloc (.cells #[.int .u64 0, .int .u64 0, .int .u64 0, .bool false] 34)) wr.heap.size 34 #[.int .u64 0, .int .u64 0, .int .u64 0, .bool false] from Blk.new wr.drew _ _)
            refine plan_a1 rfl (by rfl) (fun Kc hKc => ?_)
            go_simp
            refine (HGt.out _).mono ?_
            rintro e w2 ⟨rfl, t2⟩
            refine hKc _ _ ⟨t2.mono (fun q hq e => e.elim), ?_⟩
            clear hKc Kc
            have HT2 := Lib.hid (show Touch (fun _ => False) wr w2 from (((Touch.refl (fun _ => False) wr).drew).alloc (.cells #[.int .u64 0, .int .u64 0, .int .u64 0, .bool false] 34)).trans t2 (fun _ _ e => e))
            have HBM := Lib.hid (t2.blk HBN.out (fun e => e))
            have hsw2 : wr.heap.size < w2.heap.size := HBM.out.lt
            clear t2
            iterate 3
              apply plan_h
              · rfl
              · rfl
              · intro wh hT
                go_simp
                try rfl
              go_frame
            ((with_reducible apply PF.plan_aM rowLn (x := _) (y := _) (T := fun q => wr.heap.size ≤ q) wr.heap.size 0 #[.int .u64 (y1 : Int), .int .u64 (y2 : Int), .int .u64 (X : Int), .bool y3] _ _ HBM.out (by simp) rfl (by simp [Value.oneCell']) (Nat.le_refl _)); exact rfl; exact rfl; exact rfl; exact rfl; exact rfl; intro w3 hb3 t3 hz3; clear hz3; go_frame)
            have HB3 := Lib.hid (show Blk w3 wr.heap.size 34 #[.int .u64 (y1 : Int), .int .u64 (y2 : Int), .int .u64 (X : Int), .bool y3] from hb3)
            have HT3 := Lib.hid (HT2.out.trans t3 (fun q hq e => by omega))
            have hz3' := HT3.out.size
            clear hb3 t3
            iterate 1
              apply plan_h
              · rfl
              · rfl
              · intro wh hT
                go_simp
                try rfl
              go_frame
            refine plan_done ?_
            have cX := HB3.out.cell 2
            simp at cX
            go_wp2_with (
              at_builtin
              go_must (refine wpList_own_append rfl _ _ 117 117 rfl 24 i0 (.int .u64 0) 1 8 Try.underlying117 hi hz0 hz1 hz2 rfl _ r P.length (P.map U64) rfl (by exact HO.out.touch (HT3.out.alloc _) (fun _ _ e => e)) _ 1 [.int .u64 (X : Int)] rfl (by exact Src.lit Try.underlying117 w3.heap.size 1 1 24 #[.int .u64 (X : Int)] (Blk.new w3 24 #[.int .u64 (X : Int)]) rfl (fun u hu => by simp at hu; subst hu; rfl)) (by simp only [maxLen]; omega) (by omega) ?_)
              intro v1 r1 w9 ho1 ht1 hr1
              have HR1 := Lib.hid (And.intro ho1 (And.intro ht1 hr1))
              clear ho1 ht1 hr1)
            go_roundw
            case rel =>
              obtain ⟨ho1, ht1, hr1⟩ := HR1.out
              have hs := HT.out.size
              have htw : Touch (fun _ => False) wr (w3.alloc (.cells #[.int .u64 (X : Int)] 24)) := (HT3.out).alloc _
              have hsz := htw.size
              refine ⟨j + 1, by omega, by go_num, ⟨r1, ?_, ?_⟩, (HT.out.trans htw (fun _ _ e => e)).trans ht1 (fun q hq e => by have := HRk.out q e; omega), ht1.blk (htw.blk HB.out (fun e => e)) (fun e => by have := HRk.out _ e; omega)⟩
              · rw [HU.out, List.length_append, List.map_append]; exact ho1
              · intro k e
                rcases hr1 with e' | ⟨q, e', hq⟩
                · exact HRk.out k (e'.symm.trans e)
                · rw [e'] at e; injection e with e; omega
            case measure => simp [intOf]; omega
      · obtain rfl : j = members.length := by omega
        rw [show V.take members.length = V by rw [← HLn.out, List.take_length]] at HO
        obtain ⟨A1, c1, hv, hc1, hc2, _, hr⟩ := HO.out.rd
        injection hv with hv1 hv2 hv3
        subst hv1 hv3
        have HG := Lib.hid (fun w1 h => fgreatest_any (fun _ => True) A0 c0 V (members.length / 2 + 1) w1 h (by rw [HLn.out]; omega) (by omega) HLt.out)
        have HRv := Lib.hid (hr.mono (F' := fun _ => True) (fun _ _ => trivial))
        rw [show (V.take members.length).length = V.length by rw [← HLn.out, List.take_length]]
        clear hr hv2 hc1 hc2
        go_wp2_with (first
          | (go_at_call 66; go_must (refine (HQ.out _ (by exact HR.out.touch HT.out (fun _ _ e => e))).mono ?_); rintro e w3 ⟨rfl, t3⟩; have HT3 := Lib.hid t3; clear t3)
          | (go_at_call 65; go_must (refine (HG.out _ (by exact HRv.out.touch HT3.out (fun _ _ e => e))).mono ?_); rintro e w4 ⟨rfl, t4⟩; have HT4 := Lib.hid t4; clear t4))
        go_ret
        exact ⟨rfl, (HT.out.trans HT3.out (fun _ _ e => e)).trans HT4.out (fun _ _ e => e)⟩
  · have hs : Row.soundB members = false := by simpa using hs
    have HV := Lib.hid (show agreedV t Ln.r members self own = 0 by rw [agreedV, hs]; rfl)
    rw [HV.out]
    rw [hs] at HS
    generalize refT t = C at *
    clear HV hs
    go_enter Try.func23, Try.ntmps23
    go_wp2_with (go_at_call 12; go_must (refine HS.out.mono ?_); rintro e w1 ⟨rfl, t1⟩; have HT1 := Lib.hid (HT0.out.trans t1 (fun _ _ e => e)); clear t1)
    go_ret
    exact ⟨rfl, HT1.out⟩
end PF
end Go.Proofs.Ytpgakkpmpnebnaa
