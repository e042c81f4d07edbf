/- Progress: Agreed, Answered. (written by genprm.py) -/
import Derived.Test.YtpgakkpmpnebnaaVPrZ
import Derived.Test.YtpgakkpmpnebnaaVPrC
import Derived.Test.YtpgakkpmpnebnaaVSortU
namespace Go.Proofs.Ytpgakkpmpnebnaa
open Go.RowKit Go.Maps Prg
set_option maxHeartbeats 4000000
set_option maxRecDepth 100000
set_option linter.unusedVariables false

/-- What Line tells, in this world and in any later one that has but new memory. -/
def LineC (v : Value) (t : Tb) (w : World) : Prop := ∀ w', Touch (fun _ => False) w w' → ∀ n, inI n → Calls Try.prog 18 #[v, .int .i64 n] w' fun e w'' => e = .returned (.tuple #[.agg (lnC (lineV t n)), .bool (t n).isSome]) ∧ Touch (fun _ => False) w' w''
theorem PgAt.lineC {w : World} {g b : Nat} {t : Tb} {F : Nat → Prop} (h : PgAt w g b t F) : LineC (.pointer (some ⟨g, 0, none⟩)) t w := fun w' t' n hn => pLine_any g b t F n w' (h.none_ t') hn
theorem pmatch_any (x : Ln) (w : World) : Calls Try.prog 59 #[.agg (lnC x)] w fun e w' => e = .returned (.int .u64 x.m) ∧ Touch (fun _ => False) w w' := by
  go_enter Try.func59, Try.ntmps59
  go_wp2
  go_ret
  exact ⟨rfl, (Touch.refl _ w).alloc _⟩
theorem pround_any (x : Ln) (w : World) : Calls Try.prog 67 #[.agg (lnC x)] w fun e w' => e = .returned (.int .u64 x.r) ∧ Touch (fun _ => False) w w' := by
  go_enter Try.func67, Try.ntmps67
  go_wp2
  go_ret
  exact ⟨rfl, (Touch.refl _ w).alloc _⟩
theorem merge_sorted (l : List Nat) : (l.mergeSort fun x y => decide (x ≤ y)).Pairwise (· ≤ ·) := by
  have := List.pairwise_mergeSort (le := fun x y : Nat => decide (x ≤ y)) (fun a b c h1 h2 => by simp at *; omega) (fun a b => by simp; omega) l
  exact this.imp fun h => by simpa using h
theorem preach_match (F : Nat → Prop) (A : Option Addr) (c : Nat) (members : List Int) (v : Value) (t : Tb) (ok : t.Ok) (self : Int) (hse : inI self) (own : Nat) (ho : own < 18446744073709551616) (w : World) (hr : Rd w F A members.length (members.map I64)) (hsm : members.length ≤ 1000000) (hv : LineC v t w) :
    Calls Try.prog 58 #[v, .slice A members.length c, .int .i64 self, .int .u64 own, .func (.func 59) #[] #[]] w fun e w' => e = .returned (.int .u64 (agreedV t Ln.m members self own)) ∧ Touch (fun _ => False) w w' := by
  obtain ⟨i0, hi, hz0, hz1, hz2⟩ := info_parts infoU64
  have HR := Lib.hid hr
  have HS := Lib.hid (msound_any F A c members w hr hsm)
  have HL := Lib.hid hv
  clear hr hv
  by_cases hs : Row.soundB members = true
  · have HV := Lib.hid (show agreedV t Ln.m members self own = great (vals t Ln.m members self own) (members.length / 2 + 1) (vals t Ln.m members self own) 0 by rw [agreedV, hs]; rfl)
    have hlen := Row.sound_len hs
    have HQ := Lib.hid (fun w1 h => mquorum_any F A c members w1 h hsm)
    rw [hs] at HS HQ
    simp only [if_true] at HQ
    have HIn := Lib.hid (show ∀ j, j < members.length → inI (members.getD j 0) from fun j hj => by have := ((Row.sound_iff members).1 hs).2.2 _ (Row.getD_mem hj); unfold inI; omega)
    have HTk := Lib.hid (fun j hj => vals_take t Ln.m members self own j hj)
    have HLn := Lib.hid (vals_len t Ln.m members self own)
    obtain ⟨q, hq⟩ : ∃ q, q = members.length / 2 + 1 := ⟨_, rfl⟩
    rw [HV.out]
    rw [← hq] at HQ ⊢
    have hq1 : 1 ≤ q := by omega
    have hql : q ≤ members.length := by omega
    generalize vals t Ln.m members self own = V at *
    clear HV hs hq
    go_enter Try.func58, Try.ntmps58
    go_wp2_with (go_at_call 100; go_must (refine HS.out.mono ?_); rintro e w1 ⟨rfl, t1⟩; have HT1 := Lib.hid t1; clear t1)
    go_loopw [11, 13, 14, 15, 16, 23] (fun lv _ _ _ _ i wr => ∃ j : Nat, j ≤ members.length ∧ i = .int .i64 j ∧ (∃ r, Own wr 24 1 lv r (V.take j).length ((V.take j).map U64) ∧ ∀ k, r = some k → w.heap.size ≤ k) ∧ Touch (fun _ => False) w wr) (fun _ _ _ _ _ i _ => members.length - (intOf i).toNat)
    case atStart => exact ⟨0, by omega, rfl, ⟨none, by simpa using Own.nil _ _ _, fun k e => by cases e⟩, HT1.out⟩
    case round =>
      clear HT1
      obtain ⟨j, hj, rfl, ⟨r, ho, hrk⟩, hT⟩ := hrel
      obtain ⟨A0, c0, rfl, -, -⟩ := ho.form
      have HO := Lib.hid ho
      have HRk := Lib.hid hrk
      have HT := Lib.hid hT
      clear ho hT hrk
      have hol : (V.take j).length ≤ 7 := Nat.le_trans (List.length_take_le _ _) (by omega)
      by_cases hjk : j < members.length
      · have hU := HTk.out j hjk
        generalize V.take j = P at *
        have HU := Lib.hid hU
        clear hU
        have hn := HIn.out j hjk
        obtain ⟨g, off, rfl, hgl, _, hc⟩ := (HR.out.touch HT.out (fun _ _ e => e)).2 (by omega)
        have cj := hc j _ (get_I64 hjk)
        simp only [I64] at cj
        have HLi := Lib.hid (HL.out wr HT.out _ hn)
        generalize members.getD j 0 = n at *
        clear hc
        obtain ⟨L, hL⟩ : ∃ L, L = lineV t n := ⟨_, rfl⟩
        rw [← hL] at HU HLi
        have HPm := Lib.hid (fun w1 => pmatch_any L w1)
        obtain ⟨y0, y1, y2, y3⟩ := L
        simp only [lnC] at HU HLi HPm
        clear hL
        have hwl : w.heap.size ≤ wr.heap.size := HT.out.size
        obtain ⟨X, hX⟩ : ∃ X, X = (if n = self then own else y0) := ⟨_, rfl⟩
        rw [← hX] at HU
        rcases (show (n = self ∧ X = own) ∨ (¬ n = self ∧ X = y0) by by_cases e : n = self; exact .inl ⟨e, by rw [hX, if_pos e]⟩; exact .inr ⟨e, by rw [hX, if_neg e]⟩) with ⟨hns, hx⟩ | ⟨hns, hx⟩
        · clear hX
          have hbe : (n == self) = true := by simpa using hns
          subst hx
          clear hns
          go_wp2_with (first
            | (go_at_call 18; go_must (refine HLi.out.mono ?_); rintro e w2 ⟨rfl, t2⟩
               have HT2 := Lib.hid (t2.alloc (.cells #[.int .u64 (y0 : Int), .int .u64 (y1 : Int), .int .u64 (y2 : Int), .bool y3] 43))
               clear t2)
            | (go_at_call 59; go_must (refine (HPm.out _).mono ?_); rintro e w3 ⟨rfl, t3⟩
               have HT3 := Lib.hid (HT2.out.trans t3 (fun _ _ e => e))
               have hz3 := HT3.out.size
               clear t3)
            | (at_builtin
               go_must (refine wpList_own_append rfl _ _ 117 117 rfl 24 i0 (.int .u64 0) 1 8 Try.underlying117 hi hz0 hz1 hz2 rfl _ r P.length (P.map U64) rfl (by exact HO.out.touch (HT3.out.alloc _) (fun _ _ e => e)) _ 1 [.int .u64 (X : Int)] rfl (by exact Src.lit Try.underlying117 w3.heap.size 1 1 24 #[.int .u64 (X : Int)] (Blk.new w3 24 #[.int .u64 (X : Int)]) rfl (fun u hu => by simp at hu; subst hu; rfl)) (by simp only [maxLen]; omega) (by omega) ?_)
               intro v1 r1 w9 ho1 ht1 hr1
               have HR1 := Lib.hid (And.intro ho1 (And.intro ht1 hr1))
               clear ho1 ht1 hr1))
          go_roundw
          case rel =>
            obtain ⟨ho1, ht1, hr1⟩ := HR1.out
            have htw := HT3.out.alloc (.cells #[.int .u64 (X : Int)] 24)
            have hsz := htw.size
            refine ⟨j + 1, by omega, by go_num, ⟨r1, ?_, ?_⟩, (HT.out.trans htw (fun _ _ e => e)).trans ht1 (fun q hq e => by have := HRk.out q e; omega)⟩
            · rw [HU.out, List.length_append, List.map_append]; exact ho1
            · intro k e
              rcases hr1 with e' | ⟨q, e', hq⟩
              · exact HRk.out k (e'.symm.trans e)
              · rw [e'] at e; injection e with e; omega
          case measure => simp [intOf]; omega
        · clear hX
          have hbe : (n == self) = false := by simpa using hns
          subst hx
          clear hns
          go_wp2_with (first
            | (go_at_call 18; go_must (refine HLi.out.mono ?_); rintro e w2 ⟨rfl, t2⟩
               have HT2 := Lib.hid (t2.alloc (.cells #[.int .u64 (X : Int), .int .u64 (y1 : Int), .int .u64 (y2 : Int), .bool y3] 43))
               clear t2)
            | (go_at_call 59; go_must (refine (HPm.out _).mono ?_); rintro e w3 ⟨rfl, t3⟩
               have HT3 := Lib.hid (HT2.out.trans t3 (fun _ _ e => e))
               have hz3 := HT3.out.size
               clear t3)
            | (at_builtin
               go_must (refine wpList_own_append rfl _ _ 117 117 rfl 24 i0 (.int .u64 0) 1 8 Try.underlying117 hi hz0 hz1 hz2 rfl _ r P.length (P.map U64) rfl (by exact HO.out.touch (HT3.out.alloc _) (fun _ _ e => e)) _ 1 [.int .u64 (X : Int)] rfl (by exact Src.lit Try.underlying117 w3.heap.size 1 1 24 #[.int .u64 (X : Int)] (Blk.new w3 24 #[.int .u64 (X : Int)]) rfl (fun u hu => by simp at hu; subst hu; rfl)) (by simp only [maxLen]; omega) (by omega) ?_)
               intro v1 r1 w9 ho1 ht1 hr1
               have HR1 := Lib.hid (And.intro ho1 (And.intro ht1 hr1))
               clear ho1 ht1 hr1))
          go_roundw
          case rel =>
            obtain ⟨ho1, ht1, hr1⟩ := HR1.out
            have htw := HT3.out.alloc (.cells #[.int .u64 (X : Int)] 24)
            have hsz := htw.size
            refine ⟨j + 1, by omega, by go_num, ⟨r1, ?_, ?_⟩, (HT.out.trans htw (fun _ _ e => e)).trans ht1 (fun q hq e => by have := HRk.out q e; omega)⟩
            · rw [HU.out, List.length_append, List.map_append]; exact ho1
            · intro k e
              rcases hr1 with e' | ⟨q, e', hq⟩
              · exact HRk.out k (e'.symm.trans e)
              · rw [e'] at e; injection e with e; omega
          case measure => simp [intOf]; omega
      · obtain rfl : j = members.length := by omega
        have hVV : V.take members.length = V := by rw [← HLn.out, List.take_length]
        rw [hVV] at HO hol ⊢
        have HSo := Lib.hid (sortKU_any _ r V wr HO.out (by omega))
        have hp := List.mergeSort_perm V fun x y => decide (x ≤ y)
        obtain ⟨hqx, hg, -, -⟩ := great_eq hp (merge_sorted V) q hq1 (by rw [HLn.out]; omega)
        have hsl : (V.mergeSort fun x y => decide (x ≤ y)).length = members.length := by rw [List.length_mergeSort, HLn.out]
        generalize (V.mergeSort fun x y => decide (x ≤ y)) = s at *
        obtain ⟨k, hk⟩ : ∃ k, k = members.length - q := ⟨_, rfl⟩
        have hkl : k < s.length := by omega
        have hX : s[s.length - q] = s[k] := by congr 1; omega
        rw [hX] at hg
        have HE := Lib.hid (show s[k]? = some s[k] from List.getElem?_eq_getElem hkl)
        generalize s[k] = X at *
        have HGe := Lib.hid hg
        have hvl : V.length = members.length := HLn.out
        rw [hvl] at HO HSo ⊢
        have hsub : IntKind.i64.wrap ((members.length : Int) - (q : Int)) = (k : Int) := by rw [IntWalk.i64_in _ (by omega)]; omega
        have hsub' : wrap64 ((members.length : Int) - (q : Int)) = (k : Int) := by rw [← hsub, IntKind.wrap_i64, wrap64]
        have hk1 : (k : Int) < (members.length : Int) := by omega
        clear hX hg hp hqx hk
        go_wp2_with (first
          | (go_at_call 101; go_must (refine HSo.out.mono ?_); rintro e w3 ⟨rfl, ho3, t3⟩
             have HO3 := Lib.hid ho3
             have HT3 := Lib.hid (HT.out.trans t3 (fun q hq e => by have := HRk.out q e; omega))
             obtain ⟨A1, c1, hv, -, -, _, hr3⟩ := ho3.rd
             injection hv with hv1 hv2 hv3
             subst hv1 hv3
             obtain ⟨g, off, rfl, hgl, -, hc⟩ := hr3.2 (by omega)
             have ck := hc k (.int .u64 (X : Int)) (by rw [List.getElem?_map, HE.out]; rfl)
             clear hc ho3 t3 hr3 hv2)
          | (go_at_call 102; go_must (refine (HQ.out _ (by exact HR.out.touch HT3.out (fun _ _ e => e))).mono ?_); rintro e w4 ⟨rfl, t4⟩
             have HT4 := Lib.hid (HT3.out.trans t4 (fun _ _ e => e))
             have ck4 := (t4.cell (p := ⟨g, off + k, none⟩) hgl (fun e => e)).trans ck
             clear t4 ck))
        go_ret
        exact ⟨by rw [← HGe.out]; rfl, HT4.out⟩
  · have hs : Row.soundB members = false := by simpa using hs
    have HV := Lib.hid (show agreedV t Ln.m members self own = 0 by rw [agreedV, hs]; rfl)
    rw [HV.out]
    rw [hs] at HS
    clear HV hs
    go_enter Try.func58, Try.ntmps58
    go_wp2_with (go_at_call 100; go_must (refine HS.out.mono ?_); rintro e w1 ⟨rfl, t1⟩; have HT1 := Lib.hid t1; clear t1)
    go_ret
    exact ⟨rfl, HT1.out⟩
theorem pagreed_any (F : Nat → Prop) (A : Option Addr) (c : Nat) (members : List Int) (v : Value) (t : Tb) (ok : t.Ok) (self : Int) (hse : inI self) (own : Nat) (ho : own < 18446744073709551616) (w : World) (hr : Rd w F A members.length (members.map I64)) (hsm : members.length ≤ 1000000) (hv : LineC v t w) :
    Calls Try.prog 16 #[v, .slice A members.length c, .int .i64 self, .int .u64 own] w fun e w' => e = .returned (.int .u64 (agreedV t Ln.m members self own)) ∧ Touch (fun _ => False) w w' := by
  have HX := Lib.hid (preach_match F A c members v t ok self hse own ho w hr hsm hv)
  clear hr hv
  go_enter Try.func16, Try.ntmps16
  go_wp2_with (go_at_call 58; go_must (refine HX.out.mono ?_); rintro e w1 ⟨rfl, t1⟩; have HT1 := Lib.hid t1; clear t1)
  go_ret
  exact ⟨rfl, HT1.out⟩
theorem preach_round (F : Nat → Prop) (A : Option Addr) (c : Nat) (members : List Int) (v : Value) (t : Tb) (ok : t.Ok) (self : Int) (hse : inI self) (own : Nat) (ho : own < 18446744073709551616) (w : World) (hr : Rd w F A members.length (members.map I64)) (hsm : members.length ≤ 1000000) (hv : LineC v t w) :
    Calls Try.prog 58 #[v, .slice A members.length c, .int .i64 self, .int .u64 own, .func (.func 67) #[] #[]] w fun e w' => e = .returned (.int .u64 (agreedV t Ln.r members self own)) ∧ Touch (fun _ => False) w w' := by
  obtain ⟨i0, hi, hz0, hz1, hz2⟩ := info_parts infoU64
  have HR := Lib.hid hr
  have HS := Lib.hid (msound_any F A c members w hr hsm)
  have HL := Lib.hid hv
  clear hr hv
  by_cases hs : Row.soundB members = true
  · have HV := Lib.hid (show agreedV t Ln.r members self own = great (vals t Ln.r members self own) (members.length / 2 + 1) (vals t Ln.r members self own) 0 by rw [agreedV, hs]; rfl)
    have hlen := Row.sound_len hs
    have HQ := Lib.hid (fun w1 h => mquorum_any F A c members w1 h hsm)
    rw [hs] at HS HQ
    simp only [if_true] at HQ
    have HIn := Lib.hid (show ∀ j, j < members.length → inI (members.getD j 0) from fun j hj => by have := ((Row.sound_iff members).1 hs).2.2 _ (Row.getD_mem hj); unfold inI; omega)
    have HTk := Lib.hid (fun j hj => vals_take t Ln.r members self own j hj)
    have HLn := Lib.hid (vals_len t Ln.r members self own)
    obtain ⟨q, hq⟩ : ∃ q, q = members.length / 2 + 1 := ⟨_, rfl⟩
    rw [HV.out]
    rw [← hq] at HQ ⊢
    have hq1 : 1 ≤ q := by omega
    have hql : q ≤ members.length := by omega
    generalize vals t Ln.r members self own = V at *
    clear HV hs hq
    go_enter Try.func58, Try.ntmps58
    go_wp2_with (go_at_call 100; go_must (refine HS.out.mono ?_); rintro e w1 ⟨rfl, t1⟩; have HT1 := Lib.hid t1; clear t1)
    go_loopw [11, 13, 14, 15, 16, 23] (fun lv _ _ _ _ i wr => ∃ j : Nat, j ≤ members.length ∧ i = .int .i64 j ∧ (∃ r, Own wr 24 1 lv r (V.take j).length ((V.take j).map U64) ∧ ∀ k, r = some k → w.heap.size ≤ k) ∧ Touch (fun _ => False) w wr) (fun _ _ _ _ _ i _ => members.length - (intOf i).toNat)
    case atStart => exact ⟨0, by omega, rfl, ⟨none, by simpa using Own.nil _ _ _, fun k e => by cases e⟩, HT1.out⟩
    case round =>
      clear HT1
      obtain ⟨j, hj, rfl, ⟨r, ho, hrk⟩, hT⟩ := hrel
      obtain ⟨A0, c0, rfl, -, -⟩ := ho.form
      have HO := Lib.hid ho
      have HRk := Lib.hid hrk
      have HT := Lib.hid hT
      clear ho hT hrk
      have hol : (V.take j).length ≤ 7 := Nat.le_trans (List.length_take_le _ _) (by omega)
      by_cases hjk : j < members.length
      · have hU := HTk.out j hjk
        generalize V.take j = P at *
        have HU := Lib.hid hU
        clear hU
        have hn := HIn.out j hjk
        obtain ⟨g, off, rfl, hgl, _, hc⟩ := (HR.out.touch HT.out (fun _ _ e => e)).2 (by omega)
        have cj := hc j _ (get_I64 hjk)
        simp only [I64] at cj
        have HLi := Lib.hid (HL.out wr HT.out _ hn)
        generalize members.getD j 0 = n at *
        clear hc
        obtain ⟨L, hL⟩ : ∃ L, L = lineV t n := ⟨_, rfl⟩
        rw [← hL] at HU HLi
        have HPm := Lib.hid (fun w1 => pround_any L w1)
        obtain ⟨y0, y1, y2, y3⟩ := L
        simp only [lnC] at HU HLi HPm
        clear hL
        have hwl : w.heap.size ≤ wr.heap.size := HT.out.size
        obtain ⟨X, hX⟩ : ∃ X, X = (if n = self then own else y2) := ⟨_, rfl⟩
        rw [← hX] at HU
        rcases (show (n = self ∧ X = own) ∨ (¬ n = self ∧ X = y2) by by_cases e : n = self; exact .inl ⟨e, by rw [hX, if_pos e]⟩; exact .inr ⟨e, by rw [hX, if_neg e]⟩) with ⟨hns, hx⟩ | ⟨hns, hx⟩
        · clear hX
          have hbe : (n == self) = true := by simpa using hns
          subst hx
          clear hns
          go_wp2_with (first
            | (go_at_call 18; go_must (refine HLi.out.mono ?_); rintro e w2 ⟨rfl, t2⟩
               have HT2 := Lib.hid (t2.alloc (.cells #[.int .u64 (y0 : Int), .int .u64 (y1 : Int), .int .u64 (y2 : Int), .bool y3] 43))
               clear t2)
            | (go_at_call 67; go_must (refine (HPm.out _).mono ?_); rintro e w3 ⟨rfl, t3⟩
               have HT3 := Lib.hid (HT2.out.trans t3 (fun _ _ e => e))
               have hz3 := HT3.out.size
               clear t3)
            | (at_builtin
               go_must (refine wpList_own_append rfl _ _ 117 117 rfl 24 i0 (.int .u64 0) 1 8 Try.underlying117 hi hz0 hz1 hz2 rfl _ r P.length (P.map U64) rfl (by exact HO.out.touch (HT3.out.alloc _) (fun _ _ e => e)) _ 1 [.int .u64 (X : Int)] rfl (by exact Src.lit Try.underlying117 w3.heap.size 1 1 24 #[.int .u64 (X : Int)] (Blk.new w3 24 #[.int .u64 (X : Int)]) rfl (fun u hu => by simp at hu; subst hu; rfl)) (by simp only [maxLen]; omega) (by omega) ?_)
               intro v1 r1 w9 ho1 ht1 hr1
               have HR1 := Lib.hid (And.intro ho1 (And.intro ht1 hr1))
               clear ho1 ht1 hr1))
          go_roundw
          case rel =>
            obtain ⟨ho1, ht1, hr1⟩ := HR1.out
            have htw := HT3.out.alloc (.cells #[.int .u64 (X : Int)] 24)
            have hsz := htw.size
            refine ⟨j + 1, by omega, by go_num, ⟨r1, ?_, ?_⟩, (HT.out.trans htw (fun _ _ e => e)).trans ht1 (fun q hq e => by have := HRk.out q e; omega)⟩
            · rw [HU.out, List.length_append, List.map_append]; exact ho1
            · intro k e
              rcases hr1 with e' | ⟨q, e', hq⟩
              · exact HRk.out k (e'.symm.trans e)
              · rw [e'] at e; injection e with e; omega
          case measure => simp [intOf]; omega
        · clear hX
          have hbe : (n == self) = false := by simpa using hns
          subst hx
          clear hns
          go_wp2_with (first
            | (go_at_call 18; go_must (refine HLi.out.mono ?_); rintro e w2 ⟨rfl, t2⟩
               have HT2 := Lib.hid (t2.alloc (.cells #[.int .u64 (y0 : Int), .int .u64 (y1 : Int), .int .u64 (X : Int), .bool y3] 43))
               clear t2)
            | (go_at_call 67; go_must (refine (HPm.out _).mono ?_); rintro e w3 ⟨rfl, t3⟩
               have HT3 := Lib.hid (HT2.out.trans t3 (fun _ _ e => e))
               have hz3 := HT3.out.size
               clear t3)
            | (at_builtin
               go_must (refine wpList_own_append rfl _ _ 117 117 rfl 24 i0 (.int .u64 0) 1 8 Try.underlying117 hi hz0 hz1 hz2 rfl _ r P.length (P.map U64) rfl (by exact HO.out.touch (HT3.out.alloc _) (fun _ _ e => e)) _ 1 [.int .u64 (X : Int)] rfl (by exact Src.lit Try.underlying117 w3.heap.size 1 1 24 #[.int .u64 (X : Int)] (Blk.new w3 24 #[.int .u64 (X : Int)]) rfl (fun u hu => by simp at hu; subst hu; rfl)) (by simp only [maxLen]; omega) (by omega) ?_)
               intro v1 r1 w9 ho1 ht1 hr1
               have HR1 := Lib.hid (And.intro ho1 (And.intro ht1 hr1))
               clear ho1 ht1 hr1))
          go_roundw
          case rel =>
            obtain ⟨ho1, ht1, hr1⟩ := HR1.out
            have htw := HT3.out.alloc (.cells #[.int .u64 (X : Int)] 24)
            have hsz := htw.size
            refine ⟨j + 1, by omega, by go_num, ⟨r1, ?_, ?_⟩, (HT.out.trans htw (fun _ _ e => e)).trans ht1 (fun q hq e => by have := HRk.out q e; omega)⟩
            · rw [HU.out, List.length_append, List.map_append]; exact ho1
            · intro k e
              rcases hr1 with e' | ⟨q, e', hq⟩
              · exact HRk.out k (e'.symm.trans e)
              · rw [e'] at e; injection e with e; omega
          case measure => simp [intOf]; omega
      · obtain rfl : j = members.length := by omega
        have hVV : V.take members.length = V := by rw [← HLn.out, List.take_length]
        rw [hVV] at HO hol ⊢
        have HSo := Lib.hid (sortKU_any _ r V wr HO.out (by omega))
        have hp := List.mergeSort_perm V fun x y => decide (x ≤ y)
        obtain ⟨hqx, hg, -, -⟩ := great_eq hp (merge_sorted V) q hq1 (by rw [HLn.out]; omega)
        have hsl : (V.mergeSort fun x y => decide (x ≤ y)).length = members.length := by rw [List.length_mergeSort, HLn.out]
        generalize (V.mergeSort fun x y => decide (x ≤ y)) = s at *
        obtain ⟨k, hk⟩ : ∃ k, k = members.length - q := ⟨_, rfl⟩
        have hkl : k < s.length := by omega
        have hX : s[s.length - q] = s[k] := by congr 1; omega
        rw [hX] at hg
        have HE := Lib.hid (show s[k]? = some s[k] from List.getElem?_eq_getElem hkl)
        generalize s[k] = X at *
        have HGe := Lib.hid hg
        have hvl : V.length = members.length := HLn.out
        rw [hvl] at HO HSo ⊢
        have hsub : IntKind.i64.wrap ((members.length : Int) - (q : Int)) = (k : Int) := by rw [IntWalk.i64_in _ (by omega)]; omega
        have hsub' : wrap64 ((members.length : Int) - (q : Int)) = (k : Int) := by rw [← hsub, IntKind.wrap_i64, wrap64]
        have hk1 : (k : Int) < (members.length : Int) := by omega
        clear hX hg hp hqx hk
        go_wp2_with (first
          | (go_at_call 101; go_must (refine HSo.out.mono ?_); rintro e w3 ⟨rfl, ho3, t3⟩
             have HO3 := Lib.hid ho3
             have HT3 := Lib.hid (HT.out.trans t3 (fun q hq e => by have := HRk.out q e; omega))
             obtain ⟨A1, c1, hv, -, -, _, hr3⟩ := ho3.rd
             injection hv with hv1 hv2 hv3
             subst hv1 hv3
             obtain ⟨g, off, rfl, hgl, -, hc⟩ := hr3.2 (by omega)
             have ck := hc k (.int .u64 (X : Int)) (by rw [List.getElem?_map, HE.out]; rfl)
             clear hc ho3 t3 hr3 hv2)
          | (go_at_call 102; go_must (refine (HQ.out _ (by exact HR.out.touch HT3.out (fun _ _ e => e))).mono ?_); rintro e w4 ⟨rfl, t4⟩
             have HT4 := Lib.hid (HT3.out.trans t4 (fun _ _ e => e))
             have ck4 := (t4.cell (p := ⟨g, off + k, none⟩) hgl (fun e => e)).trans ck
             clear t4 ck))
        go_ret
        exact ⟨by rw [← HGe.out]; rfl, HT4.out⟩
  · have hs : Row.soundB members = false := by simpa using hs
    have HV := Lib.hid (show agreedV t Ln.r members self own = 0 by rw [agreedV, hs]; rfl)
    rw [HV.out]
    rw [hs] at HS
    clear HV hs
    go_enter Try.func58, Try.ntmps58
    go_wp2_with (go_at_call 100; go_must (refine HS.out.mono ?_); rintro e w1 ⟨rfl, t1⟩; have HT1 := Lib.hid t1; clear t1)
    go_ret
    exact ⟨rfl, HT1.out⟩
theorem panswered_any (F : Nat → Prop) (A : Option Addr) (c : Nat) (members : List Int) (v : Value) (t : Tb) (ok : t.Ok) (self : Int) (hse : inI self) (own : Nat) (ho : own < 18446744073709551616) (w : World) (hr : Rd w F A members.length (members.map I64)) (hsm : members.length ≤ 1000000) (hv : LineC v t w) :
    Calls Try.prog 22 #[v, .slice A members.length c, .int .i64 self, .int .u64 own] w fun e w' => e = .returned (.int .u64 (agreedV t Ln.r members self own)) ∧ Touch (fun _ => False) w w' := by
  have HX := Lib.hid (preach_round F A c members v t ok self hse own ho w hr hsm hv)
  clear hr hv
  go_enter Try.func22, Try.ntmps22
  go_wp2_with (go_at_call 58; go_must (refine HX.out.mono ?_); rintro e w1 ⟨rfl, t1⟩; have HT1 := Lib.hid t1; clear t1)
  go_ret
  exact ⟨rfl, HT1.out⟩
end Go.Proofs.Ytpgakkpmpnebnaa
