/- The walk of ProgressAgreed. -/
import Derived.Test.YtpgakkpmpnebnaaVPrK
namespace Go.Proofs.Ytpgakkpmpnebnaa
open Go.RowKit Go.Maps Prg
set_option maxHeartbeats 4000000
set_option maxRecDepth 100000
set_option linter.unusedVariables false

theorem cntGt_take (l : List Nat) (x : Nat) (j : Nat) (hj : j < l.length) : cntGt (l.take (j + 1)) x = cntGt (l.take j) x + if x < l[j] then 1 else 0 := by
  unfold cntGt
  rw [List.take_succ_eq_append_getElem hj, List.filter_append, List.length_append]
  by_cases h : x < l[j] <;> simp [h]
theorem cntGt_len (l : List Nat) (x : Nat) : cntGt l x ≤ l.length := List.length_filter_le _ _
theorem agreed_cnt (t : Tb) (of : Ln → Nat) (members : List Int) (self : Int) (own : Nat) (hs : Row.soundB members = true) :
    members.length / 2 + 1 ≤ cntGe (vals t of members self own) (agreedV t of members self own) ∧ cntGt (vals t of members self own) (agreedV t of members self own) < members.length / 2 + 1 := by
  have hl := Row.sound_len hs
  have hp := List.mergeSort_perm (vals t of members self own) fun x y => decide (x ≤ y)
  obtain ⟨_, hg, h1, h2⟩ := great_eq hp (merge_sorted _) (members.length / 2 + 1) (by omega) (by rw [vals_len]; omega)
  rw [agreedV, hs]
  simp only [if_true]
  rw [← hg]
  exact ⟨h1, h2⟩
theorem vals_at (t : Tb) (of : Ln → Nat) (members : List Int) (self : Int) (own : Nat) (j : Nat) (hj : j < (vals t of members self own).length) : (vals t of members self own)[j] = if members.getD j 0 = self then own else of (lineV t (members.getD j 0)) := by
  have h : j < members.length := by simpa [vals] using hj
  simp [vals, lineV, h]
theorem phas_any (v : Value) (t : Tb) (n : Int) (hn : inI n) (self : Int) (own : Nat) (w : World) (hv : LineC v t w) :
    Calls Try.prog 17 #[v, .int .i64 n, .int .i64 self, .int .u64 own] w fun e w' => e = .returned (.int .u64 ((if n = self then own else (lineV t n).m : Nat) : Int)) ∧ Touch (fun _ => False) w w' := by
  by_cases e : n = self
  · have HE := Lib.hid (show (if n = self then own else (lineV t n).m) = own from if_pos e)
    have hbe : (n == self) = true := by simpa using e
    rw [HE.out]
    clear hv e HE
    go_enter Try.func17, Try.ntmps17
    go_wp2_with fail
    go_ret
    exact ⟨rfl, Touch.refl _ _⟩
  · have HE := Lib.hid (show (if n = self then own else (lineV t n).m) = (lineV t n).m from if_neg e)
    have hbe : (n == self) = false := by simpa using e
    rw [HE.out]
    have HL := Lib.hid (hv w (Touch.refl _ _) n hn)
    obtain ⟨L, hL⟩ : ∃ L, L = lineV t n := ⟨_, rfl⟩
    rw [← hL] at HL ⊢
    obtain ⟨y0, y1, y2, y3⟩ := L
    simp only [lnC] at HL
    clear hv hL e HE
    go_enter Try.func17, Try.ntmps17
    go_wp2_with (go_at_call 18; go_must (refine HL.out.mono ?_); rintro e w1 ⟨rfl, t1⟩; have HT1 := Lib.hid (t1.alloc (.cells #[.int .u64 (y0 : Int), .int .u64 (y1 : Int), .int .u64 (y2 : Int), .bool y3] 43)); clear t1)
    go_ret
    exact ⟨rfl, HT1.out⟩
theorem walk_ProgressAgreed {w : World} (A0 : Option Addr) (n0 c0 : Nat) (l0 : List POpV) (e0 : l0.length = n0) (o0 : ∀ x ∈ l0, x.ok w) (z0 : ∀ a ∈ l0, a.cells.length = 4) (g0 : A0 = none → c0 = 0) (u0 : n0 ≤ c0) (m0 : c0 ≤ maxLen) (s0 : RdZ w (fun k => k < w.heap.size) 4 A0 n0 (l0.flatMap POpV.cells))
    (A1 : Option Addr) (n1 c1 : Nat) (l1 : List Int) (e1 : l1.length = n1) (o1 : ∀ x ∈ l1, -9223372036854775808 ≤ x ∧ x ≤ 9223372036854775807) (g1 : A1 = none → c1 = 0) (u1 : n1 ≤ c1) (m1 : c1 ≤ maxLen) (s1 : Rd w (fun k => k < w.heap.size) A1 n1 (l1.map I64))
    (a2 : Int) (k2 : -9223372036854775808 ≤ a2 ∧ a2 ≤ 9223372036854775807) (a3 : Int) (k3 : 0 ≤ a3 ∧ a3 ≤ 18446744073709551615) :
    Calls Try.prog 3 #[.slice A0 n0 c0, .slice A1 n1 c1, .int .i64 a2, .int .u64 a3] w fun e w' => e = .returned (.bool true) ∧ Below w.heap.size w w' := by
  subst e0 e1
  obtain ⟨own, rfl⟩ := Int.eq_ofNat_of_zero_le k3.1
  unfold maxLen at m0 m1
  have HS0 := Lib.hid s0
  have HS1 := Lib.hid s1
  have HO0 := Lib.hid o0
  have HLi := Lib.hid (light31_any _ A0 c0 l0 w s0 (by omega))
  have HSd := Lib.hid (fun w1 (tt : Touch (fun _ => False) w w1) => rsound_any _ A1 c1 l1 w1 (HS1.out.touch tt (fun _ _ e => e)) (by omega))
  have hown : own < 18446744073709551616 := by omega
  clear o0 o1 z0 g0 g1 s0 s1 u0 u1 k3
  cases hl : lightB31 l0
  · rw [hl] at HLi
    clear hl
    go_enter Try.func3, Try.ntmps3
    go_wp2_with (first
      | (go_at_call 11; go_must (refine HLi.out.mono ?_); rintro e w1 ⟨rfl, t1⟩; have HT := Lib.hid t1; clear t1)
      | (go_at_call 13; go_must (refine (lives31_any _).mono ?_); rintro e w2 ⟨rfl, t2⟩; have HT := Lib.hid (HT.out.trans t2 (fun _ _ e => e)); clear t2))
    go_ret
    exact ⟨rfl, HT.out.below⟩
  rw [hl] at HLi
  have HLo := Lib.hid (show ∀ x ∈ l0, x.list.length ≤ 40 from fun x hx => by
    simp only [lightB31, Bool.and_eq_true, List.all_eq_true] at hl
    have := hl.1 x hx
    simpa [lightO31] using this)
  have hlen0 : l0.length ≤ 200 := by simp only [lightB31, Bool.and_eq_true, decide_eq_true_eq] at hl; exact hl.2
  clear hl
  cases hs : Row.soundB l1
  · rw [hs] at HSd
    clear hs
    go_enter Try.func3, Try.ntmps3
    go_wp2_with (first
      | (go_at_call 11; go_must (refine HLi.out.mono ?_); rintro e w1 ⟨rfl, t1⟩; have HT := Lib.hid t1; clear t1)
      | (go_at_call 12; go_must (refine (HSd.out _ (by exact HT.out)).mono ?_); rintro e w1 ⟨rfl, t1⟩; have HT := Lib.hid (HT.out.trans t1 (fun _ _ e => e)); clear t1)
      | (go_at_call 13; go_must (refine (lives31_any _).mono ?_); rintro e w2 ⟨rfl, t2⟩; have HT := Lib.hid (HT.out.trans t2 (fun _ _ e => e)); clear t2))
    go_ret
    exact ⟨rfl, HT.out.below⟩
  rw [hs] at HSd
  have HSo := Lib.hid hs
  have hl1 := Row.sound_len hs
  have HIn := Lib.hid (((Row.sound_iff l1).1 hs).2.2)
  clear hs
  have HNew := Lib.hid (fun w1 (tt : Touch (fun _ => False) w w1) => pnewT_yes _ A1 c1 l1 0 (by omega) w1 (HS1.out.touch tt (fun _ _ e => e)) (by omega))
  obtain ⟨t0, ht0⟩ : ∃ t0, t0 = setT noneT l1 0 := ⟨_, rfl⟩
  unfold NewTP at HNew
  rw [← ht0] at HNew
  have HOk0 := Lib.hid (show t0.Ok from ht0 ▸ setT_ok noneT_ok l1 (by omega))
  clear ht0
  go_enter Try.func3, Try.ntmps3
  go_wp2_with (first
    | (go_at_call 11; go_must (refine HLi.out.mono ?_); rintro e w1 ⟨rfl, t1⟩; have HT := Lib.hid t1; clear t1)
    | (go_at_call 12; go_must (refine (HSd.out _ (by exact HT.out)).mono ?_); rintro e w1 ⟨rfl, t1⟩; have HT := Lib.hid (HT.out.trans t1 (fun _ _ e => e)); clear t1)
    | (go_at_call 14; go_must (refine (HNew.out _ (by exact HT.out)).mono ?_)
       rintro e w2 ⟨g, b, F, rfl, hp, hF, hg, t2⟩
       have hz1 := HT.out.size
       have HP := Lib.hid (show PgL w w2 g b t0 F from ⟨hp, fun k hk => by have := hF k hk; omega, by omega, HT.out.trans t2 (fun _ _ e => e)⟩)
       clear hp hF hg t2 hz1))
  clear HT HNew HLi HSd
  go_loopw [11, 31] (fun _ i wr => ∃ j : Nat, j ≤ l0.length ∧ i = .int .i64 j ∧ ∃ t F, PgL w wr g b t F ∧ t.Ok) (fun _ i _ => l0.length - (intOf i).toNat)
  case atStart => exact ⟨0, by omega, rfl, t0, F, HP.out, HOk0.out⟩
  case round =>
    clear HP HOk0
    obtain ⟨j, hj, rfl, t, F, hP, hOk⟩ := hrel
    have HP := Lib.hid hP
    have HOk := Lib.hid hOk
    clear hP hOk
    by_cases hjk : j < l0.length
    · have ha : l0[j]? = some (l0[j]'hjk) := List.getElem?_eq_getElem _
      have HI := Lib.hid (HO0.out _ (List.getElem_mem hjk))
      have hln := HLo.out _ (List.getElem_mem hjk)
      obtain ⟨a, off, rfl, -, -, hc⟩ := (HS0.out.touch HP.out.t (fun _ _ e => e)).at_ (fun a _ => pop_len a) rfl ha
      generalize l0[j]'hjk = o at *
      have HTA := Lib.hid ((Touch.refl (fun _ => False) wr).alloc (.cells #[.int .i64 o.kind, .int .i64 o.node, .int .u64 o.n, .slice o.A o.list.length o.c] 31))
      have HPA := Lib.hid (HP.out.none_ HTA.out)
      have HDo := Lib.hid (do31_any g b t noneT noneT_ok F (fun k => k < w.heap.size) o _ HPA.out.at_ HI.out.1 HI.out.2.1 (HI.out.2.2.2.touch HPA.out.t (fun _ _ e => e)) (by omega) (fun k hk e => by have := HP.out.new k e; omega))
      have HOk2 := Lib.hid (stepT_ok HOk.out o HI.out.2.1)
      rw [refT_none] at HDo
      unfold DoP at HDo
      have q0 := hc 0 _ rfl; have q1 := hc 1 _ rfl; have q2 := hc 2 _ rfl; have q3 := hc 3 _ rfl
      simp only [Nat.add_zero, ← Nat.add_assoc] at q0 q1 q2 q3
      clear hc ha
      go_wp2_with (go_at_call 15; go_must (refine HDo.out.mono ?_); rintro e w3 ⟨rfl, F2, hp2, hF2, t2'⟩; have HP3 := Lib.hid (HPA.out.step hp2 hF2 t2'); clear hp2 hF2 t2')
      go_roundw
      case rel => exact ⟨j + 1, by omega, by go_num, _, F2, HP3.out, HOk2.out⟩
      case measure => simp [intOf]; omega
    · obtain rfl : j = l0.length := by omega
      have HAg := Lib.hid (pagreed_any _ A1 c1 l1 _ t HOk.out a2 k2 own hown wr (HS1.out.touch HP.out.t (fun _ _ e => e)) (by omega) HP.out.at_.lineC)
      have HCn := Lib.hid (agreed_cnt t Ln.m l1 a2 own HSo.out)
      have HVl := Lib.hid (vals_len t Ln.m l1 a2 own)
      have HVa := Lib.hid (fun j hj => vals_at t Ln.m l1 a2 own j hj)
      obtain ⟨X, hX⟩ : ∃ X, X = agreedV t Ln.m l1 a2 own := ⟨_, rfl⟩
      rw [← hX] at HAg HCn
      generalize vals t Ln.m l1 a2 own = V at *
      clear hX
      go_wp2_with (go_at_call 16; go_must (refine HAg.out.mono ?_); rintro e w4 ⟨rfl, t4⟩; have HP4 := Lib.hid (HP.out.none_ t4); clear t4)
      go_loopw [13, 14, 16, 17, 47] (fun n1 n2 _ _ i wr => ∃ j : Nat, j ≤ l1.length ∧ i = .int .i64 j ∧ n1 = .int .i64 (cntGe (V.take j) X : Nat) ∧ n2 = .int .i64 (cntGt (V.take j) X : Nat) ∧ PgL w wr g b t F) (fun _ _ _ _ i _ => l1.length - (intOf i).toNat)
      case atStart => exact ⟨0, by omega, rfl, rfl, rfl, HP4.out⟩
      case round =>
        clear HP4 HP HAg
        obtain ⟨i, hi, rfl, rfl, rfl, hP⟩ := hrel
        have HP := Lib.hid hP
        clear hP
        have hv := HVl.out
        have hle1 : cntGe (V.take i) X ≤ 7 := Nat.le_trans (cntGe_len _ _) (Nat.le_trans (List.length_take_le' _ _) (by omega))
        have hle2 : cntGt (V.take i) X ≤ 7 := Nat.le_trans (cntGt_len _ _) (Nat.le_trans (List.length_take_le' _ _) (by omega))
        by_cases hik : i < l1.length
        · have hiv : i < V.length := by omega
          have HG1 := Lib.hid (cntGe_take V X i hiv)
          have HG2 := Lib.hid (cntGt_take V X i hiv)
          have hVi := HVa.out i hiv
          obtain ⟨ga, off, rfl, hgal, _, hc⟩ := (HS1.out.touch HP.out.t (fun _ _ e => e)).2 (by omega)
          have cj := hc i _ (get_I64 hik)
          simp only [I64] at cj
          have hx := HIn.out (l1.getD i 0) (Row.getD_mem hik)
          have HH := Lib.hid (phas_any _ t (l1.getD i 0) (by unfold inI; omega) a2 own wr HP.out.at_.lineC)
          rw [← hVi] at HH
          generalize l1.getD i 0 = n at *
          generalize V[i] = y at *
          generalize cntGe (V.take i) X = m1 at *
          generalize cntGt (V.take i) X = m2 at *
          clear hc hVi hv
          by_cases h1 : X ≤ y
          · have h1' : (X : Int) ≤ y := by omega
            rw [if_pos h1] at HG1
            by_cases h2 : X < y
            · have h2' : (X : Int) < y := by omega
              rw [if_pos h2] at HG2
              clear h1 h2
              go_wp2_with (go_at_call 17; go_must (refine HH.out.mono ?_); rintro e w5 ⟨rfl, t5⟩; have HP5 := Lib.hid (HP.out.none_ t5); clear t5)
              go_roundw
              case rel => exact ⟨i + 1, by omega, by go_num, by rw [HG1.out]; go_num, by rw [HG2.out]; go_num, HP5.out⟩
              case measure => simp [intOf]; omega
            · have h2' : ¬ (X : Int) < y := by omega
              rw [if_neg h2] at HG2
              clear h1 h2
              go_wp2_with (go_at_call 17; go_must (refine HH.out.mono ?_); rintro e w5 ⟨rfl, t5⟩; have HP5 := Lib.hid (HP.out.none_ t5); clear t5)
              go_roundw
              case rel => exact ⟨i + 1, by omega, by go_num, by rw [HG1.out]; go_num, by rw [HG2.out]; rfl, HP5.out⟩
              case measure => simp [intOf]; omega
          · have h1' : ¬ (X : Int) ≤ y := by omega
            rw [if_neg h1] at HG1
            rw [if_neg (show ¬ X < y by omega)] at HG2
            clear h1
            go_wp2_with (go_at_call 17; go_must (refine HH.out.mono ?_); rintro e w5 ⟨rfl, t5⟩; have HP5 := Lib.hid (HP.out.none_ t5); clear t5)
            go_roundw
            case rel => exact ⟨i + 1, by omega, by go_num, by rw [HG1.out]; rfl, by rw [HG2.out]; rfl, HP5.out⟩
            case measure => simp [intOf]; omega
        · obtain rfl : i = l1.length := by omega
          have hVV : V.take l1.length = V := by rw [← HVl.out, List.take_length]
          rw [hVV] at hle1 hle2 ⊢
          obtain ⟨hc1, hc2⟩ := HCn.out
          generalize cntGe V X = m1 at *
          generalize cntGt V X = m2 at *
          have w1' : IntKind.i64.wrap (2 * (m1 : Int)) = 2 * (m1 : Int) := IntWalk.i64_in _ (by omega)
          have w2' : IntKind.i64.wrap (2 * (m2 : Int)) = 2 * (m2 : Int) := IntWalk.i64_in _ (by omega)
          have h1' : (l1.length : Int) < 2 * (m1 : Int) := by omega
          have h2' : 2 * (m2 : Int) ≤ (l1.length : Int) := by omega
          clear hVV hc1 hc2 hv
          go_wp2_with (go_at_call 13; go_must (refine (lives31_any _).mono ?_); rintro e w6 ⟨rfl, t6⟩; have HT6 := Lib.hid (HP.out.t.trans t6 (fun _ _ e => e)); clear t6)
          go_ret
          exact ⟨rfl, HT6.out.below⟩
end Go.Proofs.Ytpgakkpmpnebnaa
