/- quill's Reader, on: number where the bytes are a number's; Num, Int, Flag. -/
import Derived.Test.YtmgmjehebbggaaaQuillR0
namespace Go.Proofs.Ytmgmjehebbggaaa
open Go.RowKit
set_option maxHeartbeats 4000000
set_option maxRecDepth 100000

theorem number_ok (g : Nat) (F : Nat → Prop) (bad : Bool) (most : Nat) (marked : Bool) (c : UInt8) (t : List UInt8) (w : World) (h : RdAt w g F (c :: t) bad) (hbad : rdOk marked c t = true) :
    Calls Try.prog 55 #[.pointer (some ⟨g, 0, none⟩), .int .u64 most, .bool marked] w (NumPost (rdNum most marked bad (c :: t)) w g F) := by
  obtain ⟨hg, A, cap, hl, hm, hb, hr⟩ := h
  obtain ⟨a, off, rfl, hlt, hF, hc⟩ := hr.2 (by simp)
  have h0 := hb.cell 0
  have hc0 := hc 0 (B8 c) (by simp)
  have hcl := B8_lt c
  have f0 := hb.frozen 0
  simp only [B8, Nat.add_zero] at hc0
  simp at h0
  have Hc := Lib.hid hc
  have Hr := Lib.hid hr
  clear hc hr
  go_enter Try.func55, Try.ntmps55
  go_upto_if 23 with (first
    | (go_at_call 21; refine (left_any _ _ _ _ _ _ hb).mono ?_; rintro e w' ⟨rfl, rfl⟩))
  go_cut [7, 8] (fun m s wx => m = .bool (rdMark marked c) ∧ s = .int .i64 (rdHead marked c : Nat) ∧ w = wx)
  case first =>
    cases marked
    · go_wp2
      go_meet
      exact ⟨by simp [rdMark], by simp [rdHead], rfl⟩
    · go_wp2
      go_meet
      exact ⟨by simp [rdMark]; omega, by simp [rdHead], rfl⟩
  case rest =>
    obtain ⟨rfl, rfl, rfl⟩ := hcut
    have hsle := rdHead_le marked c
    have hcap : t.length + 1 ≤ cap := by simpa using hl
    have hcm : cap ≤ 9223372036854775807 := by unfold maxLen at hm; omega
    have hok : rdOk marked c t = (decide (rdHead marked c ≤ 8) && decide (rdHead marked c ≤ t.length) && !(decide (0 < rdHead marked c) && t.head? == some 0)) := rfl
    rw [hbad] at hok
    have HX := Lib.hid (show rdNum most marked bad (c :: t) = (if be (t.take (rdHead marked c)) ≤ most then ⟨be (t.take (rdHead marked c)), rdMark marked c, t.drop (rdHead marked c), bad⟩ else rdFail) by simp only [rdNum, hbad, if_true])
    generalize rdNum most marked bad (c :: t) = R at *
    clear hl hbad
    generalize rdMark marked c = mk at *
    generalize rdHead marked c = s at *
    simp at hok
    obtain ⟨⟨h1, h2⟩, h3⟩ := hok
    rcases Nat.eq_zero_or_pos s with rfl | hpos
    · clear h3
      by_cases hc1 : cap = 1
      all_goals
        go_wp2_with fail
        go_loop [6, 10, 62] (fun n x i => i = .int .i64 0 ∧ n = .int .u64 0) (fun _ _ _ => 0)
        case atStart => exact ⟨rfl, rfl⟩
        case round =>
          obtain ⟨rfl, rfl⟩ := hrel
          go_wp2
          all_goals
            go_ret2
            rw [HX.out, if_pos (by simp [be]), show be (t.take 0) = 0 from rfl]
            refine okPost (s := 0) (n := 0) (mk := mk) hb Hr.out hcap hm (by omega) hg _ ?_ _ ?_ _ ?_
            · simp [*]
            · simp
            · simp [*]
    · have hd : ∃ d, w.cell? ⟨a, off + 1, none⟩ = some (.int .u8 d) ∧ ((d : Int) == 0) = false := by
        rcases t with _ | ⟨d, t⟩
        · simp at h2; omega
        · have := Hc.out 1 (B8 d) (by simp)
          refine ⟨d.toNat, this, ?_⟩
          have h4 := h3.resolve_left (by omega)
          simp at h4
          simp only [beq_eq_false_iff_ne, ne_eq]
          intro e
          exact h4 (UInt8.toNat_inj.1 (by simpa using e))
      clear h3
      obtain ⟨d, hd1, hd2⟩ := hd
      have hc1 : ¬ (cap = 1) := by omega
      go_wp2_with fail
      go_loop [6, 10, 62] (fun n x i => ∃ k : Nat, k ≤ s ∧ i = .int .i64 k ∧ n = .int .u64 (be (t.take k) : Nat)) (fun _ _ i => s - (intOf i).toNat)
      case atStart => exact ⟨0, by omega, rfl, rfl⟩
      case round =>
        obtain ⟨k, hk, rfl, rfl⟩ := hrel
        by_cases hks : k < s
        · have hck : w.cell? ⟨a, off + 1 + k, none⟩ = some (.int .u8 ((t.getD k 0).toNat : Int)) := by
            have := Hc.out (1 + k) (B8 (t.getD k 0)) (by rw [Nat.add_comm 1 k]; simp [List.getD, List.getElem?_eq_getElem (show k < t.length by omega)])
            rw [← Nat.add_assoc] at this; exact this
          have hbl : be (t.take k) * 256 < 18446744073709551616 := be_take_lt _ _ (by omega)
          have HO := Lib.hid (or_add (be (t.take k)) (t.getD k 0) hbl)
          have HS := Lib.hid (show be (t.take (k + 1)) = be (t.take k) * 256 + (t.getD k 0).toNat by rw [take_getD _ _ (by omega), be_snoc])
          have hxl := B8_lt (t.getD k 0)
          generalize be (t.take k) = bk at *
          generalize t.getD k 0 = x at *
          go_wp2
          go_round
          case rel => exact ⟨k + 1, by omega, by go_num, by rw [HO.out, HS.out]⟩
          case measure => simp [intOf]; omega
        · obtain rfl : k = s := by omega
          by_cases hmost : be (t.take k) ≤ most
          · generalize be (t.take k) = n at *
            go_wp2
            all_goals
              go_ret2
              rw [HX.out, if_pos hmost]
              refine okPost (s := k) (n := n) (mk := mk) hb Hr.out hcap hm (by omega) hg _ ?_ _ ?_ _ ?_
              · simp [*]
              · omega
              · simp [*]
          · have hR := HX.out
            rw [if_neg hmost] at hR
            subst hR
            go_wp2_with (first
              | (go_at_call 39; refine (fail_any _ _ _ _ _ _ hb).mono ?_; rintro e w' ⟨rfl, rfl⟩))
            go_ret2
            exact ⟨rfl, failPost hg hb⟩

theorem number_any (g : Nat) (F : Nat → Prop) (bad : Bool) (most : Nat) (marked : Bool) (l : List UInt8) (w : World) (h : RdAt w g F l bad) :
    Calls Try.prog 55 #[.pointer (some ⟨g, 0, none⟩), .int .u64 most, .bool marked] w (NumPost (rdNum most marked bad l) w g F) := by
  rcases l with _ | ⟨c, t⟩
  · exact number_nil g F bad most marked w h
  · by_cases hb : rdOk marked c t = true
    · exact number_ok g F bad most marked c t w h hb
    · have e : rdNum most marked bad (c :: t) = rdFail := by simp [rdNum, hb]
      rw [e]
      exact number_bad g F bad most marked c t w h (by simpa using hb)
end Go.Proofs.Ytmgmjehebbggaaa
