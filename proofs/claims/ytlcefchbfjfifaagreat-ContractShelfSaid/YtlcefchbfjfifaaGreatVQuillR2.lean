/- What the calls of quill's Reader do: a walk each. quill's Reader, on: number where the bytes are a number's; Num, Int, Flag. quill's Reader, on: bytes.Clone; Open; Num, Int, Flag, Raw, Text, End. -/
import Derived.Test.YtlcefchbfjfifaaGreatVArgs
import Derived.Test.YtlcefchbfjfifaaGreatProg
import Derived.BigQuiet
import Derived.Deep.DeepCutAuto
import Derived.Laws.BitsAllLaws
import Derived.Deep.AppendLies
import Derived.Laws.OwnMore
import Derived.Deep.DeepMust
section
namespace Go.Proofs.YtlcefchbfjfifaaGreat
open Go.RowKit
set_option maxHeartbeats 4000000
set_option maxRecDepth 100000

/-- The reader's object at block g: the bytes l are left. -/
def RdAt (w : World) (g : Nat) (F : Nat → Prop) (l : List UInt8) (bad : Bool) : Prop :=
  ¬ F g ∧ ∃ A cap, l.length ≤ cap ∧ cap ≤ maxLen ∧ Blk w g 103 #[.slice A l.length cap, .bool bad] ∧ Rd w F A l.length (l.map B8)

theorem left_any (g : Nat) (A : Option Addr) (n c : Nat) (bad : Bool) (w : World) (h : Blk w g 103 #[.slice A n c, .bool bad]) :
    Calls Tryz.prog 20 #[.pointer (some ⟨g, 0, none⟩)] w fun e w' => e = .returned (.int .i64 n) ∧ w = w' := by
  have h0 := h.cell 0
  simp at h0
  go_enter Tryz.func20, Tryz.ntmps20
  go_wp2
  go_ret
  simp

theorem bad_any (g : Nat) (A : Option Addr) (n c : Nat) (bad : Bool) (w : World) (h : Blk w g 103 #[.slice A n c, .bool bad]) :
    Calls Tryz.prog 21 #[.pointer (some ⟨g, 0, none⟩)] w fun e w' => e = .returned (.bool bad) ∧ w = w' := by
  have h1 := h.cell 1
  simp at h1
  go_enter Tryz.func21, Tryz.ntmps21
  go_wp2
  go_ret
  simp

theorem fail_any (g : Nat) (A : Option Addr) (n c : Nat) (bad : Bool) (w : World) (h : Blk w g 103 #[.slice A n c, .bool bad]) :
    Calls Tryz.prog 44 #[.pointer (some ⟨g, 0, none⟩)] w fun e w' => e = .returned (.tuple #[]) ∧ (w.setCell ⟨g, 0, none⟩ (.slice none 0 0)).setCell ⟨g, 1, none⟩ (.bool true) = w' := by
  have h0 := h.cell 0
  have h1 := h.cell 1
  have f0 := h.frozen 0
  have f1 := h.frozen 1
  simp at h0 h1
  go_enter Tryz.func44, Tryz.ntmps44
  go_wp2
  go_end0
  simp

def be (l : List UInt8) : Nat := l.foldl (fun n c => n * 256 + c.toNat) 0
structure RNum where
  val : Nat
  mark : Bool
  left : List UInt8
  bad : Bool
def rdHead (marked : Bool) (c : UInt8) : Nat := if marked then c.toNat % 128 else c.toNat
def rdMark (marked : Bool) (c : UInt8) : Bool := marked && decide (128 ≤ c.toNat)
def rdFail : RNum := ⟨0, false, [], true⟩
def rdOk (marked : Bool) (c : UInt8) (t : List UInt8) : Bool := decide (rdHead marked c ≤ 8) && decide (rdHead marked c ≤ t.length) && !(decide (0 < rdHead marked c) && t.head? == some 0)
def rdNum (most : Nat) (marked : Bool) (bad : Bool) : List UInt8 → RNum
  | [] => rdFail
  | c :: t => if rdOk marked c t then (if be (t.take (rdHead marked c)) ≤ most then ⟨be (t.take (rdHead marked c)), rdMark marked c, t.drop (rdHead marked c), bad⟩ else rdFail) else rdFail

def NumPost (r : RNum) (w : World) (g : Nat) (F : Nat → Prop) (e : Ending) (w' : World) : Prop :=
  e = .returned (.tuple #[.int .u64 (r.val : Int), .bool r.mark]) ∧ RdAt w' g F r.left r.bad ∧ Touch (fun k => k = g) w w'

theorem failPost {w : World} {g : Nat} {F : Nat → Prop} {A : Option Addr} {n c : Nat} {bad : Bool} (hg : ¬ F g) (h : Blk w g 103 #[.slice A n c, .bool bad]) :
    RdAt ((w.setCell ⟨g, 0, none⟩ (.slice none 0 0)).setCell ⟨g, 1, none⟩ (.bool true)) g F [] true ∧
      Touch (fun k => k = g) w ((w.setCell ⟨g, 0, none⟩ (.slice none 0 0)).setCell ⟨g, 1, none⟩ (.bool true)) := by
  refine ⟨⟨hg, none, 0, by simp, by simp, ?_, Rd.nil _ _ _⟩, ((Touch.refl (fun k => k = g) w).set (fun _ => rfl) _).set (fun _ => rfl) _⟩
  have := (h.set_ 0 (.slice none 0 0)).set_ 1 (.bool true)
  simpa using this

theorem number_nil (g : Nat) (F : Nat → Prop) (bad : Bool) (most : Nat) (marked : Bool) (w : World) (h : RdAt w g F [] bad) :
    Calls Tryz.prog 79 #[.pointer (some ⟨g, 0, none⟩), .int .u64 most, .bool marked] w (NumPost rdFail w g F) := by
  obtain ⟨hg, A, cap, hl, hm, hb, hr⟩ := h
  have h0 := hb.cell 0
  simp at h0 hb
  go_enter Tryz.func79, Tryz.ntmps79
  go_wp2_with (first
    | (go_at_call 20; refine (left_any _ _ _ _ _ _ hb).mono ?_; rintro e w' ⟨rfl, rfl⟩)
    | (go_at_call 44; refine (fail_any _ _ _ _ _ _ hb).mono ?_; rintro e w' ⟨rfl, rfl⟩))
  go_ret2
  exact ⟨rfl, failPost hg hb⟩


theorem be_snoc (l : List UInt8) (x : UInt8) : be (l ++ [x]) = be l * 256 + x.toNat := by simp [be]
theorem be_from (l : List UInt8) : ∀ n : Nat, l.foldl (fun n c => n * 256 + c.toNat) n < (n + 1) * 256 ^ l.length := by
  induction l with
  | nil => intro n; simp
  | cons x l ih =>
    intro n
    rw [List.foldl_cons, List.length_cons]
    have h1 := ih (n * 256 + x.toNat)
    have hx := B8_lt x
    have h2 : (n * 256 + x.toNat + 1) * 256 ^ l.length ≤ ((n + 1) * 256) * 256 ^ l.length := Nat.mul_le_mul_right _ (by omega)
    rw [show (n + 1) * 256 ^ (l.length + 1) = ((n + 1) * 256) * 256 ^ l.length by rw [Nat.pow_succ, Nat.mul_comm (256 ^ l.length), Nat.mul_assoc]]
    omega
theorem be_lt (l : List UInt8) : be l < 256 ^ l.length := by have := be_from l 0; rw [Nat.zero_add, Nat.one_mul] at this; exact this
theorem be_take_lt (t : List UInt8) (k : Nat) (hk : k < 8) : be (t.take k) * 256 < 18446744073709551616 := by
  have h := be_lt (t.take k)
  have h2 : 256 ^ (t.take k).length ≤ 256 ^ 7 := Nat.pow_le_pow_right (by omega) (by rw [List.length_take]; omega)
  have h3 : (256 : Nat) ^ 7 = 72057594037927936 := by decide
  omega
theorem or_add (n : Nat) (x : UInt8) (hn : n * 256 < 18446744073709551616) : bits .or .u64 ((n : Int) * 256) (x.toNat : Int) = ((n * 256 + x.toNat : Nat) : Int) := by
  have hx := B8_lt x
  have e : ((n : Int) * 256) = ((n * 256 : Nat) : Int) := by omega
  rw [e, u64_or_nat _ _ hn (by omega)]
  congr 1
  have := Nat.two_pow_add_eq_or_of_lt (i := 8) (b := x.toNat) (by omega) n
  rw [show n * 256 = 2 ^ 8 * n by omega, this]
theorem take_getD (t : List UInt8) (k : Nat) (hk : k < t.length) : t.take (k + 1) = t.take k ++ [t.getD k 0] := by
  rw [List.take_succ_eq_append_getElem hk]
  simp [List.getD, List.getElem?_eq_getElem hk]
theorem rdHead_le (m : Bool) (c : UInt8) : rdHead m c ≤ 255 := by
  have := B8_lt c
  unfold rdHead; split <;> omega

theorem number_bad (g : Nat) (F : Nat → Prop) (bad : Bool) (most : Nat) (marked : Bool) (c : UInt8) (t : List UInt8) (w : World) (h : RdAt w g F (c :: t) bad) (hbad : rdOk marked c t = false) :
    Calls Tryz.prog 79 #[.pointer (some ⟨g, 0, none⟩), .int .u64 most, .bool marked] w (NumPost rdFail w g F) := by
  obtain ⟨hg, A, cap, hl, hm, hb, hr⟩ := h
  obtain ⟨a, off, rfl, hlt, hF, hc⟩ := hr.2 (by simp)
  have h0 := hb.cell 0
  have hc0 := hc 0 (B8 c) (by simp)
  have hcl := B8_lt c
  simp only [B8, Nat.add_zero] at hc0
  simp at h0
  have Hc := Lib.hid hc
  clear hc hr
  go_enter Tryz.func79, Tryz.ntmps79
  go_upto_if 23 with (first
    | (go_at_call 20; refine (left_any _ _ _ _ _ _ hb).mono ?_; rintro e w' ⟨rfl, rfl⟩))
  go_cut [7, 8] (fun m s wx => m = .bool (rdMark marked c) ∧ s = .int .i64 (rdHead marked c : Nat) ∧ w = wx)
  case first =>
    cases marked
    · go_wp2
      go_meet
      exact ⟨by simp [rdMark], by simp [rdHead], rfl⟩
    · go_wp2
      go_meet
      exact ⟨by simp [rdMark]; omega, by simp [rdHead], rfl⟩
  case rest =>
    obtain ⟨rfl, rfl, rfl⟩ := hcut
    have hsle := rdHead_le marked c
    have hcap : t.length + 1 ≤ cap := by simpa using hl
    have hcm : cap ≤ 9223372036854775807 := by unfold maxLen at hm; omega
    have hok : rdOk marked c t = (decide (rdHead marked c ≤ 8) && decide (rdHead marked c ≤ t.length) && !(decide (0 < rdHead marked c) && t.head? == some 0)) := rfl
    rw [hbad] at hok
    clear hl hbad
    generalize rdMark marked c = mk at *
    generalize rdHead marked c = s at *
    by_cases h1 : 8 < s
    · clear hok
      go_wp2_with (first
        | (go_at_call 44; refine (fail_any _ _ _ _ _ _ hb).mono ?_; rintro e w' ⟨rfl, rfl⟩))
      go_ret2
      exact ⟨rfl, failPost hg hb⟩
    by_cases h2 : t.length + 1 ≤ s
    · clear hok
      go_wp2_with (first
        | (go_at_call 44; refine (fail_any _ _ _ _ _ _ hb).mono ?_; rintro e w' ⟨rfl, rfl⟩))
      go_ret2
      exact ⟨rfl, failPost hg hb⟩
    rcases t with _ | ⟨d, t⟩
    · simp at hok; simp at h2; omega
    have hc1 := Hc.out 1 (B8 d) (by simp)
    simp only [B8] at hc1
    have h34 : 0 < s ∧ d = 0 := by
      simp at hok h2
      refine ⟨(hok (by omega) (by omega)).1, (hok (by omega) (by omega)).2⟩
    obtain ⟨h3, h4⟩ := h34
    have hd0 : ((d.toNat : Int) == 0) = true := by rw [h4]; rfl
    clear hok h4
    simp only [List.length_cons] at h2 hcap h0
    go_wp2_with (first
      | (go_at_call 44; refine (fail_any _ _ _ _ _ _ hb).mono ?_; rintro e w' ⟨rfl, rfl⟩))
    go_ret2
    exact ⟨rfl, failPost hg hb⟩

theorem okPost {w : World} {g a off : Nat} {F : Nat → Prop} {cap s : Nat} {bad mk : Bool} {c : UInt8} {t : List UInt8} {n : Nat} (hb : Blk w g 103 #[.slice (some ⟨a, off, none⟩) (c :: t).length cap, .bool bad])
    (hr : Rd w F (some ⟨a, off, none⟩) (c :: t).length ((c :: t).map B8)) (hcap : t.length + 1 ≤ cap) (hm : cap ≤ maxLen) (hs : s ≤ t.length) (hg : ¬ F g) (A' : Option Addr) (hA : A' = if cap = s + 1 then some ⟨a, off, none⟩ else some ⟨a, off + (s + 1), none⟩) (n' : Nat) (hn : n' = t.length - s) (c' : Nat) (hc' : c' = cap - (s + 1)) :
    NumPost ⟨n, mk, t.drop s, bad⟩ w g F (.returned (.tuple #[.int .u64 n, .bool mk])) (w.setCell ⟨g, 0, none⟩ (.slice A' n' c')) := by
  subst hA hn hc'
  have ht := (Touch.refl (fun k => k = g) w).set (b := g) (o := 0) (fun _ => rfl) (.slice (if cap = s + 1 then some ⟨a, off, none⟩ else some ⟨a, off + (s + 1), none⟩) (t.length - s) (cap - (s + 1)))
  have hr' := (hr.touch ht (fun k hk e => hg (by subst e; exact hk))).cut (k := s + 1) (cap := cap) (by simp; omega) (by simpa using hcap)
  have hb' := hb.set_ 0 (.slice (if cap = s + 1 then some ⟨a, off, none⟩ else some ⟨a, off + (s + 1), none⟩) (t.length - s) (cap - (s + 1)))
  refine ⟨rfl, ⟨hg, (if cap = s + 1 then some ⟨a, off, none⟩ else some ⟨a, off + (s + 1), none⟩), cap - (s + 1), ?_, by omega, ?_, ?_⟩, ht⟩
  rotate_left
  · simp only [List.length_drop]
    exact hb'
  · have e1 : (c :: t).length - (s + 1) = (t.drop s).length := by simp
    have e2 : ((c :: t).map B8).drop (s + 1) = (t.drop s).map B8 := by simp
    rw [e1, e2] at hr'
    have e3 : (Option.map (fun x : Addr => x.add (s + 1)) (some ⟨a, off, none⟩)) = some ⟨a, off + (s + 1), none⟩ := by
      simp [Addr.add]
    rw [e3] at hr'
    exact hr'
  · simp only [List.length_drop]; omega

end Go.Proofs.YtlcefchbfjfifaaGreat
end

section
namespace Go.Proofs.YtlcefchbfjfifaaGreat
open Go.RowKit
set_option maxHeartbeats 4000000
set_option maxRecDepth 100000

theorem number_ok (g : Nat) (F : Nat → Prop) (bad : Bool) (most : Nat) (marked : Bool) (c : UInt8) (t : List UInt8) (w : World) (h : RdAt w g F (c :: t) bad) (hbad : rdOk marked c t = true) :
    Calls Tryz.prog 79 #[.pointer (some ⟨g, 0, none⟩), .int .u64 most, .bool marked] w (NumPost (rdNum most marked bad (c :: t)) w g F) := by
  obtain ⟨hg, A, cap, hl, hm, hb, hr⟩ := h
  obtain ⟨a, off, rfl, hlt, hF, hc⟩ := hr.2 (by simp)
  have h0 := hb.cell 0
  have hc0 := hc 0 (B8 c) (by simp)
  have hcl := B8_lt c
  have f0 := hb.frozen 0
  simp only [B8, Nat.add_zero] at hc0
  simp at h0
  have Hc := Lib.hid hc
  have Hr := Lib.hid hr
  clear hc hr
  go_enter Tryz.func79, Tryz.ntmps79
  go_upto_if 23 with (first
    | (go_at_call 20; refine (left_any _ _ _ _ _ _ hb).mono ?_; rintro e w' ⟨rfl, rfl⟩))
  go_cut [7, 8] (fun m s wx => m = .bool (rdMark marked c) ∧ s = .int .i64 (rdHead marked c : Nat) ∧ w = wx)
  case first =>
    cases marked
    · go_wp2
      go_meet
      exact ⟨by simp [rdMark], by simp [rdHead], rfl⟩
    · go_wp2
      go_meet
      exact ⟨by simp [rdMark]; omega, by simp [rdHead], rfl⟩
  case rest =>
    obtain ⟨rfl, rfl, rfl⟩ := hcut
    have hsle := rdHead_le marked c
    have hcap : t.length + 1 ≤ cap := by simpa using hl
    have hcm : cap ≤ 9223372036854775807 := by unfold maxLen at hm; omega
    have hok : rdOk marked c t = (decide (rdHead marked c ≤ 8) && decide (rdHead marked c ≤ t.length) && !(decide (0 < rdHead marked c) && t.head? == some 0)) := rfl
    rw [hbad] at hok
    have HX := Lib.hid (show rdNum most marked bad (c :: t) = (if be (t.take (rdHead marked c)) ≤ most then ⟨be (t.take (rdHead marked c)), rdMark marked c, t.drop (rdHead marked c), bad⟩ else rdFail) by simp only [rdNum, hbad, if_true])
    generalize rdNum most marked bad (c :: t) = R at *
    clear hl hbad
    generalize rdMark marked c = mk at *
    generalize rdHead marked c = s at *
    simp at hok
    obtain ⟨⟨h1, h2⟩, h3⟩ := hok
    rcases Nat.eq_zero_or_pos s with rfl | hpos
    · clear h3
      by_cases hc1 : cap = 1
      all_goals
        go_wp2_with fail
        go_loop [6, 10, 62] (fun n x i => i = .int .i64 0 ∧ n = .int .u64 0) (fun _ _ _ => 0)
        case atStart => exact ⟨rfl, rfl⟩
        case round =>
          obtain ⟨rfl, rfl⟩ := hrel
          go_wp2
          all_goals
            go_ret2
            rw [HX.out, if_pos (by simp [be]), show be (t.take 0) = 0 from rfl]
            refine okPost (s := 0) (n := 0) (mk := mk) hb Hr.out hcap hm (by omega) hg _ ?_ _ ?_ _ ?_
            · simp [*]
            · simp
            · simp [*]
    · have hd : ∃ d, w.cell? ⟨a, off + 1, none⟩ = some (.int .u8 d) ∧ ((d : Int) == 0) = false := by
        rcases t with _ | ⟨d, t⟩
        · simp at h2; omega
        · have := Hc.out 1 (B8 d) (by simp)
          refine ⟨d.toNat, this, ?_⟩
          have h4 := h3.resolve_left (by omega)
          simp at h4
          simp only [beq_eq_false_iff_ne, ne_eq]
          intro e
          exact h4 (UInt8.toNat_inj.1 (by simpa using e))
      clear h3
      obtain ⟨d, hd1, hd2⟩ := hd
      have hc1 : ¬ (cap = 1) := by omega
      go_wp2_with fail
      go_loop [6, 10, 62] (fun n x i => ∃ k : Nat, k ≤ s ∧ i = .int .i64 k ∧ n = .int .u64 (be (t.take k) : Nat)) (fun _ _ i => s - (intOf i).toNat)
      case atStart => exact ⟨0, by omega, rfl, rfl⟩
      case round =>
        obtain ⟨k, hk, rfl, rfl⟩ := hrel
        by_cases hks : k < s
        · have hck : w.cell? ⟨a, off + 1 + k, none⟩ = some (.int .u8 ((t.getD k 0).toNat : Int)) := by
            have := Hc.out (1 + k) (B8 (t.getD k 0)) (by rw [Nat.add_comm 1 k]; simp [List.getD, List.getElem?_eq_getElem (show k < t.length by omega)])
            rw [← Nat.add_assoc] at this; exact this
          have hbl : be (t.take k) * 256 < 18446744073709551616 := be_take_lt _ _ (by omega)
          have HO := Lib.hid (or_add (be (t.take k)) (t.getD k 0) hbl)
          have HS := Lib.hid (show be (t.take (k + 1)) = be (t.take k) * 256 + (t.getD k 0).toNat by rw [take_getD _ _ (by omega), be_snoc])
          have hxl := B8_lt (t.getD k 0)
          generalize be (t.take k) = bk at *
          generalize t.getD k 0 = x at *
          go_wp2
          go_round
          case rel => exact ⟨k + 1, by omega, by go_num, by rw [HO.out, HS.out]⟩
          case measure => simp [intOf]; omega
        · obtain rfl : k = s := by omega
          by_cases hmost : be (t.take k) ≤ most
          · generalize be (t.take k) = n at *
            go_wp2
            all_goals
              go_ret2
              rw [HX.out, if_pos hmost]
              refine okPost (s := k) (n := n) (mk := mk) hb Hr.out hcap hm (by omega) hg _ ?_ _ ?_ _ ?_
              · simp [*]
              · omega
              · simp [*]
          · have hR := HX.out
            rw [if_neg hmost] at hR
            subst hR
            go_wp2_with (first
              | (go_at_call 44; refine (fail_any _ _ _ _ _ _ hb).mono ?_; rintro e w' ⟨rfl, rfl⟩))
            go_ret2
            exact ⟨rfl, failPost hg hb⟩

theorem number_any (g : Nat) (F : Nat → Prop) (bad : Bool) (most : Nat) (marked : Bool) (l : List UInt8) (w : World) (h : RdAt w g F l bad) :
    Calls Tryz.prog 79 #[.pointer (some ⟨g, 0, none⟩), .int .u64 most, .bool marked] w (NumPost (rdNum most marked bad l) w g F) := by
  rcases l with _ | ⟨c, t⟩
  · exact number_nil g F bad most marked w h
  · by_cases hb : rdOk marked c t = true
    · exact number_ok g F bad most marked c t w h hb
    · have e : rdNum most marked bad (c :: t) = rdFail := by simp [rdNum, hb]
      rw [e]
      exact number_bad g F bad most marked c t w h (by simpa using hb)
end Go.Proofs.YtlcefchbfjfifaaGreat
end

section
namespace Go.Proofs.YtlcefchbfjfifaaGreat
open Go.RowKit
set_option maxHeartbeats 1000000
set_option maxRecDepth 100000

theorem info8 : (Tryz.prog.info? 5).map (fun i => (i.zero, i.size, i.bytes)) = some (some (.int .u8 0), 1, 1) := by kernel_rfl

theorem Rd.add {w : World} {F : Nat → Prop} {ad : Addr} {n : Nat} {xs : List Value} (h : Rd w F (some ad) n xs) : ∀ j u, xs[j]? = some u → w.cell? (ad.add j) = some u := by
  intro j u hj
  have hn : 0 < n := by
    rw [← h.1]
    have := (List.getElem?_eq_some_iff.1 hj).1
    omega
  obtain ⟨g, off, e, _, _, hc⟩ := h.2 hn
  injection e with e
  subst e
  have := hc j u hj
  have e : (⟨g, off, none⟩ : Addr).add j = ⟨g, off + j, none⟩ := by unfold Addr.add; split <;> simp_all
  rw [e]; exact this

@[go_sem] theorem eql_bytes_nil (w : World) (a : Option Addr) (n c : Nat) : (binOp .eql 25 (.slice a n c) (.slice none 0 0)).run Tryz.prog w = .ok (.bool a.isNone) w :=
  Lib.run_eql_slice_nil w 25 5 a n c 0 0 Tryz.underlying25

/-- A new slice that reads as xs; nothing else has turned. -/
def NewSl (w : World) (xs : List Value) (e : Ending) (w' : World) : Prop :=
  ∃ A c, e = .returned (.slice A xs.length c) ∧ xs.length ≤ c ∧ c ≤ maxLen ∧ Rd w' (fun k => w.heap.size ≤ k) A xs.length xs ∧ Touch (fun _ => False) w w'

theorem B8_one (l : List UInt8) : ∀ u ∈ l.map B8, u.oneCell' = true := by
  intro u hu
  obtain ⟨c, _, rfl⟩ := List.mem_map.1 hu
  rfl

theorem clone_any (F : Nat → Prop) (A : Option Addr) (n c : Nat) (l : List UInt8) (w : World) (h : Rd w F A n (l.map B8)) (hn : n ≤ 140737488355328) :
    Calls Tryz.prog 45 #[.slice A n c] w (NewSl w (l.map B8)) := by
  have hl := h.1
  rcases A with _ | ad
  · have h0 : n = 0 := by
      rcases Nat.eq_zero_or_pos n with h0 | h0
      · exact h0
      · obtain ⟨_, _, e, _⟩ := h.2 h0; cases e
    subst h0
    have hx : l.map B8 = [] := List.eq_nil_of_length_eq_zero hl
    rw [hx]
    clear h hl hx
    go_enter Tryz.func45, Tryz.ntmps45
    go_wp2
    go_ret
    exact ⟨none, 0, rfl, Nat.le_refl _, by simp, Rd.nil _ _ _, Touch.refl _ _⟩
  · have hadd := Lib.hid h.add
    have Hn := Lib.hid (show ∀ j u, (l.map B8)[j]? = some u → (w.alloc (.cells #[] 5)).cell? (ad.add j) = some u from fun j u hj => (World.cell?_alloc_lt _ _ _ (World.block_lt_of_cell? w _ (h.add j u hj))).trans (h.add j u hj))
    have h1 := Lib.hid (B8_one l)
    obtain ⟨i0, hi, hz0, hz1, hz2⟩ := info_parts info8
    have hown := World.ownsRow_lit w (base := w.heap.size) (e := 5) (size := 1) #[] 0 (Nat.le_refl _) (by simp) (by simp)
    subst hl
    clear h
    generalize l.map B8 = xs at *
    go_enter Tryz.func45, Tryz.ntmps45
    go_wp2_with (at_builtin; go_must (refine wpList_append_own _ rfl _ _ 25 rfl w.heap.size 5 i0 (.int .u8 0) 1 1 Tryz.underlying25 hi hz0 hz1 hz2 rfl (by decide) _ _ _ rfl hown ad xs.length c xs rfl (by simp) Hn.out h1.out (by simp only [maxLen]; omega) (by omega) (by simp) ?_); intro v' w1 hown1 hg1 _)
    go_ret
    have hz : w1.ownsRow w.heap.size 5 1 v' xs.length xs := by simpa using hown1
    obtain ⟨A', c', hv, hn1, hc1, hr⟩ := Rd.of_own hz
    refine ⟨A', c', by rw [← hv]; rfl, hn1, hc1, hr.mono (fun k hk => (hz.lt k hk).1), ?_⟩
    refine ((Touch.refl _ w).alloc _).trans (Touch.of_grown hg1) (fun k hk e => ?_)
    injection e with e
    simp at e
    omega

theorem open_any (A : Option Addr) (n c : Nat) (w : World) :
    Calls Tryz.prog 16 #[.slice A n c] w fun e w' => e = .returned (.pointer (some ⟨w.heap.size, 0, none⟩)) ∧ w.alloc (.cells #[.slice A n c, .bool false] 103) = w' := by
  go_enter Tryz.func16, Tryz.ntmps16
  go_wp2
  go_ret
  simp

/-- What a read hands back: the value v; the reader is left as (l, bad). -/
def RPost (v : Value) (l : List UInt8) (bad : Bool) (w : World) (g : Nat) (F : Nat → Prop) (e : Ending) (w' : World) : Prop :=
  e = .returned v ∧ RdAt w' g F l bad ∧ Touch (fun k => k = g) w w'

theorem num_any (g : Nat) (F : Nat → Prop) (bad : Bool) (most : Nat) (l : List UInt8) (w : World) (h : RdAt w g F l bad) :
    Calls Tryz.prog 43 #[.pointer (some ⟨g, 0, none⟩), .int .u64 most] w
      (RPost (.int .u64 ((rdNum most false bad l).val : Int)) (rdNum most false bad l).left (rdNum most false bad l).bad w g F) := by
  have H := number_any g F bad most false l w h
  generalize rdNum most false bad l = R at *
  have H := Lib.hid H
  clear h
  go_enter Tryz.func43, Tryz.ntmps43
  go_wp2_with (go_at_call 79; refine H.out.mono ?_; rintro e w' ⟨rfl, h1, h2⟩)
  go_ret
  exact ⟨rfl, h1, h2⟩

def rdInt (bad : Bool) (l : List UInt8) : Int := if (rdNum 9223372036854775807 true bad l).mark then -1 - ((rdNum 9223372036854775807 true bad l).val : Int) else ((rdNum 9223372036854775807 true bad l).val : Int)

theorem rdNum_le (most : Nat) (m bad : Bool) (l : List UInt8) : (rdNum most m bad l).val ≤ most := by
  unfold rdNum
  split
  · simp [rdFail]
  · split
    · split
      · assumption
      · simp [rdFail]
    · simp [rdFail]

theorem int_any (g : Nat) (F : Nat → Prop) (bad : Bool) (l : List UInt8) (w : World) (h : RdAt w g F l bad) :
    Calls Tryz.prog 96 #[.pointer (some ⟨g, 0, none⟩)] w
      (RPost (.int .i64 (rdInt bad l)) (rdNum 9223372036854775807 true bad l).left (rdNum 9223372036854775807 true bad l).bad w g F) := by
  have H := number_any g F bad 9223372036854775807 true l w h
  have hle := rdNum_le 9223372036854775807 true bad l
  unfold rdInt
  generalize rdNum 9223372036854775807 true bad l = R at *
  have H := Lib.hid H
  clear h
  obtain ⟨x, mk, l', b'⟩ := R
  simp only at hle ⊢
  cases mk
  · go_enter Tryz.func96, Tryz.ntmps96
    go_wp2_with (go_at_call 79; refine H.out.mono ?_; rintro e w' ⟨rfl, h1, h2⟩)
    go_ret
    exact ⟨by simp, h1, h2⟩
  · go_enter Tryz.func96, Tryz.ntmps96
    go_wp2_with (go_at_call 79; refine H.out.mono ?_; rintro e w' ⟨rfl, h1, h2⟩)
    go_ret
    exact ⟨by simp, h1, h2⟩

end Go.Proofs.YtlcefchbfjfifaaGreat
end
