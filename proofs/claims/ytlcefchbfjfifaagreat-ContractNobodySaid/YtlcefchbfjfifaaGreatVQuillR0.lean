/- What the calls of quill's Reader do: a walk each. -/
import Derived.Test.YtlcefchbfjfifaaGreatVArgs
import Derived.Test.YtlcefchbfjfifaaGreatProg
import Derived.BigQuiet
import Derived.Deep.DeepCutAuto
import Derived.Laws.BitsAllLaws
namespace Go.Proofs.YtlcefchbfjfifaaGreat
open Go.RowKit
set_option maxHeartbeats 4000000
set_option maxRecDepth 100000

/-- The reader's object at block g: the bytes l are left. -/
def RdAt (w : World) (g : Nat) (F : Nat → Prop) (l : List UInt8) (bad : Bool) : Prop :=
  ¬ F g ∧ ∃ A cap, l.length ≤ cap ∧ cap ≤ maxLen ∧ Blk w g 103 #[.slice A l.length cap, .bool bad] ∧ Rd w F A l.length (l.map B8)

theorem left_any (g : Nat) (A : Option Addr) (n c : Nat) (bad : Bool) (w : World) (h : Blk w g 103 #[.slice A n c, .bool bad]) :
    Calls Tryz.prog 20 #[.pointer (some ⟨g, 0, none⟩)] w fun e w' => e = .returned (.int .i64 n) ∧ w = w' := by
  have h0 := h.cell 0
  simp at h0
  go_enter Tryz.func20, Tryz.ntmps20
  go_wp2
  go_ret
  simp

theorem bad_any (g : Nat) (A : Option Addr) (n c : Nat) (bad : Bool) (w : World) (h : Blk w g 103 #[.slice A n c, .bool bad]) :
    Calls Tryz.prog 21 #[.pointer (some ⟨g, 0, none⟩)] w fun e w' => e = .returned (.bool bad) ∧ w = w' := by
  have h1 := h.cell 1
  simp at h1
  go_enter Tryz.func21, Tryz.ntmps21
  go_wp2
  go_ret
  simp

theorem fail_any (g : Nat) (A : Option Addr) (n c : Nat) (bad : Bool) (w : World) (h : Blk w g 103 #[.slice A n c, .bool bad]) :
    Calls Tryz.prog 44 #[.pointer (some ⟨g, 0, none⟩)] w fun e w' => e = .returned (.tuple #[]) ∧ (w.setCell ⟨g, 0, none⟩ (.slice none 0 0)).setCell ⟨g, 1, none⟩ (.bool true) = w' := by
  have h0 := h.cell 0
  have h1 := h.cell 1
  have f0 := h.frozen 0
  have f1 := h.frozen 1
  simp at h0 h1
  go_enter Tryz.func44, Tryz.ntmps44
  go_wp2
  go_end0
  simp

def be (l : List UInt8) : Nat := l.foldl (fun n c => n * 256 + c.toNat) 0
structure RNum where
  val : Nat
  mark : Bool
  left : List UInt8
  bad : Bool
def rdHead (marked : Bool) (c : UInt8) : Nat := if marked then c.toNat % 128 else c.toNat
def rdMark (marked : Bool) (c : UInt8) : Bool := marked && decide (128 ≤ c.toNat)
def rdFail : RNum := ⟨0, false, [], true⟩
def rdOk (marked : Bool) (c : UInt8) (t : List UInt8) : Bool := decide (rdHead marked c ≤ 8) && decide (rdHead marked c ≤ t.length) && !(decide (0 < rdHead marked c) && t.head? == some 0)
def rdNum (most : Nat) (marked : Bool) (bad : Bool) : List UInt8 → RNum
  | [] => rdFail
  | c :: t => if rdOk marked c t then (if be (t.take (rdHead marked c)) ≤ most then ⟨be (t.take (rdHead marked c)), rdMark marked c, t.drop (rdHead marked c), bad⟩ else rdFail) else rdFail

def NumPost (r : RNum) (w : World) (g : Nat) (F : Nat → Prop) (e : Ending) (w' : World) : Prop :=
  e = .returned (.tuple #[.int .u64 (r.val : Int), .bool r.mark]) ∧ RdAt w' g F r.left r.bad ∧ Touch (fun k => k = g) w w'

theorem failPost {w : World} {g : Nat} {F : Nat → Prop} {A : Option Addr} {n c : Nat} {bad : Bool} (hg : ¬ F g) (h : Blk w g 103 #[.slice A n c, .bool bad]) :
    RdAt ((w.setCell ⟨g, 0, none⟩ (.slice none 0 0)).setCell ⟨g, 1, none⟩ (.bool true)) g F [] true ∧
      Touch (fun k => k = g) w ((w.setCell ⟨g, 0, none⟩ (.slice none 0 0)).setCell ⟨g, 1, none⟩ (.bool true)) := by
  refine ⟨⟨hg, none, 0, by simp, by simp, ?_, Rd.nil _ _ _⟩, ((Touch.refl (fun k => k = g) w).set (fun _ => rfl) _).set (fun _ => rfl) _⟩
  have := (h.set_ 0 (.slice none 0 0)).set_ 1 (.bool true)
  simpa using this

theorem number_nil (g : Nat) (F : Nat → Prop) (bad : Bool) (most : Nat) (marked : Bool) (w : World) (h : RdAt w g F [] bad) :
    Calls Tryz.prog 79 #[.pointer (some ⟨g, 0, none⟩), .int .u64 most, .bool marked] w (NumPost rdFail w g F) := by
  obtain ⟨hg, A, cap, hl, hm, hb, hr⟩ := h
  have h0 := hb.cell 0
  simp at h0 hb
  go_enter Tryz.func79, Tryz.ntmps79
  go_wp2_with (first
    | (go_at_call 20; refine (left_any _ _ _ _ _ _ hb).mono ?_; rintro e w' ⟨rfl, rfl⟩)
    | (go_at_call 44; refine (fail_any _ _ _ _ _ _ hb).mono ?_; rintro e w' ⟨rfl, rfl⟩))
  go_ret2
  exact ⟨rfl, failPost hg hb⟩


theorem be_snoc (l : List UInt8) (x : UInt8) : be (l ++ [x]) = be l * 256 + x.toNat := by simp [be]
theorem be_from (l : List UInt8) : ∀ n : Nat, l.foldl (fun n c => n * 256 + c.toNat) n < (n + 1) * 256 ^ l.length := by
  induction l with
  | nil => intro n; simp
  | cons x l ih =>
    intro n
    rw [List.foldl_cons, List.length_cons]
    have h1 := ih (n * 256 + x.toNat)
    have hx := B8_lt x
    have h2 : (n * 256 + x.toNat + 1) * 256 ^ l.length ≤ ((n + 1) * 256) * 256 ^ l.length := Nat.mul_le_mul_right _ (by omega)
    rw [show (n + 1) * 256 ^ (l.length + 1) = ((n + 1) * 256) * 256 ^ l.length by rw [Nat.pow_succ, Nat.mul_comm (256 ^ l.length), Nat.mul_assoc]]
    omega
theorem be_lt (l : List UInt8) : be l < 256 ^ l.length := by have := be_from l 0; rw [Nat.zero_add, Nat.one_mul] at this; exact this
theorem be_take_lt (t : List UInt8) (k : Nat) (hk : k < 8) : be (t.take k) * 256 < 18446744073709551616 := by
  have h := be_lt (t.take k)
  have h2 : 256 ^ (t.take k).length ≤ 256 ^ 7 := Nat.pow_le_pow_right (by omega) (by rw [List.length_take]; omega)
  have h3 : (256 : Nat) ^ 7 = 72057594037927936 := by decide
  omega
theorem or_add (n : Nat) (x : UInt8) (hn : n * 256 < 18446744073709551616) : bits .or .u64 ((n : Int) * 256) (x.toNat : Int) = ((n * 256 + x.toNat : Nat) : Int) := by
  have hx := B8_lt x
  have e : ((n : Int) * 256) = ((n * 256 : Nat) : Int) := by omega
  rw [e, u64_or_nat _ _ hn (by omega)]
  congr 1
  have := Nat.two_pow_add_eq_or_of_lt (i := 8) (b := x.toNat) (by omega) n
  rw [show n * 256 = 2 ^ 8 * n by omega, this]
theorem take_getD (t : List UInt8) (k : Nat) (hk : k < t.length) : t.take (k + 1) = t.take k ++ [t.getD k 0] := by
  rw [List.take_succ_eq_append_getElem hk]
  simp [List.getD, List.getElem?_eq_getElem hk]
theorem rdHead_le (m : Bool) (c : UInt8) : rdHead m c ≤ 255 := by
  have := B8_lt c
  unfold rdHead; split <;> omega

theorem number_bad (g : Nat) (F : Nat → Prop) (bad : Bool) (most : Nat) (marked : Bool) (c : UInt8) (t : List UInt8) (w : World) (h : RdAt w g F (c :: t) bad) (hbad : rdOk marked c t = false) :
    Calls Tryz.prog 79 #[.pointer (some ⟨g, 0, none⟩), .int .u64 most, .bool marked] w (NumPost rdFail w g F) := by
  obtain ⟨hg, A, cap, hl, hm, hb, hr⟩ := h
  obtain ⟨a, off, rfl, hlt, hF, hc⟩ := hr.2 (by simp)
  have h0 := hb.cell 0
  have hc0 := hc 0 (B8 c) (by simp)
  have hcl := B8_lt c
  simp only [B8, Nat.add_zero] at hc0
  simp at h0
  have Hc := Lib.hid hc
  clear hc hr
  go_enter Tryz.func79, Tryz.ntmps79
  go_upto_if 23 with (first
    | (go_at_call 20; refine (left_any _ _ _ _ _ _ hb).mono ?_; rintro e w' ⟨rfl, rfl⟩))
  go_cut [7, 8] (fun m s wx => m = .bool (rdMark marked c) ∧ s = .int .i64 (rdHead marked c : Nat) ∧ w = wx)
  case first =>
    cases marked
    · go_wp2
      go_meet
      exact ⟨by simp [rdMark], by simp [rdHead], rfl⟩
    · go_wp2
      go_meet
      exact ⟨by simp [rdMark]; omega, by simp [rdHead], rfl⟩
  case rest =>
    obtain ⟨rfl, rfl, rfl⟩ := hcut
    have hsle := rdHead_le marked c
    have hcap : t.length + 1 ≤ cap := by simpa using hl
    have hcm : cap ≤ 9223372036854775807 := by unfold maxLen at hm; omega
    have hok : rdOk marked c t = (decide (rdHead marked c ≤ 8) && decide (rdHead marked c ≤ t.length) && !(decide (0 < rdHead marked c) && t.head? == some 0)) := rfl
    rw [hbad] at hok
    clear hl hbad
    generalize rdMark marked c = mk at *
    generalize rdHead marked c = s at *
    by_cases h1 : 8 < s
    · clear hok
      go_wp2_with (first
        | (go_at_call 44; refine (fail_any _ _ _ _ _ _ hb).mono ?_; rintro e w' ⟨rfl, rfl⟩))
      go_ret2
      exact ⟨rfl, failPost hg hb⟩
    by_cases h2 : t.length + 1 ≤ s
    · clear hok
      go_wp2_with (first
        | (go_at_call 44; refine (fail_any _ _ _ _ _ _ hb).mono ?_; rintro e w' ⟨rfl, rfl⟩))
      go_ret2
      exact ⟨rfl, failPost hg hb⟩
    rcases t with _ | ⟨d, t⟩
    · simp at hok; simp at h2; omega
    have hc1 := Hc.out 1 (B8 d) (by simp)
    simp only [B8] at hc1
    have h34 : 0 < s ∧ d = 0 := by
      simp at hok h2
      refine ⟨(hok (by omega) (by omega)).1, (hok (by omega) (by omega)).2⟩
    obtain ⟨h3, h4⟩ := h34
    have hd0 : ((d.toNat : Int) == 0) = true := by rw [h4]; rfl
    clear hok h4
    simp only [List.length_cons] at h2 hcap h0
    go_wp2_with (first
      | (go_at_call 44; refine (fail_any _ _ _ _ _ _ hb).mono ?_; rintro e w' ⟨rfl, rfl⟩))
    go_ret2
    exact ⟨rfl, failPost hg hb⟩

theorem okPost {w : World} {g a off : Nat} {F : Nat → Prop} {cap s : Nat} {bad mk : Bool} {c : UInt8} {t : List UInt8} {n : Nat} (hb : Blk w g 103 #[.slice (some ⟨a, off, none⟩) (c :: t).length cap, .bool bad])
    (hr : Rd w F (some ⟨a, off, none⟩) (c :: t).length ((c :: t).map B8)) (hcap : t.length + 1 ≤ cap) (hm : cap ≤ maxLen) (hs : s ≤ t.length) (hg : ¬ F g) (A' : Option Addr) (hA : A' = if cap = s + 1 then some ⟨a, off, none⟩ else some ⟨a, off + (s + 1), none⟩) (n' : Nat) (hn : n' = t.length - s) (c' : Nat) (hc' : c' = cap - (s + 1)) :
    NumPost ⟨n, mk, t.drop s, bad⟩ w g F (.returned (.tuple #[.int .u64 n, .bool mk])) (w.setCell ⟨g, 0, none⟩ (.slice A' n' c')) := by
  subst hA hn hc'
  have ht := (Touch.refl (fun k => k = g) w).set (b := g) (o := 0) (fun _ => rfl) (.slice (if cap = s + 1 then some ⟨a, off, none⟩ else some ⟨a, off + (s + 1), none⟩) (t.length - s) (cap - (s + 1)))
  have hr' := (hr.touch ht (fun k hk e => hg (by subst e; exact hk))).cut (k := s + 1) (cap := cap) (by simp; omega) (by simpa using hcap)
  have hb' := hb.set_ 0 (.slice (if cap = s + 1 then some ⟨a, off, none⟩ else some ⟨a, off + (s + 1), none⟩) (t.length - s) (cap - (s + 1)))
  refine ⟨rfl, ⟨hg, (if cap = s + 1 then some ⟨a, off, none⟩ else some ⟨a, off + (s + 1), none⟩), cap - (s + 1), ?_, by omega, ?_, ?_⟩, ht⟩
  rotate_left
  · simp only [List.length_drop]
    exact hb'
  · have e1 : (c :: t).length - (s + 1) = (t.drop s).length := by simp
    have e2 : ((c :: t).map B8).drop (s + 1) = (t.drop s).map B8 := by simp
    rw [e1, e2] at hr'
    have e3 : (Option.map (fun x : Addr => x.add (s + 1)) (some ⟨a, off, none⟩)) = some ⟨a, off + (s + 1), none⟩ := by
      simp [Addr.add]
    rw [e3] at hr'
    exact hr'
  · simp only [List.length_drop]; omega

end Go.Proofs.YtlcefchbfjfifaaGreat
