/- What dice do: take, Below. -/
import Derived.Test.YtomapfklpoijbaaQuillY
import Derived.Test.YtomapfklpoijbaaPlan
import Derived.Laws.Shifts
namespace Go.Proofs.Ytomapfklpoijbaa
open Go.RowKit
set_option maxHeartbeats 4000000
set_option maxRecDepth 100000
set_option linter.unusedVariables false

/-- The dice at block g have the bytes l. -/
def DAt (w : World) (g : Nat) (l : List UInt8) : Prop :=
  ∃ A cap, l.length ≤ cap ∧ cap ≤ maxLen ∧ Blk w g 122 #[.slice A l.length cap] ∧ Rd w (fun k => k < g) A l.length (l.map B8)
theorem DAt.touch {w w' : World} {g : Nat} {l : List UInt8} (h : DAt w g l) (ht : Touch (fun _ => False) w w') : DAt w' g l := by
  obtain ⟨A, cap, h1, h2, hb, hr⟩ := h
  exact ⟨A, cap, h1, h2, ht.blk hb (fun e => e), hr.touch ht (fun _ _ e => e)⟩
theorem DAt.touchS {w w' : World} {g : Nat} {l : List UInt8} {S : Nat → Prop} (h : DAt w g l) (ht : Touch S w w') (hS : ∀ k, k ≤ g → ¬ S k) : DAt w' g l := by
  obtain ⟨A, cap, h1, h2, hb, hr⟩ := h
  exact ⟨A, cap, h1, h2, ht.blk hb (hS g (Nat.le_refl _)), hr.touch ht (fun k hk => hS k (Nat.le_of_lt hk))⟩
theorem DAt.lt {w : World} {g : Nat} {l : List UInt8} (h : DAt w g l) : g < w.heap.size := by obtain ⟨A, cap, h1, h2, hb, hr⟩ := h; exact hb.lt

/-- A number out of bytes, the lowest one first. -/
def leN (l : List UInt8) : Nat := l.foldr (fun c n => c.toNat + 256 * n) 0

theorem leN_lt (l : List UInt8) : leN l < 256 ^ l.length := by
  induction l with
  | nil => simp [leN]
  | cons c l ih =>
    have := B8_lt c
    rw [show leN (c :: l) = c.toNat + 256 * leN l from rfl, List.length_cons, Nat.pow_succ]
    omega
theorem leN_snoc (l : List UInt8) (c : UInt8) : leN (l ++ [c]) = leN l + c.toNat * 256 ^ l.length := by
  induction l with
  | nil => simp [leN]
  | cons d l ih =>
    rw [List.cons_append, show leN (d :: (l ++ [c])) = d.toNat + 256 * leN (l ++ [c]) from rfl, ih, show leN (d :: l) = d.toNat + 256 * leN l from rfl, List.length_cons, Nat.pow_succ,
      Nat.mul_add, Nat.add_assoc, show c.toNat * (256 ^ l.length * 256) = 256 * (c.toNat * 256 ^ l.length) by rw [← Nat.mul_assoc, Nat.mul_comm]]
theorem leN_take (l : List UInt8) (k : Nat) (hk : k < l.length) : leN (l.take (k + 1)) = leN (l.take k) + (l.getD k 0).toNat * 256 ^ k := by
  rw [List.take_succ_eq_append_getElem hk, leN_snoc, List.length_take, Nat.min_eq_left (by omega)]
  simp [List.getD, List.getElem?_eq_getElem hk]
/-- A byte, shifted. -/
theorem shl_byte (b : UInt8) (k : Nat) : ∃ y : Nat, IntKind.u64.wrap ((b.toNat : Int) * 2 ^ min (8 * (k : Int)).toNat IntKind.u64.bits) = (y : Int) ∧ y < 18446744073709551616 ∧ (k < 8 → y = b.toNat * 256 ^ k) := by
  have e1 : (8 * (k : Int)).toNat = 8 * k := by omega
  refine ⟨(b.toNat * 2 ^ min (8 * k) 64) % 18446744073709551616, ?_, Nat.mod_lt _ (by omega), fun hk => ?_⟩
  · rw [e1, show IntKind.u64.bits = 64 from rfl, IntKind.wrap_u64, Int.natCast_emod, Int.natCast_mul, Int.natCast_pow]; rfl
  · rw [Nat.min_eq_left (by omega), Nat.pow_mul, show (2 : Nat) ^ 8 = 256 from rfl]
    apply Nat.mod_eq_of_lt
    have h1 := B8_lt b
    have h2 : 256 ^ (k + 1) ≤ 256 ^ 8 := Nat.pow_le_pow_right (by omega) (by omega)
    rw [Nat.pow_succ] at h2
    have h3 : b.toNat * 256 ^ k < 256 * 256 ^ k := (Nat.mul_lt_mul_right (Nat.pow_pos (by omega))).2 h1
    have h4 : (256 : Nat) ^ 8 = 18446744073709551616 := by decide
    omega
theorem or_byte (v b k : Nat) (hv : v < 256 ^ k) : v ||| b * 256 ^ k = v + b * 256 ^ k := by
  have h := Nat.two_pow_add_eq_or_of_lt (i := 8 * k) (b := v) (by rw [Nat.pow_mul]; exact hv) b
  rw [Nat.pow_mul, show (2 : Nat) ^ 8 = 256 from rfl] at h
  rw [Nat.or_comm, Nat.mul_comm b, ← h, Nat.add_comm]

theorem dtake_any (g : Nat) (l : List UInt8) (size : Nat) (w : World) (h : DAt w g l) (hsz : size ≤ 1000) :
    Calls Try.prog 62 #[.pointer (some ⟨g, 0, none⟩), .int .i64 size] w fun e w' => ∃ v : Nat, e = .returned (.int .u64 v) ∧ v < 18446744073709551616 ∧ (size ≤ 8 → v = leN (l.take size)) ∧ DAt w' g (l.drop size) ∧ Touch (fun k => k = g) w w' := by
  obtain ⟨A, cap, h1, h2, hb, hr⟩ := h
  have h0 := hb.cell 0
  have hfz := hb.frozen 0
  simp at h0
  have HR := Lib.hid hr
  have HB := Lib.hid hb
  have HC := Lib.hid (And.intro h1 h2)
  clear hr hb
  by_cases hsl : (size : Int) ≤ (l.length : Int)
  · have hsn : size ≤ l.length := by omega
    go_enter Try.func62, Try.ntmps62
    go_wp2_with fail
    go_loopw [4, 16] (fun n i wr => ∃ k : Nat, k ≤ size ∧ i = .int .i64 k ∧ (∃ v : Nat, n = .int .u64 v ∧ v < 18446744073709551616 ∧ (size ≤ 8 → v = leN (l.take k))) ∧ wr = w) (fun _ i _ => size - (intOf i).toNat)
    case atStart => exact ⟨0, by omega, rfl, ⟨0, rfl, by omega, fun _ => rfl⟩, rfl⟩
    case round =>
      obtain ⟨k, hk, rfl, ⟨v, rfl, hv, hle⟩, rfl⟩ := hrel
      have HLE := Lib.hid hle
      clear hle
      by_cases hkm : k < size
      · obtain ⟨a, off, rfl, _, _, hc⟩ := HR.out.2 (by omega)
        have hcj := hc k (B8 (l.getD k 0)) (by simp [List.getD, List.getElem?_eq_getElem (show k < l.length by omega)])
        simp only [B8] at hcj
        have HN := Lib.hid (leN_take l k (by omega))
        generalize l.getD k 0 = b at *
        have hbl := B8_lt b
        have hwb : IntKind.u64.wrap (b.toNat : Int) = b.toNat := IntWalk.u64_in _ (by omega)
        obtain ⟨y, hsh, hy, hyk⟩ := shl_byte b k
        have hshift : Op.shift .shl .u64 (b.toNat : Int) .i64 (8 * (k : Int)) = pure (.int .u64 (y : Int)) := by rw [shift_shl_any _ _ _ _ (by omega), hsh]
        have hor := u64_or_nat v y hv hy
        have HX := Lib.hid (show v ||| y < 18446744073709551616 ∧ (size ≤ 8 → v ||| y = leN (l.take (k + 1))) from
          ⟨Nat.or_lt_two_pow (n := 64) hv hy, fun hs => by
            have e1 := HLE.out hs
            have e2 := hyk (by omega)
            have h3 := leN_lt (l.take k)
            rw [List.length_take, Nat.min_eq_left (by omega), ← e1] at h3
            rw [HN.out, ← e1, e2]
            exact or_byte v b.toNat k h3⟩)
        generalize v ||| y = z at *
        clear hc hyk
        go_wp2_with fail
        go_roundw
        case rel => exact ⟨k + 1, by omega, by go_num, ⟨z, rfl, HX.out.1, HX.out.2⟩, trivial⟩
        case measure => simp [intOf]; omega
      · obtain rfl : k = size := by omega
        go_wp2
        all_goals (
          go_ret
          refine ⟨v, rfl, hv, HLE.out, ?_, (Touch.refl (fun k => k = g) wr).set (fun _ => rfl) _⟩
          have hcut := Rd.cut (k := k) (cap := cap) HR.out (by omega) HC.out.1
          refine ⟨if cap = k then A else A.map (·.add k), cap - k, by rw [List.length_drop]; have := HC.out.1; omega, Nat.le_trans (Nat.sub_le _ _) HC.out.2, ?_, ?_⟩
          · have hb2 := HB.out.set_ 0 (.slice (if cap = k then A else A.map (·.add k)) (l.length - k) (cap - k))
            simpa [*, List.length_drop] using hb2
          · rw [List.length_drop, List.map_drop]
            exact hcut.touch ((Touch.refl (fun q => q = g) wr).set (b := g) (o := 0) (fun _ => rfl) _) (fun q hq e => by omega))
  · have hsn : l.length < size := by omega
    go_enter Try.func62, Try.ntmps62
    go_wp2_with fail
    go_loopw [4, 16] (fun n i wr => ∃ k : Nat, k ≤ l.length ∧ i = .int .i64 k ∧ (∃ v : Nat, n = .int .u64 v ∧ v < 18446744073709551616 ∧ (size ≤ 8 → v = leN (l.take k))) ∧ wr = w) (fun _ i _ => l.length - (intOf i).toNat)
    case atStart => exact ⟨0, by omega, rfl, ⟨0, rfl, by omega, fun _ => rfl⟩, rfl⟩
    case round =>
      obtain ⟨k, hk, rfl, ⟨v, rfl, hv, hle⟩, rfl⟩ := hrel
      have HLE := Lib.hid hle
      clear hle
      by_cases hkm : k < l.length
      · obtain ⟨a, off, rfl, _, _, hc⟩ := HR.out.2 (by omega)
        have hcj := hc k (B8 (l.getD k 0)) (by simp [List.getD, List.getElem?_eq_getElem (show k < l.length by omega)])
        simp only [B8] at hcj
        have HN := Lib.hid (leN_take l k (by omega))
        generalize l.getD k 0 = b at *
        have hbl := B8_lt b
        have hwb : IntKind.u64.wrap (b.toNat : Int) = b.toNat := IntWalk.u64_in _ (by omega)
        obtain ⟨y, hsh, hy, hyk⟩ := shl_byte b k
        have hshift : Op.shift .shl .u64 (b.toNat : Int) .i64 (8 * (k : Int)) = pure (.int .u64 (y : Int)) := by rw [shift_shl_any _ _ _ _ (by omega), hsh]
        have hor := u64_or_nat v y hv hy
        have HX := Lib.hid (show v ||| y < 18446744073709551616 ∧ (size ≤ 8 → v ||| y = leN (l.take (k + 1))) from
          ⟨Nat.or_lt_two_pow (n := 64) hv hy, fun hs => by
            have e1 := HLE.out hs
            have e2 := hyk (by omega)
            have h3 := leN_lt (l.take k)
            rw [List.length_take, Nat.min_eq_left (by omega), ← e1] at h3
            rw [HN.out, ← e1, e2]
            exact or_byte v b.toNat k h3⟩)
        generalize v ||| y = z at *
        clear hc hyk
        go_wp2_with fail
        go_roundw
        case rel => exact ⟨k + 1, by omega, by go_num, ⟨z, rfl, HX.out.1, HX.out.2⟩, trivial⟩
        case measure => simp [intOf]; omega
      · obtain rfl : k = l.length := by omega
        go_wp2
        all_goals (
          go_ret
          refine ⟨v, rfl, hv, fun hs => by rw [HLE.out hs, List.take_of_length_le (show l.length ≤ size by omega), List.take_length], ?_, (Touch.refl (fun k => k = g) wr).set (fun _ => rfl) _⟩
          have hcut := Rd.cut (k := l.length) (cap := cap) HR.out (by omega) HC.out.1
          rw [show l.drop size = l.drop l.length by rw [List.drop_of_length_le (by omega), List.drop_length]]
          refine ⟨if cap = l.length then A else A.map (·.add l.length), cap - l.length, by rw [List.length_drop]; have := HC.out.1; omega, Nat.le_trans (Nat.sub_le _ _) HC.out.2, ?_, ?_⟩
          · have hb2 := HB.out.set_ 0 (.slice (if cap = l.length then A else A.map (·.add l.length)) (l.length - l.length) (cap - l.length))
            simpa [*, List.length_drop] using hb2
          · rw [List.length_drop, List.map_drop]
            exact hcut.touch ((Touch.refl (fun q => q = g) wr).set (b := g) (o := 0) (fun _ => rfl) _) (fun q hq e => by omega))

end Go.Proofs.Ytomapfklpoijbaa
