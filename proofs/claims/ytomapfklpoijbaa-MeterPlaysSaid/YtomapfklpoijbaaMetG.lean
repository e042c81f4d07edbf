/- What the reference's counts do (chapter 5). -/
import Derived.Test.YtomapfklpoijbaaMetE
import Derived.Test.YtomapfklpoijbaaQuillZ
namespace Go.Proofs.Ytomapfklpoijbaa
open Go.RowKit
set_option maxHeartbeats 4000000
set_option maxRecDepth 100000
set_option linter.unusedVariables false

theorem U64_one (l : List Nat) : ∀ u ∈ l.map U64, u.oneCell' = true := by
  intro u hu
  obtain ⟨c, _, rfl⟩ := List.mem_map.1 hu
  rfl
theorem Rd.srcU {w : World} {F : Nat → Prop} {A : Option Addr} {n c : Nat} {xs : List Nat} (hr : Rd w F A n (xs.map U64)) (hA : A = none → c = 0) : Src Try.prog 1 33 (.slice A n c) n (xs.map U64) w := by
  have hn : n = xs.length := by have := hr.1; simpa using this.symm
  subst hn
  rcases A with _ | ad
  · have h0 : xs = [] := by
      rcases xs with _ | ⟨x, xs⟩
      · rfl
      · obtain ⟨_, _, e, _⟩ := hr.2 (by simp); cases e
    subst h0
    rw [hA rfl]
    exact Src.ofNil w Try.underlying33 0
  · exact Src.ofSlice w Try.underlying33 ad _ _ _ (by simp) hr.add (U64_one xs)

/-- The reference's counts: a slice apart from the meter's block g. -/
def Ref (w : World) (g : Nat) (A : Option Addr) (c : Nat) (ws : List Nat) : Prop :=
  (A = none → c = 0) ∧ Rd w (fun q => q ≠ g) A ws.length (ws.map U64) ∧ (∀ v ∈ ws, v ≤ 4611686018427387904) ∧ ws.length ≤ 16 ∧ g < w.heap.size
theorem Ref.touch {w w' : World} {g : Nat} {A : Option Addr} {c : Nat} {ws : List Nat} (h : Ref w g A c ws) (ht : Touch (fun k => k = g) w w') : Ref w' g A c ws :=
  ⟨h.1, h.2.1.touch ht (fun q hq e => hq e), h.2.2.1, h.2.2.2.1, Nat.lt_of_lt_of_le h.2.2.2.2 ht.size⟩
theorem Ref.touch0 {w w' : World} {g : Nat} {A : Option Addr} {c : Nat} {ws : List Nat} (h : Ref w g A c ws) (ht : Touch (fun _ => False) w w') : Ref w' g A c ws := h.touch (ht.mono fun _ _ e => e.elim)
theorem Ref.at_ {w : World} {g : Nat} {A : Option Addr} {c : Nat} {ws : List Nat} (h : Ref w g A c ws) {k : Nat} (hk : k < ws.length) : ∃ a off, A = some ⟨a, off, none⟩ ∧ a < w.heap.size ∧ w.cell? ⟨a, off + k, none⟩ = some (.int .u64 (ws.getD k 0 : Nat)) ∧ ws.getD k 0 ≤ 4611686018427387904 := by
  obtain ⟨a, off, e, hl, _, hc⟩ := h.2.1.2 (by omega)
  exact ⟨a, off, e, hl, hc k _ (get_U64 hk), h.2.2.1 _ (by simp [List.getD, List.getElem?_eq_getElem hk])⟩

theorem ris_any (A : Option Addr) (n c : Nat) (i : Int) (w : World) :
    Calls Try.prog 95 #[.slice A n c, .int .i64 i] w fun e w' => e = .returned (.bool (decide (0 ≤ i ∧ i < n))) ∧ w = w' := by
  by_cases h0 : 0 ≤ i
  · by_cases h1 : i < n
    · go_enter Try.func95, Try.ntmps95
      go_wp2
      go_ret
      exact ⟨ret_bool (decide_eq_true (⟨h0, h1⟩ : 0 ≤ i ∧ i < n)).symm, rfl⟩
    · go_enter Try.func95, Try.ntmps95
      go_wp2
      go_ret
      exact ⟨ret_bool (by simp; omega), rfl⟩
  · go_enter Try.func95, Try.ntmps95
    go_wp2
    go_ret
    exact ⟨ret_bool (by simp; omega), rfl⟩

theorem rwith_any (g k v : Nat) (A : Option Addr) (c : Nat) (ws : List Nat) (w : World) (h : Ref w g A c ws) (hk : k < ws.length) (hv : v ≤ 4611686018427387904) :
    Calls Try.prog 96 #[.slice A ws.length c, .int .i64 k, .int .u64 v] w fun e w' => ∃ A' c', e = .returned (.slice A' (ws.set k v).length c') ∧ Ref w' g A' c' (ws.set k v) ∧ Touch (fun _ => False) w w' := by
  obtain ⟨i0, hi, hz0, hz1, hz2⟩ := info_parts infoU
  have hA := h.1
  have hl16 := h.2.2.2.1
  have hgl := h.2.2.2.2
  have HV := Lib.hid h.2.2.1
  have HTl := Lib.hid ((Touch.refl (fun _ => False) w).alloc (.cells #[] 29))
  have HOL := Lib.hid (Own.lit w 29 1 #[] 0 (by unfold maxLen; omega) rfl)
  have HSrc := Lib.hid (Rd.srcU (h.2.1.touch HTl.out (fun _ _ e => e)) hA)
  clear h hA
  go_enter Try.func96, Try.ntmps96
  go_wp2_with (
    at_builtin
    go_must (refine wpList_own_append rfl _ _ 33 33 rfl 29 i0 (.int .u64 0) 1 8 Try.underlying33 hi hz0 hz1 hz2 rfl _ (some w.heap.size) 0 [] rfl (by exact HOL.out) _ ws.length (ws.map U64) rfl (by exact HSrc.out) (by simp only [maxLen]; omega) (by omega) ?_)
    intro v1 r1 w1 ho1 ht1 hr1
    rw [Nat.zero_add, List.nil_append] at ho1
    obtain ⟨g', cap, cur, hr, hv1, hb, hn, hc, hs, hx⟩ := ho1.2.resolve_left (fun ⟨_, hn, _⟩ => by omega)
    subst hr
    have hfz := hb.frozen k
    have hck := ho1.cellAt k (by simpa using hk)
    rw [get_U64 hk] at hck
    subst hv1
    have HO := Lib.hid ho1
    have HT1 := Lib.hid ht1
    have HR1 := Lib.hid hr1
    clear ho1 ht1 hr1 hb hn hc hs hx)
  go_ret
  have hg' : w.heap.size ≤ g' := by
    rcases HR1.out with e | ⟨q, e, hq⟩
    · injection e with e; omega
    · injection e with e; simp at hq; omega
  have ho2 := HO.out.storeAt k hk (.int .u64 (v : Nat))
  rw [show (ws.map U64).set k (.int .u64 (v : Nat)) = (ws.set k v).map U64 by rw [List.map_set]; rfl] at ho2
  obtain ⟨A2, c2, hv2, q1, q2, qA, hr2⟩ := ho2.rd
  injection hv2 with e1 e2 e3
  subst e1 e3
  have t1 : Touch (fun _ => False) w w1 := HTl.out.trans HT1.out (fun q hq e => by injection e with e; omega)
  have t2 := t1.trans ((Touch.refl (fun q => q = g') w1).set (b := g') (o := k) (fun _ => rfl) (.int .u64 (v : Nat))) (fun q hq e => by omega)
  refine ⟨_, cap, rfl, ⟨qA, ?_, ?_, by simpa using hl16, Nat.lt_of_lt_of_le hgl t2.size⟩, t2⟩
  · rw [List.length_set]; exact hr2.mono fun q hq => by injection hq with hq; omega
  · intro y hy
    rcases List.mem_or_eq_of_mem_set hy with hy | hy
    · exact HV.out y hy
    · omega

/-- A result that begins with a slice of counts. -/
def RefP (w : World) (g : Nat) (xs : List Nat) (vs : Array Value) (e : Ending) (w' : World) : Prop :=
  ∃ A c, e = .returned (.tuple (#[.slice A xs.length c] ++ vs)) ∧ Ref w' g A c xs ∧ Touch (fun _ => False) w w'
theorem inR_dec (ws : List Nat) (i : Int) : decide (0 ≤ i ∧ i < ws.length) = decide (inR ws i) := rfl

theorem rget_any (g : Nat) (A : Option Addr) (c : Nat) (ws : List Nat) (i : Int) (w : World) (h : Ref w g A c ws) :
    Calls Try.prog 73 #[.slice A ws.length c, .int .i64 i] w fun e w' => e = .returned (.int .u64 (getV ws i : Nat)) ∧ w = w' := by
  by_cases hi : inR ws i
  · obtain ⟨k, rfl⟩ := Int.eq_ofNat_of_zero_le hi.1
    have hk : k < ws.length := by have := hi.2; omega
    have hd : decide (0 ≤ (k : Int) ∧ (k : Int) < ws.length) = true := decide_eq_true hi
    have HV := Lib.hid (show getV ws (k : Int) = ws.getD k 0 by rw [getV, if_pos hi, Int.toNat_natCast])
    obtain ⟨a, off, rfl, hal, hck, hvl⟩ := h.at_ hk
    have hl16 := h.2.2.2.1
    clear h hi
    generalize ws.getD k 0 = v at *
    go_enter Try.func73, Try.ntmps73
    go_wp2_with (go_at_call 95; go_must (refine (ris_any _ _ _ _ _).mono ?_); rintro e w1 ⟨rfl, rfl⟩; rw [hd])
    go_ret
    rw [HV.out]
    exact ⟨rfl, rfl⟩
  · have hd : decide (0 ≤ i ∧ i < (ws.length : Int)) = false := decide_eq_false hi
    have HV := Lib.hid (show getV ws i = 0 by rw [getV, if_neg hi])
    clear h hi
    go_enter Try.func73, Try.ntmps73
    go_wp2_with (go_at_call 95; go_must (refine (ris_any _ _ _ _ _).mono ?_); rintro e w1 ⟨rfl, rfl⟩; rw [hd])
    go_ret
    rw [HV.out]
    exact ⟨rfl, rfl⟩

theorem ronce_any (g : Nat) (A : Option Addr) (c : Nat) (ws : List Nat) (i : Int) (w : World) (h : Ref w g A c ws) :
    Calls Try.prog 72 #[.slice A ws.length c, .int .i64 i] w (RefP w g (onceC ws i) #[.bool (onceB ws i)]) := by
  have H := Lib.hid h
  by_cases hi : inR ws i
  · obtain ⟨k, rfl⟩ := Int.eq_ofNat_of_zero_le hi.1
    have hk : k < ws.length := by have := hi.2; omega
    have hd : decide (0 ≤ (k : Int) ∧ (k : Int) < ws.length) = true := decide_eq_true hi
    obtain ⟨a, off, rfl, hal, hck, hvl⟩ := h.at_ hk
    have hl16 := h.2.2.2.1
    by_cases hv : ws.getD k 0 = 0
    · have HB := Lib.hid (show onceB ws (k : Int) = true by rw [onceB, decide_eq_true hi, Int.toNat_natCast, hv]; rfl)
      have HC := Lib.hid (show onceC ws (k : Int) = ws.set k 1 by rw [onceC, if_pos HB.out, Int.toNat_natCast])
      have HWi := Lib.hid (rwith_any g k 1 (some ⟨a, off, none⟩) c ws w h hk (by omega))
      rw [hv] at hck
      clear h hi hv hvl
      go_enter Try.func72, Try.ntmps72
      go_wp2_with (first
        | (go_at_call 95; go_must (refine (ris_any _ _ _ _ _).mono ?_); rintro e w1 ⟨rfl, rfl⟩; rw [hd])
        | (go_at_call 96; go_must (refine HWi.out.mono ?_); rintro e w2 ⟨A2, c2, rfl, hf, t2⟩; rw [List.length_set]; have HF := Lib.hid hf; have HT := Lib.hid t2; clear hf t2))
      go_ret2
      rw [HB.out, HC.out]
      exact ⟨A2, c2, by rw [List.length_set]; rfl, HF.out, HT.out⟩
    · have HB := Lib.hid (show onceB ws (k : Int) = false by rw [onceB, Int.toNat_natCast, decide_eq_false hv, Bool.and_false])
      have HC := Lib.hid (show onceC ws (k : Int) = ws by rw [onceC, if_neg (by rw [HB.out]; simp)])
      have hv0 : ((ws.getD k 0 : Nat) : Int) ≠ 0 := by omega
      have hv1 : (((ws.getD k 0 : Nat) : Int) != 0) = true := by simpa using hv0
      clear h hi hv hv0
      generalize ws.getD k 0 = v at *
      go_enter Try.func72, Try.ntmps72
      go_wp2_with (go_at_call 95; go_must (refine (ris_any _ _ _ _ _).mono ?_); rintro e w1 ⟨rfl, rfl⟩; rw [hd])
      go_ret2
      rw [HB.out, HC.out]
      exact ⟨_, c, rfl, H.out, Touch.refl _ _⟩
  · have hd : decide (0 ≤ i ∧ i < (ws.length : Int)) = false := decide_eq_false hi
    have HB := Lib.hid (show onceB ws i = false by rw [onceB, decide_eq_false hi]; rfl)
    have HC := Lib.hid (show onceC ws i = ws by rw [onceC, if_neg (by rw [HB.out]; simp)])
    clear h hi
    go_enter Try.func72, Try.ntmps72
    go_wp2_with (go_at_call 95; go_must (refine (ris_any _ _ _ _ _).mono ?_); rintro e w1 ⟨rfl, rfl⟩; rw [hd])
    go_ret2
    rw [HB.out, HC.out]
    exact ⟨_, c, rfl, H.out, Touch.refl _ _⟩

theorem radd_any (g x : Nat) (A : Option Addr) (c : Nat) (ws : List Nat) (i : Int) (w : World) (h : Ref w g A c ws) :
    Calls Try.prog 74 #[.slice A ws.length c, .int .i64 i, .int .u64 x] w (RefP w g (opC addF ws i x) #[.int .u64 (opN addF ws i x : Nat), .int .i64 (opE addF ws i x)]) := by
  have H := Lib.hid h
  by_cases hi : inR ws i
  · obtain ⟨k, rfl⟩ := Int.eq_ofNat_of_zero_le hi.1
    have hk : k < ws.length := by have := hi.2; omega
    have hd : decide (0 ≤ (k : Int) ∧ (k : Int) < ws.length) = true := decide_eq_true hi
    obtain ⟨a, off, rfl, hal, hck, hvl⟩ := h.at_ hk
    have hl16 := h.2.2.2.1
    by_cases hx : x ≤ 4611686018427387904 ∧ ws.getD k 0 + x ≤ 4611686018427387904
    · have hF : addF x (ws.getD k 0) = (ws.getD k 0 + x, 0) := by unfold addF; rw [if_pos hx]
      have HC := Lib.hid (show opC addF ws (k : Int) x = ws.set k (ws.getD k 0 + x) ∧ opN addF ws (k : Int) x = ws.getD k 0 + x ∧ opE addF ws (k : Int) x = 0 from
        ⟨by rw [opC, if_pos ⟨hi, by rw [Int.toNat_natCast, hF]⟩, Int.toNat_natCast, hF], by rw [opN, if_pos ⟨hi, by rw [Int.toNat_natCast, hF]⟩, Int.toNat_natCast, hF], by rw [opE, if_pos hi, Int.toNat_natCast, hF]⟩)
      have HWi := Lib.hid (rwith_any g k (ws.getD k 0 + x) (some ⟨a, off, none⟩) c ws w.drew (h.touch0 (Touch.refl _ _).drew) hk hx.2)
      clear h hi hF
      generalize ws.getD k 0 = v at *
      have hsb : IntKind.u64.wrap (4611686018427387904 - (v : Int)) = 4611686018427387904 - (v : Int) := IntWalk.u64_in _ (by omega)
      have hxx : ¬ 4611686018427387904 - (v : Int) < (x : Int) := by omega
      have hvx : (v : Int) + (x : Int) = ((v + x : Nat) : Int) := by omega
      have hwx : IntKind.u64.wrap ((v + x : Nat) : Int) = ((v + x : Nat) : Int) := IntWalk.u64_in _ (by omega)
      generalize v + x = y at *
      go_enter Try.func74, Try.ntmps74
      go_wp2_with (go_at_call 95; go_must (refine (ris_any _ _ _ _ _).mono ?_); rintro e w1 ⟨rfl, rfl⟩; rw [hd])
      refine wp_region_plan [(0, 0), (0, 1), (0, 2), (0, 3), (0, 4), (0, 5), (0, 6), (0, 7), (1, 9), (1, 10), (1, 11), (1, 12), (1, 13), (1, 14), (2, 8), (0, 15), (0, 16), (0, 17)] (fun _ => False) (by kernel_rfl) (by kernel_rfl) (fun c a d v w h => by cases d <;> exact h) ?_
      iterate 8
        first
          | (refine plan_s1 rfl (by rfl) (fun Kc hKc => ?_)
             go_simp
             first
               | (refine hKc _ ?_)
             clear hKc Kc)
          | (refine plan_s0 rfl (by rfl) ?_; go_frame)
      iterate 6
        first
          | (apply plan_h
             · rfl
             · rfl
             · intro wh hT
               have hf0 := (hT.cell (p := ⟨a, off + k, none⟩) hal (fun e => e)).trans hck
               go_simp
               try rfl
             go_frame)
          | (refine plan_hn rfl (by rfl) ?_; go_frame)
      refine plan_a1 rfl (by rfl) (fun Kc hKc => ?_)
      go_simp
      refine HWi.out.mono ?_
      rintro e w2 ⟨A2, c2, rfl, hf, t2⟩
      rw [List.length_set]
      refine hKc _ _ ⟨t2, ?_⟩
      clear hKc Kc
      have HF := Lib.hid hf
      have HT := Lib.hid ((Touch.refl (fun _ => False) w).drew.trans t2 (fun _ _ e => e))
      clear hf t2
      iterate 3
        first
          | (refine plan_s1 rfl (by rfl) (fun Kc hKc => ?_)
             go_simp
             first
               | (refine hKc _ ?_)
             clear hKc Kc)
          | (refine plan_s0 rfl (by rfl) ?_; go_frame)
      refine plan_done ?_
      go_wp2
      go_ret3
      rw [HC.out.1, HC.out.2.1, HC.out.2.2]
      exact ⟨A2, c2, by rw [List.length_set]; rfl, HF.out, HT.out⟩
    · have hF : addF x (ws.getD k 0) = (0, 10) := by unfold addF; rw [if_neg hx]
      have HC := Lib.hid (show opC addF ws (k : Int) x = ws ∧ opN addF ws (k : Int) x = 0 ∧ opE addF ws (k : Int) x = 10 from
        ⟨by rw [opC, if_neg (fun hg => by have := hg.2; rw [Int.toNat_natCast, hF] at this; exact absurd this (by simp))], by rw [opN, if_neg (fun hg => by have := hg.2; rw [Int.toNat_natCast, hF] at this; exact absurd this (by simp))], by rw [opE, if_pos hi, Int.toNat_natCast, hF]⟩)
      clear h hi hF
      generalize ws.getD k 0 = v at *
      have hsb : IntKind.u64.wrap (4611686018427387904 - (v : Int)) = 4611686018427387904 - (v : Int) := IntWalk.u64_in _ (by omega)
      have hxx : 4611686018427387904 - (v : Int) < (x : Int) := by omega
      clear hx
      go_enter Try.func74, Try.ntmps74
      go_wp2_with (go_at_call 95; go_must (refine (ris_any _ _ _ _ _).mono ?_); rintro e w1 ⟨rfl, rfl⟩; rw [hd])
      go_ret3
      rw [HC.out.1, HC.out.2.1, HC.out.2.2]
      exact ⟨_, c, rfl, H.out, Touch.refl _ _⟩
  · have hd : decide (0 ≤ i ∧ i < (ws.length : Int)) = false := decide_eq_false hi
    have HC := Lib.hid (show opC addF ws i x = ws ∧ opN addF ws i x = 0 ∧ opE addF ws i x = 2 from
      ⟨by rw [opC, if_neg (fun hg => hi hg.1)], by rw [opN, if_neg (fun hg => hi hg.1)], by rw [opE, if_neg hi]⟩)
    clear h hi
    go_enter Try.func74, Try.ntmps74
    go_wp2_with (go_at_call 95; go_must (refine (ris_any _ _ _ _ _).mono ?_); rintro e w1 ⟨rfl, rfl⟩; rw [hd])
    go_ret3
    rw [HC.out.1, HC.out.2.1, HC.out.2.2]
    exact ⟨_, c, rfl, H.out, Touch.refl _ _⟩

theorem rswap_any (g x : Nat) (A : Option Addr) (c : Nat) (ws : List Nat) (i : Int) (w : World) (h : Ref w g A c ws) :
    Calls Try.prog 71 #[.slice A ws.length c, .int .i64 i, .int .u64 x] w (RefP w g (opC swapF ws i x) #[.int .u64 (opW swapF ws i x : Nat), .int .i64 (opE swapF ws i x)]) := by
  have H := Lib.hid h
  by_cases hi : inR ws i
  · obtain ⟨k, rfl⟩ := Int.eq_ofNat_of_zero_le hi.1
    have hk : k < ws.length := by have := hi.2; omega
    have hd : decide (0 ≤ (k : Int) ∧ (k : Int) < ws.length) = true := decide_eq_true hi
    obtain ⟨a, off, rfl, hal, hck, hvl⟩ := h.at_ hk
    have hl16 := h.2.2.2.1
    by_cases hx : x ≤ 4611686018427387904
    · have hF : swapF x (ws.getD k 0) = (x, 0) := by unfold swapF; rw [if_pos hx]
      have HC := Lib.hid (show opC swapF ws (k : Int) x = ws.set k x ∧ opW swapF ws (k : Int) x = ws.getD k 0 ∧ opE swapF ws (k : Int) x = 0 from
        ⟨by rw [opC, if_pos ⟨hi, by rw [Int.toNat_natCast, hF]⟩, Int.toNat_natCast, hF], by rw [opW, if_pos ⟨hi, by rw [Int.toNat_natCast, hF]⟩, Int.toNat_natCast], by rw [opE, if_pos hi, Int.toNat_natCast, hF]⟩)
      have HWi := Lib.hid (rwith_any g k x (some ⟨a, off, none⟩) c ws w.drew (h.touch0 (Touch.refl _ _).drew) hk hx)
      clear h hi hF
      generalize ws.getD k 0 = v at *
      have hxx : ¬ 4611686018427387904 < (x : Int) := by omega
      go_enter Try.func71, Try.ntmps71
      go_wp2_with (go_at_call 95; go_must (refine (ris_any _ _ _ _ _).mono ?_); rintro e w1 ⟨rfl, rfl⟩; rw [hd])
      refine wp_region_plan [(0, 0), (0, 1), (0, 2), (1, 4), (1, 5), (1, 6), (1, 7), (2, 3), (0, 8), (0, 9), (0, 10)] (fun _ => False) (by kernel_rfl) (by kernel_rfl) (fun c a d v w h => by cases d <;> exact h) ?_
      iterate 3
        first
          | (refine plan_s1 rfl (by rfl) (fun Kc hKc => ?_)
             go_simp
             first
               | (refine hKc _ ?_)
             clear hKc Kc)
          | (refine plan_s0 rfl (by rfl) ?_; go_frame)
      iterate 4
        first
          | (apply plan_h
             · rfl
             · rfl
             · intro wh hT
               have hf0 := (hT.cell (p := ⟨a, off + k, none⟩) hal (fun e => e)).trans hck
               go_simp
               try rfl
             go_frame)
          | (refine plan_hn rfl (by rfl) ?_; go_frame)
      refine plan_a1 rfl (by rfl) (fun Kc hKc => ?_)
      go_simp
      refine HWi.out.mono ?_
      rintro e w2 ⟨A2, c2, rfl, hf, t2⟩
      rw [List.length_set]
      refine hKc _ _ ⟨t2, ?_⟩
      clear hKc Kc
      have HF := Lib.hid hf
      have HT := Lib.hid ((Touch.refl (fun _ => False) w).drew.trans t2 (fun _ _ e => e))
      clear hf t2
      iterate 3
        first
          | (refine plan_s1 rfl (by rfl) (fun Kc hKc => ?_)
             go_simp
             first
               | (refine hKc _ ?_)
             clear hKc Kc)
          | (refine plan_s0 rfl (by rfl) ?_; go_frame)
      refine plan_done ?_
      go_wp2
      go_ret3
      rw [HC.out.1, HC.out.2.1, HC.out.2.2]
      exact ⟨A2, c2, by rw [List.length_set]; rfl, HF.out, HT.out⟩
    · have hF : swapF x (ws.getD k 0) = (0, 10) := by unfold swapF; rw [if_neg hx]
      have HC := Lib.hid (show opC swapF ws (k : Int) x = ws ∧ opW swapF ws (k : Int) x = 0 ∧ opE swapF ws (k : Int) x = 10 from
        ⟨by rw [opC, if_neg (fun hg => by have := hg.2; rw [Int.toNat_natCast, hF] at this; exact absurd this (by simp))], by rw [opW, if_neg (fun hg => by have := hg.2; rw [Int.toNat_natCast, hF] at this; exact absurd this (by simp))], by rw [opE, if_pos hi, Int.toNat_natCast, hF]⟩)
      clear h hi hF
      have hxx : 4611686018427387904 < (x : Int) := by omega
      go_enter Try.func71, Try.ntmps71
      go_wp2_with (go_at_call 95; go_must (refine (ris_any _ _ _ _ _).mono ?_); rintro e w1 ⟨rfl, rfl⟩; rw [hd])
      go_ret3
      rw [HC.out.1, HC.out.2.1, HC.out.2.2]
      exact ⟨_, c, rfl, H.out, Touch.refl _ _⟩
  · have hd : decide (0 ≤ i ∧ i < (ws.length : Int)) = false := decide_eq_false hi
    have HC := Lib.hid (show opC swapF ws i x = ws ∧ opW swapF ws i x = 0 ∧ opE swapF ws i x = 2 from
      ⟨by rw [opC, if_neg (fun hg => hi hg.1)], by rw [opW, if_neg (fun hg => hi hg.1)], by rw [opE, if_neg hi]⟩)
    clear h hi
    go_enter Try.func71, Try.ntmps71
    go_wp2_with (go_at_call 95; go_must (refine (ris_any _ _ _ _ _).mono ?_); rintro e w1 ⟨rfl, rfl⟩; rw [hd])
    go_ret3
    rw [HC.out.1, HC.out.2.1, HC.out.2.2]
    exact ⟨_, c, rfl, H.out, Touch.refl _ _⟩

theorem rraise_any (g x : Nat) (A : Option Addr) (c : Nat) (ws : List Nat) (i : Int) (w : World) (h : Ref w g A c ws) :
    Calls Try.prog 70 #[.slice A ws.length c, .int .i64 i, .int .u64 x] w (RefP w g (opC raiseF ws i x) #[.int .i64 (opE raiseF ws i x)]) := by
  have H := Lib.hid h
  by_cases hi : inR ws i
  · obtain ⟨k, rfl⟩ := Int.eq_ofNat_of_zero_le hi.1
    have hk : k < ws.length := by have := hi.2; omega
    have hd : decide (0 ≤ (k : Int) ∧ (k : Int) < ws.length) = true := decide_eq_true hi
    obtain ⟨a, off, rfl, hal, hck, hvl⟩ := h.at_ hk
    have hl16 := h.2.2.2.1
    by_cases hx : x ≤ 4611686018427387904
    · have hF : raiseF x (ws.getD k 0) = (max x (ws.getD k 0), 0) := by unfold raiseF; rw [if_pos hx]
      have HC := Lib.hid (show opC raiseF ws (k : Int) x = ws.set k (max x (ws.getD k 0)) ∧ opN raiseF ws (k : Int) x = max x (ws.getD k 0) ∧ opE raiseF ws (k : Int) x = 0 from
        ⟨by rw [opC, if_pos ⟨hi, by rw [Int.toNat_natCast, hF]⟩, Int.toNat_natCast, hF], by rw [opN, if_pos ⟨hi, by rw [Int.toNat_natCast, hF]⟩, Int.toNat_natCast, hF], by rw [opE, if_pos hi, Int.toNat_natCast, hF]⟩)
      have hxx : ¬ 4611686018427387904 < (x : Int) := by omega
      by_cases hxv : x ≤ ws.getD k 0
      · have hset : ws.set k (max x (ws.getD k 0)) = ws := by
          rw [Nat.max_eq_right hxv]
          apply List.ext_getElem (by simp)
          intro n h1 h2
          by_cases hnk : k = n
          · subst hnk; simp [List.getD, List.getElem?_eq_getElem hk]
          · rw [List.getElem_set_ne hnk]
        rw [hset] at HC
        have hxv' : (x : Int) ≤ (ws.getD k 0 : Nat) := by omega
        clear h hi hF hset hxv
        generalize ws.getD k 0 = v at *
        go_enter Try.func70, Try.ntmps70
        go_wp2_with (go_at_call 95; go_must (refine (ris_any _ _ _ _ _).mono ?_); rintro e w1 ⟨rfl, rfl⟩; rw [hd])
        go_ret2
        rw [HC.out.1, HC.out.2.2]
        exact ⟨_, c, rfl, H.out, Touch.refl _ _⟩
      · have HWi := Lib.hid (rwith_any g k x (some ⟨a, off, none⟩) c ws w h hk hx)
        rw [Nat.max_eq_left (by omega)] at HC
        have hxv' : ¬ (x : Int) ≤ (ws.getD k 0 : Nat) := by omega
        clear h hi hF hxv
        generalize ws.getD k 0 = v at *
        go_enter Try.func70, Try.ntmps70
        go_wp2_with (first
          | (go_at_call 95; go_must (refine (ris_any _ _ _ _ _).mono ?_); rintro e w1 ⟨rfl, rfl⟩; rw [hd])
          | (go_at_call 96; go_must (refine HWi.out.mono ?_); rintro e w2 ⟨A2, c2, rfl, hf, t2⟩; rw [List.length_set]; have HF := Lib.hid hf; have HT := Lib.hid t2; clear hf t2))
        go_ret2
        rw [HC.out.1, HC.out.2.2]
        exact ⟨A2, c2, by rw [List.length_set]; rfl, HF.out, HT.out⟩
    · have hF : raiseF x (ws.getD k 0) = (ws.getD k 0, 10) := by unfold raiseF; rw [if_neg hx]
      have HC := Lib.hid (show opC raiseF ws (k : Int) x = ws ∧ opN raiseF ws (k : Int) x = 0 ∧ opE raiseF ws (k : Int) x = 10 from
        ⟨by rw [opC, if_neg (fun hg => by have := hg.2; rw [Int.toNat_natCast, hF] at this; exact absurd this (by simp))], by rw [opN, if_neg (fun hg => by have := hg.2; rw [Int.toNat_natCast, hF] at this; exact absurd this (by simp))], by rw [opE, if_pos hi, Int.toNat_natCast, hF]⟩)
      clear h hi hF
      have hxx : 4611686018427387904 < (x : Int) := by omega
      go_enter Try.func70, Try.ntmps70
      go_wp2_with (go_at_call 95; go_must (refine (ris_any _ _ _ _ _).mono ?_); rintro e w1 ⟨rfl, rfl⟩; rw [hd])
      go_ret2
      rw [HC.out.1, HC.out.2.2]
      exact ⟨_, c, rfl, H.out, Touch.refl _ _⟩
  · have hd : decide (0 ≤ i ∧ i < (ws.length : Int)) = false := decide_eq_false hi
    have HC := Lib.hid (show opC raiseF ws i x = ws ∧ opN raiseF ws i x = 0 ∧ opE raiseF ws i x = 2 from
      ⟨by rw [opC, if_neg (fun hg => hi hg.1)], by rw [opN, if_neg (fun hg => hi hg.1)], by rw [opE, if_neg hi]⟩)
    clear h hi
    go_enter Try.func70, Try.ntmps70
    go_wp2_with (go_at_call 95; go_must (refine (ris_any _ _ _ _ _).mono ?_); rintro e w1 ⟨rfl, rfl⟩; rw [hd])
    go_ret2
    rw [HC.out.1, HC.out.2.2]
    exact ⟨_, c, rfl, H.out, Touch.refl _ _⟩
end Go.Proofs.Ytomapfklpoijbaa
