/- Package week: Until, Between. lazy.New; week.New. -/
import Derived.Test.YtlcefchbfjfifaaGreatVCalR
import Derived.Test.YtlcefchbfjfifaaGreatVCalK
section
namespace Go.Proofs.YtlcefchbfjfifaaGreat
open Go.RowKit Cal
set_option maxHeartbeats 4000000
set_option maxRecDepth 100000
set_option linter.unusedVariables false
attribute [local irreducible] wpPlan

theorem PnAt.drew {w : World} {g : Nat} {wk : List Sp} {b : Nat} {G : Nat → Prop} (h : PnAt w g wk b G) : PnAt w.drew g wk b G := h.touch ((Touch.refl (fun _ => False) w).drew) (fun e => e) (fun _ _ e => e)
theorem PnAt.more2 {w w1 w2 : World} {g : Nat} {wk : List Sp} {b : Nat} {G : Nat → Prop} (h : PnAt w2 g wk b (More (More G w w1) w1 w2)) (h1 : w.heap.size ≤ w1.heap.size) (h2 : w1.heap.size ≤ w2.heap.size) (hb : ¬ G b) (hbl : b < w.heap.size) : PnAt w2 g wk b (More G w w2) :=
  h.grow (more_trans h1 h2) (fun e => by rcases e with e | e; exact hb e; omega)
theorem until_any (g : Nat) (wk : List Sp) (b : Nat) (G : Nat → Prop) (x : Int) (w : World) (h : PnAt w g wk b G) (h0 : 0 ≤ x) (h1 : x ≤ 2251799813685248) :
    Calls Tryz.prog 77 #[.pointer (some ⟨g, 0, none⟩), .int .i64 x] w (PnInt g wk b G (U wk x) w) := by
  obtain ⟨A, k, hp⟩ := h.pl
  have HN := Lib.hid (wnone_any g wk A k b G w hp)
  have HA := Lib.hid (at_any g wk A k b G (x % 604800) w hp h.wk)
  have hgl := hp.blk.lt
  have hgb : g ≠ b := fun e => h.nb (e ▸ h.gG)
  have hbl := h.lz.lt
  have HGb := Lib.hid h.nb
  have HT := Lib.hid (fun w1 G (hh : PnAt w1 g wk b G) => total_any g wk b G w1 hh)
  have HG := Lib.hid (fun w1 G (hh : PnAt w1 g wk b G) => get_any g wk b G w1 hh)
  have HH := Lib.hid h
  have HS := Lib.hid (sums_bd h.wk)
  have HW := Lib.hid (fun i hi => AtP.within wk 0 (x % 604800) i h.wk.1 (by omega) hi)
  have HV := Lib.hid (show U wk x = x / 604800 * len wk + within wk 0 (x % 604800) from rfl)
  have HGe := Lib.hid (fun (i : Nat) (s : Sp) (h1 : wk[i]? = some s) => Row.getE h.wk.1 h1)
  have hwl := h.wk.2.1
  obtain ⟨u0, u1, -, -⟩ := U_parts h.wk h0
  have hlb := h.wk.len_bd
  generalize U wk x = v at *
  generalize len wk = y at *
  generalize hq : x / 604800 * y = q at *
  have HQ := Lib.hid hq
  clear h hp hq
  have hx604 : 0 ≤ x % 604800 ∧ x % 604800 < 604800 := by omega
  have hxq : 0 ≤ x / 604800 := by omega
  have hmx : max x 0 = x := Int.max_eq_left h0
  have hmn : min x 2251799813685248 = x := Int.min_eq_left h1
  go_enter Tryz.func77, Tryz.ntmps77
  go_wp2_with (first
    | (go_at_call 102; go_must (refine HN.out.mono ?_); rintro e w0 ⟨rfl, rfl⟩)
    | (go_at_call 108; go_must (refine HA.out.mono ?_); rintro e w1 ⟨i, hi, rfl, t1⟩; have HWi := Lib.hid (HW.out i hi); have hil := hi.1; have HT1 := Lib.hid t1; clear hi t1))
  clear HA HN HW
  have HP1 := Lib.hid (HH.out.more HT1.out (fun e => e) (fun _ _ e => e))
  have hs1 := HT1.out.size
  obtain ⟨A1, k1, hp1⟩ := HP1.out.pl
  have q1 := hp1.blk.cell 1
  simp at q1
  have hgl1 := hp1.blk.lt
  clear hp1
  have hsb := HS.out i
  have hwm : IntKind.i64.wrap (x / 604800 * y) = q := by rw [HQ.out]; exact IntWalk.i64_in _ (by omega)
  have hwa : IntKind.i64.wrap (q + longS (wk.take i)) = q + longS (wk.take i) := IntWalk.i64_in _ (by omega)
  refine wp_region_plan [(0, 1), (1, 0), (1, 4), (1, 5), (1, 6), (1, 7), (1, 9), (2, 2), (1, 3), (2, 8), (0, 10), (0, 11), (0, 12), (0, 13)] (fun q => q = b) (by kernel_rfl) (by kernel_rfl) (fun c a d v w h => by cases d <;> exact h) ?_
  iterate 1
    refine plan_s1 rfl (by rfl) (fun Kc hKc => ?_)
    go_simp
    first
      | (refine hKc _ ?_)
    clear hKc Kc
  iterate 6
    first
      | (apply plan_h
         · rfl
         · rfl
         · intro wh hT
           have hf0 := (hT.cell (p := ⟨g, 1, none⟩) hgl1 hgb).trans q1
           go_simp
           try rfl
         go_frame)
      | (refine plan_hn rfl (by rfl) ?_; go_frame)
  refine plan_a1 rfl (by rfl) (fun Kc hKc => ?_)
  go_simp
  refine (HT.out _ _ (by exact HP1.out.drew)).mono ?_
  rintro e w2 ⟨rfl, p2, t2⟩
  refine hKc _ _ ⟨t2, ?_⟩
  clear hKc Kc
  have HP2 := Lib.hid p2
  have HT2 := Lib.hid t2
  clear p2 t2
  iterate 1
    first
      | (apply plan_h
         · rfl
         · rfl
         · intro wh hT
           go_simp
           try rfl
         go_frame)
      | (refine plan_hn rfl (by rfl) ?_; go_frame)
  refine plan_a1 rfl (by rfl) (fun Kc hKc => ?_)
  go_simp
  refine (HG.out _ _ (by exact HP2.out)).mono ?_
  rintro e w3 ⟨A3, c3, rfl, r3, p3, t3⟩
  refine hKc _ _ ⟨t3, ?_⟩
  clear hKc Kc
  obtain ⟨g3, o3, rfl, -, hx3⟩ := r3.sum hil
  have HP3 := Lib.hid p3
  have HT3 := Lib.hid t3
  clear r3 p3 t3
  have hlt : (i : Int) < (wk.length : Int) + 1 := by omega
  have hl0 : (0 : Int) ≤ (i : Int) := by omega
  iterate 4
    refine plan_s1 rfl (by rfl) (fun Kc hKc => ?_)
    go_simp
    first
      | (refine hKc _ ?_)
    clear hKc Kc
  refine plan_done ?_
  clear hlt hwm hwa
  have s2 := HT2.out.size
  have s3 := HT3.out.size
  have s1' : w1.heap.size ≤ w2.heap.size := s2
  have HPe := Lib.hid ((HP3.out.more2 (w := w1) s1' s3 HP1.out.nb HP1.out.lz.lt).more2 hs1 (Nat.le_trans s1' s3) HGb.out hbl)
  have HTe := Lib.hid (((HT1.out.mono (S' := fun q => q = b) (fun _ _ e => e.elim)).drew.trans HT2.out (fun _ _ e => e)).trans HT3.out (fun _ _ e => e))
  obtain ⟨A4, k4, hp4⟩ := HPe.out.pl
  have r0 := hp4.blk.cell 0
  simp at r0
  have hrow := hp4.row
  clear hp4
  rcases hrow.at_or i with ⟨g4, o4, f, t, rfl, ha, hl, hc0, hc1⟩ | ⟨hl, ha⟩
  · have hv := HWi.out
    have hge := HGe.out i _ ha
    rw [ha] at hv
    simp only at hv hge
    have HVv := Lib.hid (show v = q + longS (wk.take i) + max (x % 604800 - f) 0 by rw [HV.out, hv]; omega)
    clear ha hv hrow
    generalize longS (wk.take i) = z at *
    by_cases hf : f ≤ x % 604800
    · have hm : max (x % 604800 - f) 0 = x % 604800 - f := Int.max_eq_left (by omega)
      go_wp2
      go_ret
      exact ⟨ret_int (by rw [HVv.out, hm]), HPe.out, HTe.out⟩
    · have hm : max (x % 604800 - f) 0 = 0 := Int.max_eq_right (by omega)
      go_wp2
      go_ret
      exact ⟨ret_int (by rw [HVv.out, hm]; simp), HPe.out, HTe.out⟩
  · have hv := HWi.out
    rw [ha] at hv
    have HVv := Lib.hid (show v = q + longS (wk.take i) by rw [HV.out, hv]; simp)
    clear ha hv hrow
    generalize longS (wk.take i) = z at *
    go_wp2
    go_ret
    exact ⟨ret_int HVv.out.symm, HPe.out, HTe.out⟩
theorem between_any (g : Nat) (wk : List Sp) (b : Nat) (G : Nat → Prop) (x y : Int) (w : World) (h : PnAt w g wk b G) (h0 : 0 ≤ x) (h1 : x ≤ 2251799813685248) (h2 : 0 ≤ y) (h3 : y ≤ 2251799813685248) :
    Calls Tryz.prog 106 #[.pointer (some ⟨g, 0, none⟩), .int .i64 x, .int .i64 y] w (PnInt g wk b G (max (U wk y - U wk x) 0) w) := by
  have HY := Lib.hid (until_any g wk b G y w h h2 h3)
  have HX := Lib.hid (fun w1 G (hh : PnAt w1 g wk b G) => until_any g wk b G x w1 hh h0 h1)
  have hbl := h.lz.lt
  have HGb := Lib.hid h.nb
  have hx := U_bd h.wk h0
  have hy := U_bd h.wk h2
  generalize U wk x = p at *
  generalize U wk y = q at *
  have hmf : ∀ (fn : Fn) (first cap : Array Value) (w : World), (Instr.makeFunc fn first cap).run Tryz.prog w = .ok (.func fn first cap) w := fun _ _ _ _ => rfl
  clear h
  go_enter Tryz.func106, Tryz.ntmps106
  go_wp2_with (first
    | (go_at_call 77; have M9 := HP1; go_must (refine (HX.out _ _ (by exact HP1.out)).mono ?_); rintro e w2 ⟨rfl, p2, t2⟩; have HP2 := Lib.hid p2; have HT2 := Lib.hid t2; clear p2 t2)
    | (go_at_call 77; go_must (refine HY.out.mono ?_); rintro e w1 ⟨rfl, p1, t1⟩; have HP1 := Lib.hid p1; have HT1 := Lib.hid t1; clear p1 t1))
  go_ret
  exact ⟨rfl, HP2.out.more2 HT1.out.size HT2.out.size HGb.out hbl, HT1.out.trans HT2.out (fun _ _ e => e)⟩
end Go.Proofs.YtlcefchbfjfifaaGreat
end

section
namespace Go.Proofs.YtlcefchbfjfifaaGreat
open Go.RowKit Cal
set_option maxHeartbeats 4000000
set_option maxRecDepth 100000
set_option linter.unusedVariables false
attribute [local irreducible] wpPlan

theorem lnew_any (g : Nat) (w : World) :
    Calls Tryz.prog 112 #[.func (.func 113) #[.pointer (some ⟨g, 0, none⟩)] #[]] w fun e w' => e = .returned (.pointer (some ⟨w.heap.size, 0, none⟩)) ∧ w' = w.alloc (.cells #[.int .u32 0, .int .i32 0, .int .u32 0, .int .u32 0, .int .i64 0, .func (.func 113) #[.pointer (some ⟨g, 0, none⟩)] #[], .slice none 0 0] 217) := by
  go_enter Tryz.func112, Tryz.ntmps112
  go_wp2
  go_ret
  exact ⟨rfl, rfl⟩
theorem over_last {l : List Sp} {e : Int} (h : Row e l) {s : Sp} (hs : l[l.length - 1]? = some s) : overB l = decide (604800 < s.t) := by
  have key : ∀ (l : List Sp), overB l = true ↔ ∃ x ∈ l, 604800 < x.t := by
    intro l
    induction l with
    | nil => simp [overB]
    | cons x l ih => simp [overB, ih]
  rw [Bool.eq_iff_iff, key, decide_eq_true_iff]
  constructor
  · rintro ⟨x, hx, hxt⟩
    obtain ⟨i, hi⟩ := List.mem_iff_getElem?.1 hx
    have hil := (List.getElem?_eq_some_iff.1 hi).1
    rcases Nat.lt_or_ge i (l.length - 1) with hlt | hge
    · have := Row.sorted h hi hs hlt
      have := Row.getE h hs
      omega
    · have : i = l.length - 1 := by omega
      subst this
      rw [hi] at hs; injection hs with hs; subst hs; exact hxt
  · intro hst
    exact ⟨s, List.mem_of_getElem? hs, hst⟩
def NewPn (w : World) (wk : List Sp) (e : Ending) (w' : World) : Prop :=
  ∃ g b, e = .returned (.tuple #[.pointer (some ⟨g, 0, none⟩), .int .i64 0]) ∧ PnAt w' g wk b (fun k => w.heap.size ≤ k ∧ k < w'.heap.size ∧ k ≠ b) ∧ w.heap.size ≤ b ∧ b < w'.heap.size ∧ w.heap.size ≤ g ∧ Touch (fun _ => False) w w'
theorem wnew_bad (F : Nat → Prop) (A : Option Addr) (c : Nat) (l : List Sp) (w : World) (h : SpR w F A l.length l) (hn : l.length ≤ 1000000) (hr : weekE l ≠ 0) :
    Calls Tryz.prog 84 #[.slice A l.length c] w fun e w' => e = .returned (.tuple #[.pointer none, .int .i64 (weekE l)]) ∧ Touch (fun _ => False) w w' := by
  have HF := Lib.hid (row_any F A c l w h hn)
  have HR := Lib.hid h
  by_cases h1 : rowE l = 0
  · rw [h1] at HF
    have ho : overB l = true := by
      unfold weekE at hr
      rw [if_neg (by simp [h1])] at hr
      cases hh : overB l
      · rw [hh] at hr; simp at hr
      · rfl
    have HV := Lib.hid (show weekE l = 2 by unfold weekE; rw [if_neg (by simp [h1]), ho]; rfl)
    have hne : l.length ≠ 0 := by
      intro e
      rw [List.eq_nil_of_length_eq_zero e] at ho
      simp [overB] at ho
    have ha : l[l.length - 1]? = some (l[l.length - 1]'(by omega)) := List.getElem?_eq_getElem _
    have hlast := over_last (rowE_row h1).1 ha
    rw [ho] at hlast
    have ht := of_decide_eq_true hlast.symm
    have HA := Lib.hid ha
    generalize l[l.length - 1]'(by omega) = s at *
    obtain ⟨f, t⟩ := s
    simp only at ht
    have hpos : 0 < l.length := by omega
    have hpos' : (0 : Int) < (l.length : Int) := by omega
    have hjl : l.length - 1 < l.length := by omega
    have hwj : ((l.length : Int) - 1).toNat = l.length - 1 := by omega
    clear h h1 ho ha hlast hr hne
    go_enter Tryz.func84, Tryz.ntmps84
    go_wp2_with (go_at_call 111; go_must (refine HF.out.mono ?_); rintro e w0 ⟨rfl, t0⟩; have HT0 := Lib.hid t0; obtain ⟨g, off, rfl, hg, -, hc0, hc1⟩ := (HR.out.touch t0 (fun _ _ e => e)).at_ HA.out; simp only at hc0 hc1; clear t0)
    go_ret2
    exact ⟨by rw [HV.out]; rfl, HT0.out⟩
  · have HV := Lib.hid (show weekE l = rowE l by unfold weekE; rw [if_pos h1])
    have hb : (rowE l != 0) = true := by simpa using h1
    generalize rowE l = v at *
    clear h h1
    go_enter Tryz.func84, Tryz.ntmps84
    go_wp2_with (go_at_call 111; go_must (refine HF.out.mono ?_); rintro e w0 ⟨rfl, t0⟩; have HT0 := Lib.hid t0; clear t0)
    go_ret2
    exact ⟨by rw [HV.out]; rfl, HT0.out⟩
theorem wnew_yes (F : Nat → Prop) (A : Option Addr) (c : Nat) (l : List Sp) (w : World) (h : SpR w F A l.length l) (hr : weekE l = 0) :
    Calls Tryz.prog 84 #[.slice A l.length c] w (NewPn w l) := by
  obtain ⟨hw, hrow⟩ := weekE_week hr
  have hlen := hw.2.1
  have HF := Lib.hid (row_any F A c l w h (by omega))
  rw [hrow] at HF
  have HC := Lib.hid (fun w1 h => sclone_any F A c l w1 h (by omega))
  have HR := Lib.hid h
  have HW := Lib.hid hw
  have hmf : ∀ (fn : Fn) (first cap : Array Value) (w : World), (Instr.makeFunc fn first cap).run Tryz.prog w = .ok (.func fn first cap) w := fun _ _ _ _ => rfl
  have HX := Lib.hid (show ∀ s, l[l.length - 1]? = some s → s.t ≤ 604800 from fun s hs => hw.2.2 s (List.mem_of_getElem? hs))
  have fin : ∀ {w0 w1 : World} {A1 : Option Addr} {c1 : Nat}, Touch (fun _ => False) w w0 → SpR w1 (fun k => w0.heap.size ≤ k) A1 l.length l → Touch (fun _ => False) w0 w1 →
      NewPn w l (.returned (.tuple #[.pointer (some ⟨w1.heap.size, 0, none⟩), .int .i64 0])) (((w1.alloc (.cells #[.slice A1 l.length c1, .pointer (some ⟨w1.heap.size + 1, 0, none⟩)] 194)).alloc (.cells #[.int .u32 0, .int .i32 0, .int .u32 0, .int .u32 0, .int .i64 0, .func (.func 113) #[.pointer (some ⟨w1.heap.size, 0, none⟩)] #[], .slice none 0 0] 217))) := by
    intro w0 w1 A1 c1 h0 hs h1
    have s0 := h0.size
    have s1 := h1.size
    have ta := (((Touch.refl (fun _ => False) w1).alloc (.cells #[.slice A1 l.length c1, .pointer (some ⟨w1.heap.size + 1, 0, none⟩)] 194)).alloc (.cells #[.int .u32 0, .int .i32 0, .int .u32 0, .int .u32 0, .int .i64 0, .func (.func 113) #[.pointer (some ⟨w1.heap.size, 0, none⟩)] #[], .slice none 0 0] 217))
    refine ⟨w1.heap.size, w1.heap.size + 1, rfl, ⟨⟨A1, c1, ?_, ?_⟩, .inl ⟨0, 0, ?_⟩, ?_, ?_, hw⟩, by omega, by simp, by omega, (h0.trans h1 (fun _ _ e => e)).trans ta (fun _ _ e => e)⟩
    · exact (Blk.new w1 _ _).alloc _
    · exact (hs.near.touch ta (fun _ _ e => e)).mono (fun k hk => ⟨by have := hk.1; omega, by have := hk.2; simp; omega, by have := hk.2; omega⟩)
    · simpa [lzC, sumsF] using Blk.new (w1.alloc (.cells #[.slice A1 l.length c1, .pointer (some ⟨w1.heap.size + 1, 0, none⟩)] 194)) 217 #[.int .u32 0, .int .i32 0, .int .u32 0, .int .u32 0, .int .i64 0, .func (.func 113) #[.pointer (some ⟨w1.heap.size, 0, none⟩)] #[], .slice none 0 0]
    · exact ⟨by omega, by simp; omega, by omega⟩
    · exact fun e => e.2.2 rfl
  have Fin := Lib.hid (fun w0 w1 A1 c1 => fin (w0 := w0) (w1 := w1) (A1 := A1) (c1 := c1))
  clear h hr hw hrow fin
  by_cases hl0 : 0 < l.length
  · have hpos' : (0 : Int) < (l.length : Int) := by omega
    have ha : l[l.length - 1]? = some (l[l.length - 1]'(by omega)) := List.getElem?_eq_getElem _
    have ht := HX.out _ ha
    have HA := Lib.hid ha
    have hjl : l.length - 1 < l.length := by omega
    have hwj : ((l.length : Int) - 1).toNat = l.length - 1 := by omega
    generalize l[l.length - 1]'(by omega) = s at *
    obtain ⟨f, t⟩ := s
    simp only at ht
    clear ha
    go_enter Tryz.func84, Tryz.ntmps84
    go_wp2_with (first
      | (go_at_call 111; go_must (refine HF.out.mono ?_); rintro e w0 ⟨rfl, t0⟩; have HT0 := Lib.hid t0; obtain ⟨g, off, rfl, hg, -, hc0, hc1⟩ := (HR.out.touch t0 (fun _ _ e => e)).at_ HA.out; simp only at hc0 hc1; clear t0)
      | (go_at_call 83; go_must (refine (HC.out _ (by exact HR.out.touch HT0.out (fun _ _ e => e))).mono ?_); rintro e w1 ⟨A1, c1, rfl, -, -, -, h4, h5⟩; have HQ := Lib.hid (And.intro h4 h5); clear h4 h5)
      | (go_at_call 112; go_must (refine (lnew_any _ _).mono ?_); rintro e w2 ⟨rfl, rfl⟩))
    go_ret2
    exact Fin.out _ _ _ _ HT0.out HQ.out.1 HQ.out.2
  · have hpos' : ¬ (0 : Int) < (l.length : Int) := by omega
    clear HX
    go_enter Tryz.func84, Tryz.ntmps84
    go_wp2_with (first
      | (go_at_call 111; go_must (refine HF.out.mono ?_); rintro e w0 ⟨rfl, t0⟩; have HT0 := Lib.hid t0; clear t0)
      | (go_at_call 83; go_must (refine (HC.out _ (by exact HR.out.touch HT0.out (fun _ _ e => e))).mono ?_); rintro e w1 ⟨A1, c1, rfl, -, -, -, h4, h5⟩; have HQ := Lib.hid (And.intro h4 h5); clear h4 h5)
      | (go_at_call 112; go_must (refine (lnew_any _ _).mono ?_); rintro e w2 ⟨rfl, rfl⟩))
    go_ret2
    exact Fin.out _ _ _ _ HT0.out HQ.out.1 HQ.out.2
end Go.Proofs.YtlcefchbfjfifaaGreat
end
