/- The law of disks: Light, lives. -/
import Derived.Test.YtpgakkpmpnebnaaVDlA
import Derived.Test.YtpgakkpmpnebnaaDkX
import Derived.Lib.SlBytesConst
namespace Go.Proofs.Ytpgakkpmpnebnaa
open Go.RowKit Go.Maps
set_option maxHeartbeats 4000000
set_option maxRecDepth 100000
set_option linter.unusedVariables false
attribute [local irreducible] wpPlan

theorem op23_len (o : Op23) : o.cells.length = 6 := rfl
theorem op23_one (o : Op23) : ∀ u ∈ o.cells, u.oneCell' = true := by intro u hu; simp [Op23.cells] at hu; rcases hu with rfl | rfl | rfl | rfl | rfl | rfl <;> rfl
instance (o : Op23) : Decidable o.lt := by unfold Op23.lt; exact inferInstance
def light23 (l : List Op23) : Bool := l.all (fun o => decide o.lt) && decide (l.length ≤ 200)
theorem light23_any (F : Nat → Prop) (A : Option Addr) (c : Nat) (l : List Op23) (w : World) (hr : RdZ w F 6 A l.length (l.flatMap Op23.cells)) (hsm : l.length ≤ 9223372036854775807) :
    Calls Try.prog 30 #[.slice A l.length c] w fun e w' => e = .returned (.bool (light23 l)) ∧ Touch (fun _ => False) w w' := by
  have HR := Lib.hid hr
  obtain ⟨v, hv⟩ : ∃ v, v = light23 l := ⟨_, rfl⟩
  rw [← hv]
  have HV := Lib.hid hv
  clear hr hv
  go_enter Try.func30, Try.ntmps30
  go_wp2_with fail
  go_loopw [7] (fun i wr => ∃ j : Nat, j ≤ l.length ∧ i = .int .i64 j ∧ (l.take j).all (fun o => decide o.lt) = true ∧ Touch (fun _ => False) w wr) (fun i _ => l.length - (intOf i).toNat)
  case atStart => exact ⟨0, by omega, rfl, by simp, Touch.refl _ _⟩
  case round =>
    obtain ⟨j, hj, rfl, hA, hT⟩ := hrel
    have HA := Lib.hid hA
    have HT := Lib.hid hT
    clear hA
    by_cases hjk : j < l.length
    · have ha : l[j]? = some (l[j]'hjk) := List.getElem?_eq_getElem _
      obtain ⟨a, off, rfl, -, -, hc⟩ := (HR.out.touch hT (fun _ _ e => e)).at_ (fun a _ => op23_len a) rfl ha
      have HX := Lib.hid (show (l.take (j + 1)).all (fun o => decide o.lt) = ((l.take j).all (fun o => decide o.lt) && decide (l[j]'hjk).lt) by
        rw [List.take_succ_eq_append_getElem hjk, List.all_append]; simp)
      have HXm := Lib.hid (List.getElem_mem hjk)
      generalize l[j]'hjk = o at *
      have q0 := hc 0 _ rfl; have q1 := hc 1 _ rfl; have q2 := hc 2 _ rfl; have q3 := hc 3 _ rfl; have q4 := hc 4 _ rfl; have q5 := hc 5 _ rfl; skip
      simp only [Nat.add_zero, ← Nat.add_assoc] at q0 q1 q2 q3 q4 q5
      clear hc ha hT
      have HTA := Lib.hid ((Touch.refl (fun _ => False) wr).alloc (.cells o.cells.toArray 71))
      have hz1 := stSize o.tx
      have hz2 := stSize o.nm
      have hz3 := stSize o.to_
      by_cases hle : o.lt
      · have HE := Lib.hid (show (l.take (j + 1)).all (fun o => decide o.lt) = true by rw [HX.out, HA.out, decide_eq_true hle]; rfl)
        obtain ⟨h1, h2, h3, h4⟩ := hle
        have k1 : ¬ (2000 : Int) < o.tx.length := by omega
        have k2 : ¬ (100 : Int) < o.nm.length := by omega
        have k3 : ¬ (100 : Int) < o.to_.length := by omega
        have k4 : ¬ (40 : Int) < o.ts.length := by omega
        clear h1 h2 h3 h4
        go_wp2_with fail
        go_roundw
        case rel => exact ⟨j + 1, by omega, by go_num, HE.out, HT.out.trans HTA.out (fun _ _ e => e)⟩
        case measure => simp [intOf]; omega
      · have HE := Lib.hid (show v = false by
          rw [HV.out, light23, Bool.and_eq_false_iff]; left
          rw [List.all_eq_false]
          exact ⟨o, HXm.out, by simp [hle]⟩)
        unfold Op23.lt at hle
        by_cases h1 : o.tx.length ≤ 2000
        · have k1 : ¬ (2000 : Int) < o.tx.length := by omega
          by_cases h2 : o.nm.length ≤ 100
          · have k2 : ¬ (100 : Int) < o.nm.length := by omega
            by_cases h3 : o.to_.length ≤ 100
            · have k3 : ¬ (100 : Int) < o.to_.length := by omega
              have k4 : (40 : Int) < o.ts.length := by
                have : ¬ o.ts.length ≤ 40 := fun h4 => hle ⟨h1, h2, h3, h4⟩
                omega
              clear h1 h2 h3 hle
              go_wp2_with fail
              go_ret
              exact ⟨by rw [HE.out]; rfl, HT.out.trans HTA.out (fun _ _ e => e)⟩
            · have k3 : (100 : Int) < o.to_.length := by omega
              clear h1 h2 h3 hle
              go_wp2_with fail
              go_ret
              exact ⟨by rw [HE.out]; rfl, HT.out.trans HTA.out (fun _ _ e => e)⟩
          · have k2 : (100 : Int) < o.nm.length := by omega
            clear h1 h2 hle
            go_wp2_with fail
            go_ret
            exact ⟨by rw [HE.out]; rfl, HT.out.trans HTA.out (fun _ _ e => e)⟩
        · have k1 : (2000 : Int) < o.tx.length := by omega
          clear h1 hle
          go_wp2_with fail
          go_ret
          exact ⟨by rw [HE.out]; rfl, HT.out.trans HTA.out (fun _ _ e => e)⟩
    · obtain rfl : j = l.length := by omega
      have HE := Lib.hid (show v = decide (l.length ≤ 200) by
        have := HA.out
        rw [List.take_length] at this
        rw [HV.out, light23, this, Bool.true_and])
      go_wp2
      go_ret
      refine ⟨ret_bool ?_, hT⟩
      rw [HE.out]
      simp; omega
def LvP (g b m : Nat) (D' : Dk) (F : Nat → Prop) (w : World) (e : Ending) (w' : World) : Prop :=
  e = .returned (.int .i64 0) ∧ ∃ F', DkAt w' g b m D' F' ∧ Touch (fun q => q = g ∨ q = b ∨ q = m) w w'
theorem lv_append {w : World} {g b m : Nat} {D : Dk} {F : Nat → Prop} (h : DkAt w g b m D F) (bs : List UInt8) (cs : Array Value) (fr : Nat × Nat) (n : Nat) (hcs : cs = (bs.map B8).toArray) (hn : bs.length = n) (hb : n ≤ 1000) (hst : D.steps ≤ 1000000) {D' : Dk} (hD : D.append [97] bs = (D', 0)) :
    Calls Try.prog 45 #[.pointer (some ⟨g, 0, none⟩), .string ⟨#[97]⟩, .slice (some ⟨w.heap.size, 0, none⟩) n n] (w.alloc (.cells cs 5 fr)) (LvP g b m D' F w) := by
  subst hn
  have ta := (Touch.refl (fun _ => False) w).alloc (.cells cs 5 fr)
  have := dappend_any (G := fun q => q = w.heap.size) (bc := bs.length) (h.far ta) [97] (by simp) hst bs (B := some ⟨w.heap.size, 0, none⟩) ⟨by rw [List.length_map], fun _ => ⟨_, 0, rfl, by simp, rfl, fun j u hj => by
    have hc := cell_of_row (w.alloc (.cells cs 5 fr)) w.heap.size j cs 5 fr (heap_alloc_new w _)
    rw [Nat.zero_add]
    refine hc.trans ?_
    rw [hcs]; simpa using hj⟩⟩ (fun q hq => by have h2 : (w.alloc (.cells cs 5 fr)).heap.size = w.heap.size + 1 := (by simp); omega) (by omega)
  refine this.mono fun e w' h => ?_
  rw [hD] at h
  obtain ⟨e1, F', h1, -, t⟩ := h
  exact ⟨e1, F', h1, (ta.mono (S' := fun q => q = g ∨ q = b ∨ q = m) (fun _ _ e => e.elim)).trans t (fun _ _ e => e)⟩
theorem lv_sync {w : World} {g b m : Nat} {D : Dk} {F : Nat → Prop} (h : DkAt w g b m D F) (hst : D.steps ≤ 1000000) {D' : Dk} (hD : D.sync [97] = (D', 0)) :
    Calls Try.prog 46 #[.pointer (some ⟨g, 0, none⟩), .string ⟨#[97]⟩] w (LvP g b m D' F w) := by
  refine (dsync_any h [97] (by simp) hst).mono fun e w' h => ?_
  rw [hD] at h
  obtain ⟨e1, F', h1, -, t⟩ := h
  exact ⟨e1, F', h1, t⟩
theorem lv_crash {w : World} {g b m : Nat} {D : Dk} {F : Nat → Prop} (h : DkAt w g b m D F) {D' : Dk} (hD : D.crash [⟨1, 0⟩] = D') :
    Calls Try.prog 43 #[.pointer (some ⟨g, 0, none⟩), .slice (some ⟨w.heap.size, 0, none⟩) 1 1] (w.alloc (.cells #[.int .u16 1, .int .u32 0] 132)) (LvP g b m D' F w) := by
  have hl := h.lt
  have ta := (Touch.refl (fun _ => False) w).alloc (.cells #[.int .u16 1, .int .u32 0] 132)
  have := dcrash_any (G := fun q => q = w.heap.size) (TA := some ⟨w.heap.size, 0, none⟩) (tc := 1) (h.far ta) [⟨1, 0⟩] ⟨rfl, ⟨rfl, fun _ => ⟨_, 0, rfl, by simp, rfl, fun j u hj => by
    rw [Nat.zero_add, (Blk.new w 132 _).cell]; simpa [trC] using hj⟩⟩⟩ (fun q hq => ⟨by have h2 : (w.alloc (.cells #[.int .u16 1, .int .u32 0] 132)).heap.size = w.heap.size + 1 := (by simp); omega, by omega, by omega, by omega⟩) ⟨Nat.le_refl _, by unfold maxLen; omega⟩ (fun t ht => by rcases List.mem_singleton.1 ht with rfl; decide)
  refine this.mono fun e w' h => ?_
  rw [hD] at h
  obtain ⟨e1, F', h1, -, t⟩ := h
  exact ⟨e1, F', h1, (ta.mono (S' := fun q => q = g ∨ q = b ∨ q = m) (fun _ _ e => e.elim)).trans t (fun _ _ e => e)⟩
theorem lv_boot {w : World} {g b m : Nat} {D : Dk} {F : Nat → Prop} (h : DkAt w g b m D F) {D' : Dk} (hD : D.boot = D') :
    Calls Try.prog 51 #[.pointer (some ⟨g, 0, none⟩)] w (LvP g b m D' F w) := by
  refine (dboot_any h).mono fun e w' h => ?_
  rw [hD] at h
  obtain ⟨e1, F', h1, -, t⟩ := h
  exact ⟨e1, F', h1, t⟩
theorem lives23_any (w : World) : Calls Try.prog 32 #[] w fun e w' => e = .returned (.bool true) ∧ Touch (fun _ => False) w w' := by
  have kc := fun (w : World) (C : Array Value) (n c : Nat) => Lib.run_convert_bytes_const (P := Try.prog) w 88 5 C n c Try.underlying88 Try.underlying5
  go_enter Try.func32, Try.ntmps32
  go_wp2_with (first
    | (go_at_call 31
       go_must (refine (dnew_yes 100 (by omega) w).mono ?_)
       rintro e w1 ⟨g, b, m, rfl, hd, hg, hb, hm, t1⟩
       have HD1 := Lib.hid (show DkAt w1 g b m lv0 (fun _ => False) from hd)
       have HT1 := Lib.hid t1
       clear hd t1)
    | (go_at_call 45
       have M9 := HD3
       go_must (refine (lv_append HD3.out [117, 118] _ _ 2 (by rfl) rfl (by omega) (by decide) lv_23).mono ?_)
       rintro e w4 ⟨rfl, F4, hd, t4⟩
       have HD4 := Lib.hid hd
       have HT4 := Lib.hid (HT3.out.trans t4 (fun q hq e => by omega))
       clear hd t4)
    | (go_at_call 45
       go_must (refine (lv_append HD1.out [120, 121, 122] _ _ 3 (by rfl) rfl (by omega) (by decide) lv_01).mono ?_)
       rintro e w2 ⟨rfl, F2, hd, t2⟩
       have HD2 := Lib.hid hd
       have HT2 := Lib.hid (HT1.out.trans t2 (fun q hq e => by omega))
       clear hd t2)
    | (go_at_call 46
       go_must (refine (lv_sync HD2.out (by decide) lv_12).mono ?_)
       rintro e w3 ⟨rfl, F3, hd, t3⟩
       have HD3 := Lib.hid hd
       have HT3 := Lib.hid (HT2.out.trans t3 (fun q hq e => by omega))
       clear hd t3)
    | (go_at_call 43
       go_must (refine (lv_crash HD4.out lv_34).mono ?_)
       rintro e w5 ⟨rfl, F5, hd, t5⟩
       have HD5 := Lib.hid hd
       have HT5 := Lib.hid (HT4.out.trans t5 (fun q hq e => by omega))
       clear hd t5)
    | (go_at_call 51
       go_must (refine (lv_boot HD5.out lv_45).mono ?_)
       rintro e w6 ⟨rfl, F6, hd, t6⟩
       have HD6 := Lib.hid hd
       have HT6 := Lib.hid (HT5.out.trans t6 (fun q hq e => by omega))
       clear hd t6)
    | (go_at_call 52
       go_must (refine (dread_any HD6.out [97] (by simp)).mono ?_)
       rintro e w7 ⟨A7, c7, he, hb7, t7⟩
       rw [lv_read] at he hb7
       subst he
       have hcv : (convert 88 9 (.slice A7 4 c7)).run Try.prog w7 = .ok (.string ⟨#[120, 121, 122, 117]⟩) w7 := hb7.1.str c7
       have HD7 := Lib.hid (HD6.out.far t7)
       have HT7 := Lib.hid (HT6.out.trans t7 (fun q hq e => e))
       clear hb7 t7)
    | (go_at_call 37
       go_must (refine (dfree_any HD7.out).mono ?_)
       rintro e w8 ⟨he, t8⟩
       rw [lv_free] at he
       subst he
       have HD8 := Lib.hid (HD7.out.far t8)
       have HT8 := Lib.hid (HT7.out.trans t8 (fun q hq e => e))
       clear t8)
    | (go_at_call 39
       go_must (refine (dsteps_any HD8.out).mono ?_)
       rintro e w9 ⟨rfl, rfl⟩
       rw [show lv5.steps = 3 from rfl]))
  go_ret
  exact ⟨rfl, HT8.out⟩
end Go.Proofs.Ytpgakkpmpnebnaa
