/- almanac.Lost at a clock's weekly; calendar.Elapsed, Rest. -/
import Derived.Test.YtcblbjhhlnmkjaaGreatCalW
import Derived.Test.YtcblbjhhlnmkjaaGreatCalF
namespace Go.Proofs.YtcblbjhhlnmkjaaGreat
open Go.RowKit Cal
set_option maxHeartbeats 4000000
set_option maxRecDepth 100000
set_option linter.unusedVariables false
attribute [local irreducible] wpPlan

theorem lost_any (k a p b : Nat) (c : Ca) (G : Nat → Prop) (x y : Int) (w : World) (h : CkAt w k a p b c G) :
    Calls Tryz.prog 50 #[.pointer (some ⟨a, 0, none⟩), .int .i64 x, .int .i64 y, .func (.func 49) #[.pointer (some ⟨k, 0, none⟩)] #[]] w (CkV k a p b c G (.int .i64 (c.lost (cutL c.cl x y))) w) := by
  obtain ⟨B, m, hal⟩ := h.al
  have HA := Lib.hid (all_any a c.cl B m G w hal)
  have HCut := Lib.hid (cut_any G B m c.cl x y w hal.row h.ok.rowc)
  have HW := Lib.hid (fun (s : Sp) (hs : 0 ≤ s.f ∧ s.f < s.t ∧ s.t ≤ 1125899906842624) w1 G (hh : CkAt w1 k a p b c G) => cweekly_any k a p b c G s.f s.t w1 hh hs.1 (by omega) (by omega) hs.2.2)
  have hLl : (cutL c.cl x y).length ≤ 32 := Nat.le_trans (cutL_len _ _ _) h.ok.cn
  have HBd := Lib.hid (cutL_bd c.cl x y (row_bd h.ok.rowc))
  have HPre := Lib.hid (fun j => lost_pre h.ok (cutL c.cl x y) (cutL_bd c.cl x y (row_bd h.ok.rowc)) j (by omega))
  have HTk := Lib.hid (lost_take c (cutL c.cl x y))
  have HWb := Lib.hid (fun (s : Sp) (hs : 0 ≤ s.f ∧ s.f < s.t ∧ s.t ≤ 1125899906842624) => h.ok.weekly_bd (a := s.f) (b := s.t) hs.1 (by omega))
  have hfn : ∀ (fn : Fn) (first cap : Array Value) (w : World), (binOp .eql 99 (.func fn first cap) .nilFunc).run Tryz.prog w = .ok (.bool false) w := fun _ _ _ _ => rfl
  have hbl := h.bl
  have HGb := Lib.hid h.nb
  have HH := Lib.hid h
  generalize cutL c.cl x y = L at *
  clear h hal
  go_enter Tryz.func50, Tryz.ntmps50
  go_wp2_with (first
    | (go_at_call 87; go_must (refine HA.out.mono ?_); rintro e w0 ⟨rfl, rfl⟩)
    | (go_at_call 86; go_must (refine HCut.out.mono ?_); rintro e w1 ⟨A0, c0, rfl, -, -, -, hs, t1⟩; have HS := Lib.hid hs; have HT1 := Lib.hid t1; clear t1 hs))
  clear HA HCut
  have HH1 := Lib.hid (HH.out.more HT1.out (fun e => e) (fun _ _ e => e))
  have hs1 := HT1.out.size
  go_loopw [8, 19] (fun n i wr => ∃ j : Nat, j ≤ L.length ∧ i = .int .i64 j ∧ n = .int .i64 (c.lost (L.take j)) ∧ CkAt wr k a p b c (More G w wr) ∧ Touch (fun q => q = b) w1 wr) (fun _ i _ => L.length - (intOf i).toNat)
  case atStart => exact ⟨0, by omega, rfl, rfl, HH1.out, Touch.refl _ _⟩
  case round =>
    obtain ⟨j, hj, rfl, rfl, hC, hT⟩ := hrel
    have HC := Lib.hid hC
    have HT := Lib.hid hT
    clear hC hT
    have hp := HPre.out j
    by_cases hjk : j < L.length
    · have hs : L[j]? = some (L[j]'hjk) := List.getElem?_eq_getElem _
      have hbs := HBd.out _ (List.getElem_mem hjk)
      obtain ⟨g, o, rfl, hg, -, hc0, hc1⟩ := (HS.out.touch HT.out (fun q hq e => by omega)).at_ hs
      have HN := Lib.hid (HTk.out j _ hs)
      have hwk := HWb.out _ hbs
      have HWs := Lib.hid (HW.out _ hbs)
      generalize c.lost (L.take j) = n at *
      generalize L[j]'hjk = s at *
      obtain ⟨f, t⟩ := s
      simp only at hc0 hc1 hbs HWs hwk HN
      generalize c.weekly f t = u at *
      clear hs
      have HTb := Lib.hid ((Touch.refl (fun _ => False) wr).alloc (.cells #[.int .i64 f, .int .i64 t] 102))
      go_wp2_with (go_at_call 49; go_must (refine (HWs.out _ _ (by exact HC.out.more HTb.out (fun e => e) (fun _ _ e => e))).mono ?_); rintro e w2 ⟨rfl, h2, t2⟩; have HQ := Lib.hid (And.intro h2 t2); clear h2 t2)
      go_roundw
      case rel =>
        obtain ⟨h2, t2⟩ := HQ.out
        have ht := HT.out.size
        have sb := HTb.out.size
        have s2 := t2.size
        have hCb := HC.out.nb
        have hCl := HC.out.bl
        refine ⟨j + 1, by omega, by go_num, by rw [HN.out], ?_, (HT.out.trans (S' := fun q => q = b) (HTb.out.mono (fun _ _ e => e.elim)) (fun _ _ e => e)).trans t2 (fun _ _ e => e)⟩
        exact (h2.more2 sb s2 hCb hCl).more2 (by omega) (by omega) HGb.out hbl
      case measure => simp [intOf]; omega
    · obtain rfl : j = L.length := by omega
      rw [List.take_length] at *
      go_wp2
      go_ret
      exact ⟨rfl, HC.out, (HT1.out.mono (fun _ _ e => e.elim)).trans HT.out (fun _ _ e => e)⟩
end Go.Proofs.YtcblbjhhlnmkjaaGreat
