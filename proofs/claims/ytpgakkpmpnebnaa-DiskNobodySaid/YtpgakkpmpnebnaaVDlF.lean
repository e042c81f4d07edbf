/- The walk of DiskArmed. (written by genDlF.py) -/
import Derived.Test.YtpgakkpmpnebnaaVDlE
import Derived.Test.YtpgakkpmpnebnaaVDlD
import Derived.Test.YtpgakkpmpnebnaaVDlG
namespace Go.Proofs.Ytpgakkpmpnebnaa
open Go.RowKit Go.Maps
set_option maxHeartbeats 4000000
set_option maxRecDepth 100000
set_option linter.unusedVariables false
attribute [local irreducible] wpPlan

/-- The program's disk, the document's, the last call, in a law's loop: all of their blocks new. -/
def DkM2 (w wr : World) (g b m tb ob : Nat) (OC : Array Value) (D R : Dk) : Prop :=
  ∃ F RF A c, DkAt wr g b m D F ∧ Blk wr tb 67 (rdA A c R) ∧ RfF wr RF A R.fs ∧ Blk wr ob 71 OC ∧ (∀ q, F q → w.heap.size ≤ q ∧ q ≠ tb ∧ q ≠ ob) ∧ (∀ q, RF q → w.heap.size ≤ q ∧ q < wr.heap.size ∧ q ≠ tb ∧ q ≠ g ∧ q ≠ b ∧ q ≠ m) ∧ Touch (fun _ => False) w wr
theorem DkM2.far {w w1 w2 : World} {g b m tb ob : Nat} {OC : Array Value} {D R : Dk} (h : DkM2 w w1 g b m tb ob OC D R) (t : Touch (fun _ => False) w1 w2) : DkM2 w w2 g b m tb ob OC D R := by
  obtain ⟨F, RF, A, c, h1, h2, h3, h4, h5, h6, h7⟩ := h
  exact ⟨F, RF, A, c, h1.far t, t.blk h2 (fun e => e), h3.touch t (fun _ _ e => e), t.blk h4 (fun e => e), h5, fun q hq => ⟨(h6 q hq).1, Nat.lt_of_lt_of_le (h6 q hq).2.1 t.size, (h6 q hq).2.2⟩, h7.trans t (fun _ _ e => e)⟩
theorem did_two {w wr wo w3 w4 : World} {g b m tb ob : Nat} {OC : Array Value} {E R' : Dk} {F RF F3 RF3 : Nat → Prop} {A3 : Option Addr} {c3 : Nat} (hgt : g ≠ tb ∧ b ≠ tb ∧ m ≠ tb ∧ ob ≠ tb ∧ g ≠ ob ∧ b ≠ ob ∧ m ≠ ob) (hge : w.heap.size ≤ g ∧ w.heap.size ≤ b ∧ w.heap.size ≤ m ∧ w.heap.size ≤ tb ∧ w.heap.size ≤ ob)
    (hw : w.heap.size ≤ wr.heap.size) (hbl : tb < wr.heap.size ∧ ob < wr.heap.size) (hdl : g < wr.heap.size ∧ b < wr.heap.size ∧ m < wr.heap.size) (hF : ∀ q, F q → w.heap.size ≤ q ∧ q ≠ tb ∧ q ≠ ob) (hRF : ∀ q, RF q → w.heap.size ≤ q ∧ q < wr.heap.size ∧ q ≠ tb ∧ q ≠ g ∧ q ≠ b ∧ q ≠ m)
    (hT : Touch (fun _ => False) w wr) (hTo : Touch (fun _ => False) wr wo) (hO : Blk wr ob 71 OC)
    (hd3 : DkAt w3 g b m E F3) (hr3 : RfF w3 RF3 A3 R'.fs) (hF3 : ∀ q, F3 q → F q ∨ (wo.heap.size ≤ q ∧ q < w3.heap.size)) (hRF3 : ∀ q, RF3 q → RF q ∨ (wo.heap.size ≤ q ∧ q < w3.heap.size)) (t3 : Touch (fun q => q = g ∨ q = b ∨ q = m) wo w3)
    (t4 : Touch (fun q => q = tb) w3 w4) (hb4 : Blk w4 tb 67 (rdA A3 c3 R')) : DkM2 w w4 g b m tb ob OC E R' := by
  have h1 := hTo.size
  have h3 := t3.size
  have h4 := t4.size
  refine ⟨F3, RF3, A3, c3, hd3.touch t4 hgt.1 hgt.2.1 hgt.2.2.1 (fun q hq e => ?_), hb4, hr3.touch t4 (fun q hq e => ?_), t4.blk (t3.blk (hTo.blk hO (fun e => e)) (by omega)) (by omega), fun q hq => ?_, fun q hq => ?_, ((hT.trans hTo (fun _ _ e => e)).trans t3 (fun q hq e => by omega)).trans t4 (fun q hq e => by omega)⟩
  · rcases hF3 q hq with h | h
    · exact (hF q h).2.1 e
    · omega
  · rcases hRF3 q hq with h | h
    · exact (hRF q h).2.2.1 e
    · omega
  · rcases hF3 q hq with h | h
    · exact hF q h
    · omega
  · rcases hRF3 q hq with h | h
    · have := hRF q h; omega
    · omega
theorem down_op {g b m : Nat} {D : Dk} {F : Nat → Prop} {W : World} {fn : FuncId} {args : Array Value} {p : Dk × Int} (h : Calls Try.prog fn args W (DkC g b m p F W)) (hp : p = (D, 50)) :
    Calls Try.prog fn args W (fun e w' => e = .returned (.int .i64 50) ∧ ∃ F', DkAt w' g b m D F' ∧ Touch (fun q => q = g ∨ q = b ∨ q = m) W w') := by
  refine h.mono fun e w' hh => ?_
  rw [hp] at hh
  obtain ⟨h1, F', h2, -, h3⟩ := hh
  exact ⟨h1, F', h2, h3⟩
theorem walk_DiskArmed {w : World} (A0 : Option Addr) (n0 c0 : Nat) (l0 : List Op23) (e0 : l0.length = n0) (o0 : ∀ x ∈ l0, x.okA w) (z0 : ∀ a ∈ l0, a.cells.length = 6) (g0 : A0 = none → c0 = 0) (u0 : n0 ≤ c0) (m0 : c0 ≤ maxLen) (s0 : RdZ w (fun k => k < w.heap.size) 6 A0 n0 (l0.flatMap Op23.cells))
    (a1 : Int) (k1 : 0 ≤ a1 ∧ a1 ≤ 255) (o : Op23) (ho : o.okA w) :
    Calls Try.prog 9 #[.slice A0 n0 c0, .int .u8 a1, .agg o.cells.toArray] w fun e w' => e = .returned (.bool true) ∧ Below w.heap.size w w' := by
  subst e0
  obtain ⟨st, rfl⟩ := Int.eq_ofNat_of_zero_le k1.1
  have hst : st ≤ 255 := by omega
  have HS0 := Lib.hid s0
  have HO0 := Lib.hid o0
  unfold maxLen at m0
  obtain ⟨wa, hwa⟩ : ∃ wa, wa = w.alloc (.cells #[.int .i64 o.k, .int .i64 o.n, St o.nm, St o.to_, St o.tx, .slice o.A o.ts.length o.c] 71) := ⟨_, rfl⟩
  have HWa := Lib.hid hwa
  have HTa := Lib.hid (show Touch (fun _ => False) w wa from hwa ▸ (Touch.refl (fun _ => False) w).alloc _)
  have HBa := Lib.hid (show Blk wa w.heap.size 71 #[.int .i64 o.k, .int .i64 o.n, St o.nm, St o.to_, St o.tx, .slice o.A o.ts.length o.c] from hwa ▸ Blk.new w _ _)
  have hsa : wa.heap.size = w.heap.size + 1 := by rw [hwa]; simp
  have HLi := Lib.hid (light23_any _ A0 c0 l0 wa (HS0.out.touch HTa.out (fun _ _ e => e)) (by omega))
  clear o0 z0 g0 s0 u0 ho hwa k1
  rw [show o.cells.toArray = #[.int .i64 o.k, .int .i64 o.n, St o.nm, St o.to_, St o.tx, .slice o.A o.ts.length o.c] from rfl]
  cases hl : light23 l0
  · rw [hl] at HLi
    clear hl
    go_enter Try.func9, Try.ntmps9
    go_wp2_with (first
      | (go_at_call 30; rw [← HWa.out]; go_must (refine HLi.out.mono ?_); rintro e w0 ⟨rfl, t0⟩; have HT0 := Lib.hid (HTa.out.trans t0 (fun _ _ e => e)); have HB0 := Lib.hid (t0.blk HBa.out (fun e => e)); have x0 := HB0.out.cell 0; have x1 := HB0.out.cell 1; have x2 := HB0.out.cell 2; have x3 := HB0.out.cell 3; have x4 := HB0.out.cell 4; have x5 := HB0.out.cell 5; simp at x0 x1 x2 x3 x4 x5; have hs0 := t0.size; clear t0)
      | (go_at_call 32; go_must (refine (lives23_any _).mono ?_); rintro e w9 ⟨rfl, t9⟩; have HT9 := Lib.hid t9; clear t9))
    go_ret
    exact ⟨rfl, (HT0.out.trans HT9.out (fun _ _ e => e)).below⟩
  · rw [hl] at HLi
    obtain ⟨hLo, hlen⟩ := light23_all hl
    have HLo := Lib.hid hLo
    clear hl hLo
    cases hlo1 : light23 [o]
    · go_enter Try.func9, Try.ntmps9
      go_wp2_with (first
        | (go_at_call 30
           have M9 := HB0
           go_must (refine (light23_any (fun _ => True) (some ⟨w0.heap.size, 0, none⟩) 1 [o] (w0.alloc (.cells #[.int .i64 o.k, .int .i64 o.n, St o.nm, St o.to_, St o.tx, .slice o.A o.ts.length o.c] 71)) (by exact ⟨rfl, fun _ => ⟨_, 0, rfl, (Blk.new w0 71 #[.int .i64 o.k, .int .i64 o.n, St o.nm, St o.to_, St o.tx, .slice o.A o.ts.length o.c]).lt, trivial, fun j u hj => by rw [Nat.zero_add, (Blk.new w0 71 #[.int .i64 o.k, .int .i64 o.n, St o.nm, St o.to_, St o.tx, .slice o.A o.ts.length o.c]).cell]; simpa [Op23.cells] using hj⟩⟩) (by simp)).mono ?_)
           rintro e w01 ⟨rfl, t01⟩
           rw [hlo1]
           have ta1 := (Touch.refl (fun _ => False) w0).alloc (.cells #[.int .i64 o.k, .int .i64 o.n, St o.nm, St o.to_, St o.tx, .slice o.A o.ts.length o.c] 71)
           have HT1 := Lib.hid ((HT0.out.trans ta1 (fun _ _ e => e)).trans t01 (fun _ _ e => e))
           have HB1 := Lib.hid (t01.blk (ta1.blk HB0.out (fun e => e)) (fun e => e))
           have hs1 := ta1.size
           have hs01 := t01.size
           clear ta1 t01)
        | (go_at_call 30; rw [← HWa.out]; go_must (refine HLi.out.mono ?_); rintro e w0 ⟨rfl, t0⟩; have HT0 := Lib.hid (HTa.out.trans t0 (fun _ _ e => e)); have HB0 := Lib.hid (t0.blk HBa.out (fun e => e)); have x0 := HB0.out.cell 0; have x1 := HB0.out.cell 1; have x2 := HB0.out.cell 2; have x3 := HB0.out.cell 3; have x4 := HB0.out.cell 4; have x5 := HB0.out.cell 5; simp at x0 x1 x2 x3 x4 x5; have hs0 := t0.size; clear t0)
        | (go_at_call 32; go_must (refine (lives23_any _).mono ?_); rintro e w9 ⟨rfl, t9⟩; have HT9 := Lib.hid t9; clear t9))
      go_ret
      exact ⟨rfl, (HT1.out.trans HT9.out (fun _ _ e => e)).below⟩
    · have hlo := light_one hlo1
      go_enter Try.func9, Try.ntmps9
      go_wp2_with (first
        | (go_at_call 30
           have M9 := HB0
           go_must (refine (light23_any (fun _ => True) (some ⟨w0.heap.size, 0, none⟩) 1 [o] (w0.alloc (.cells #[.int .i64 o.k, .int .i64 o.n, St o.nm, St o.to_, St o.tx, .slice o.A o.ts.length o.c] 71)) (by exact ⟨rfl, fun _ => ⟨_, 0, rfl, (Blk.new w0 71 #[.int .i64 o.k, .int .i64 o.n, St o.nm, St o.to_, St o.tx, .slice o.A o.ts.length o.c]).lt, trivial, fun j u hj => by rw [Nat.zero_add, (Blk.new w0 71 #[.int .i64 o.k, .int .i64 o.n, St o.nm, St o.to_, St o.tx, .slice o.A o.ts.length o.c]).cell]; simpa [Op23.cells] using hj⟩⟩) (by simp)).mono ?_)
           rintro e w01 ⟨rfl, t01⟩
           rw [hlo1]
           have ta1 := (Touch.refl (fun _ => False) w0).alloc (.cells #[.int .i64 o.k, .int .i64 o.n, St o.nm, St o.to_, St o.tx, .slice o.A o.ts.length o.c] 71)
           have HT1 := Lib.hid ((HT0.out.trans ta1 (fun _ _ e => e)).trans t01 (fun _ _ e => e))
           have HB1 := Lib.hid (t01.blk (ta1.blk HB0.out (fun e => e)) (fun e => e))
           have hs1 := ta1.size
           have hs01 := t01.size
           clear ta1 t01)
        | (go_at_call 30; rw [← HWa.out]; go_must (refine HLi.out.mono ?_); rintro e w0 ⟨rfl, t0⟩; have HT0 := Lib.hid (HTa.out.trans t0 (fun _ _ e => e)); have HB0 := Lib.hid (t0.blk HBa.out (fun e => e)); have x0 := HB0.out.cell 0; have x1 := HB0.out.cell 1; have x2 := HB0.out.cell 2; have x3 := HB0.out.cell 3; have x4 := HB0.out.cell 4; have x5 := HB0.out.cell 5; simp at x0 x1 x2 x3 x4 x5; have hs0 := t0.size; clear t0)
        | (go_at_call 31; go_must (refine (dnew_yes 4000 ⟨by omega, by omega⟩ w01).mono ?_)
           rintro e w2 ⟨g, b, m, rfl, hd, hg, hb, hm, t2⟩
           have HD0 := Lib.hid hd
           have HT2 := Lib.hid (HT1.out.trans t2 (fun _ _ e => e))
           have HB2 := Lib.hid (t2.blk HB1.out (fun e => e))
           have hs2 := HT1.out.size
           have hlt0 := hd.lt
           clear hd t2)
        | (go_at_call 33; go_must (refine (fnew_any 4000 w2).mono ?_)
           rintro e w3 ⟨rfl, t3⟩
           rw [show rdA none 0 ⟨4000, [], false, -1, 0⟩ = #[.int .i64 4000, .slice none 0 0, .bool false, .int .i64 (-1), .int .u64 0] from rfl]
           have HD3 := Lib.hid (HD0.out.far t3)
           have HT3 := Lib.hid (HT2.out.trans t3 (fun _ _ e => e))
           have HB3 := Lib.hid (t3.blk HB2.out (fun e => e))
           have hs3 := t3.size
           clear t3)
        | (go_at_call 44
           obtain ⟨w4, hw4⟩ : ∃ w4, w4 = w3.alloc (.cells #[.int .i64 4000, .slice none 0 0, .bool false, .int .i64 (-1), .int .u64 0] 67) := ⟨_, rfl⟩
           rw [← hw4]
           have t4 : Touch (fun _ => False) w3 w4 := hw4 ▸ (Touch.refl (fun _ => False) w3).alloc _
           have hb4 : Blk w4 w3.heap.size 67 (rdA none 0 ⟨4000, [], false, -1, 0⟩) := hw4 ▸ Blk.new w3 _ _
           go_must (refine (darm_any (HD3.out.far t4) (st : Int) (by omega)).mono ?_)
           rintro e w5 he
           rw [show (⟨4000, [], false, -1, 0⟩ : Dk).arm (st : Int) = (⟨4000, [], false, (st : Int), 0⟩, 0) from by unfold Dk.arm; rw [if_neg (by simp), if_neg (by omega)]] at he
           obtain ⟨rfl, F5, hd5, hF5, t5⟩ := he
           have hs4 : w4.heap.size = w3.heap.size + 1 := by rw [hw4]; simp
           have hob := HB3.out.lt
           have HL0 := Lib.hid (show DkM2 w w5 g b m w3.heap.size w.heap.size #[.int .i64 o.k, .int .i64 o.n, St o.nm, St o.to_, St o.tx, .slice o.A o.ts.length o.c] ⟨4000, [], false, (st : Int), 0⟩ ⟨4000, [], false, -1, 0⟩ from
             ⟨F5, fun _ => False, none, 0, hd5, t5.blk hb4 (by omega), RfF.nil _ _ _, t5.blk (t4.blk HB3.out (fun e => e)) (by omega), fun q hq => by (rcases hF5 q hq with h | h); exact h.elim; omega, fun q hq => hq.elim, (HT3.out.trans t4 (fun _ _ e => e)).trans t5 (fun q hq e => by omega)⟩)
           clear hw4 t4 hb4 hd5 hF5 t5))
      obtain ⟨tb, htb⟩ : ∃ tb, tb = w3.heap.size := ⟨_, rfl⟩
      obtain ⟨ob, hob2⟩ : ∃ ob, ob = w.heap.size := ⟨_, rfl⟩
      have hge : w.heap.size ≤ g ∧ w.heap.size ≤ b ∧ w.heap.size ≤ m ∧ w.heap.size ≤ tb ∧ w.heap.size ≤ ob := by omega
      have hgt : g ≠ tb ∧ b ≠ tb ∧ m ≠ tb ∧ ob ≠ tb ∧ g ≠ ob ∧ b ≠ ob ∧ m ≠ ob := by omega
      rw [← htb, ← hob2] at HL0
      rw [← htb, ← hob2]
      clear HD0 HT2 HT0 HT1 HT3 HB1 HB2 HB3 HB0 HD3 hs0 hs1 hs01 hs2 hlt0 hs3 hs4 hob htb hob2 hg hb hm HWa HTa HBa hsa hlo1
      clear x0 x1 x2 x3 x4 x5
      go_loopw [9, 37] (fun n i wr => ∃ j : Nat, j ≤ l0.length ∧ i = .int .i64 j ∧ ∃ D R : Dk, n = .int .i64 (D.steps : Int) ∧ D.steps ≤ j ∧ R.steps ≤ j ∧ ArmI st D R ∧ DkM2 w wr g b m tb ob #[.int .i64 o.k, .int .i64 o.n, St o.nm, St o.to_, St o.tx, .slice o.A o.ts.length o.c] D R) (fun _ i _ => l0.length - (intOf i).toNat)
      case atStart => exact ⟨0, by omega, rfl, ⟨4000, [], false, (st : Int), 0⟩, ⟨4000, [], false, -1, 0⟩, rfl, Nat.le_refl _, Nat.le_refl _, (fun _ => ⟨rfl, rfl, rfl, rfl, by simp, by simp⟩), HL0.out⟩
      case round =>
        clear HL0 HLi
        obtain ⟨j, hj, rfl, D, R, rfl, hsD, hsR, hI, F, RF, A, c, hd, hb, hr, hob, hF, hRF, hT⟩ := hrel
        have hTs := hT.size
        have HI := Lib.hid hI
        have HT := Lib.hid hT
        have HD := Lib.hid hd
        have HB := Lib.hid hb
        have HO := Lib.hid hob
        have HR := Lib.hid hr
        have HF := Lib.hid hF
        have HRF := Lib.hid hRF
        have hbl := hb.lt
        have hobl := hob.lt
        have hdl := hd.lt
        clear hd hb hr hF hRF hT hI hob
        by_cases hjk : j < l0.length
        · have ha : l0[j]? = some (l0[j]'hjk) := List.getElem?_eq_getElem _
          have hlp := HLo.out _ (List.getElem_mem hjk)
          obtain ⟨a, off, rfl, -, -, hc⟩ := (HS0.out.touch HT.out (fun _ _ e => e)).at_ (fun a _ => op23_len a) rfl ha
          generalize l0[j]'hjk = p at *
          have q0 := hc 0 _ rfl; have q1 := hc 1 _ rfl; have q2 := hc 2 _ rfl; have q3 := hc 3 _ rfl; have q4 := hc 4 _ rfl; have q5 := hc 5 _ rfl; skip
          simp only [Nat.add_zero, ← Nat.add_assoc] at q0 q1 q2 q3 q4 q5
          obtain ⟨wo, hwo⟩ : ∃ wo, wo = wr.alloc (.cells #[.int .i64 p.k, .int .i64 p.n, St p.nm, St p.to_, St p.tx, .slice p.A p.ts.length p.c] 71) := ⟨_, rfl⟩
          have HWo := Lib.hid hwo
          have HTo := Lib.hid (show Touch (fun _ => False) wr wo from hwo ▸ (Touch.refl (fun _ => False) wr).alloc _)
          have HBo := Lib.hid (show Blk wo wr.heap.size 71 #[.int .i64 p.k, .int .i64 p.n, St p.nm, St p.to_, St p.tx, .slice p.A p.ts.length p.c] from hwo ▸ Blk.new wr _ _)
          have hso : wo.heap.size = wr.heap.size + 1 := by rw [hwo]; simp
          clear hc ha hwo
          by_cases hk69 : 6 ≤ p.k ∧ p.k ≤ 9
          · have hk6 : decide ((6 : Int) ≤ p.k) = true := by simp only [decide_eq_true_eq]; omega
            have hk9 : decide (p.k ≤ 9) = true := by simp only [decide_eq_true_eq]; omega
            clear hk69
            go_wp2_with fail
            go_roundw
            case rel => rw [← HWo.out]; exact ⟨j + 1, by omega, by go_num, D, R, rfl, by omega, by omega, HI.out, DkM2.far ⟨F, RF, A, c, HD.out, HB.out, HR.out, HO.out, HF.out, HRF.out, HT.out⟩ HTo.out⟩
            case measure => simp [intOf]; omega
          · cases hdn : D.down
            · have hok := HI.out.ok hdn HD.out.ok
              have hAS := arm_step HI.out hdn p hk69
              have hrdE : D.read p.nm = R.read p.nm := by
                obtain ⟨-, h2, h3, -⟩ := HI.out hdn
                unfold Dk.read; rw [hdn, h3, h2]
              obtain ⟨-, -, -, -, -, hDst⟩ := HI.out hdn
              have hDw1 := ddown_any (HD.out.far HTo.out)
              rw [hdn] at hDw1
              have HDw := Lib.hid hDw1
              obtain ⟨E, hE⟩ : ∃ E, E = doV D p := ⟨_, rfl⟩
              obtain ⟨R', hR'⟩ : ∃ R', R' = doV R p := ⟨_, rfl⟩
              have hRs : R'.steps ≤ j + 1 := by have := doV_steps R p; rw [← hR'] at this; omega
              have HDo := Lib.hid (show ∀ (W : World), Touch (fun _ => False) wo W → Calls Try.prog 34 #[.pointer (some ⟨g, 0, none⟩), .agg #[.int .i64 R.room, .slice A R.fs.length c, .bool R.down, .int .i64 R.armed, .int .u64 (R.steps : Int)], .agg #[.int .i64 p.k, .int .i64 p.n, St p.nm, St p.to_, St p.tx, .slice p.A p.ts.length p.c]] W (Do2P g b m E R' F RF W) from fun W hW => by
                rw [hE, hR']
                have hsz := hW.size
                exact ldo2_any p D R g b m F RF A c W ((HD.out.far HTo.out).far hW) ((HR.out.touch HTo.out (fun _ _ e => e)).touch hW (fun _ _ e => e)) (fun q hq => by have := HRF.out q hq; omega) hok hlp (by omega) (by omega) hrdE hk69)
              rw [← hE, ← hR'] at hAS
              have HAS := Lib.hid hAS
              unfold Do2P at HDo
              have hn128 := HD.out.ok.n
              have hbo := HTo.out.blk HB.out (fun e => e)
              clear hE hR' hAS hrdE hok hdn hDw1
              rcases (by omega : p.k < 0 ∨ p.k = 0 ∨ (1 ≤ p.k ∧ p.k ≤ 5) ∨ 9 < p.k) with hk | hk | hk | hk
              · cases hEd : E.down
                · rcases HAS.out.n with hEs | hEs
                  · have hk6 : decide ((6 : Int) ≤ p.k) = false := by simp only [decide_eq_false_iff_not]; omega
                    have hk0 : (p.k == 0) = false := by simp only [beq_eq_false_iff_ne]; omega
                    have hkb : decide ((9 : Int) < p.k) = false := by simp only [decide_eq_false_iff_not]; omega
                    have hkn : decide (p.k < 0) = true := by simp only [decide_eq_true_eq]; omega
                    have hap : isApp p.k = true := by unfold isApp; simp; omega
                    have hgo : decide ((st : Int) < (D.steps : Int)) = false := by simp only [decide_eq_false_iff_not]; omega
                    clear hk hk69 hap
                    go_wp2_with (first
                      | (go_at_call 41; rw [← HWo.out]; go_must (refine (lfiles_any (HD.out.far HTo.out)).mono ?_); rintro e w1 ⟨A8, c8, rfl, hr8, t1⟩
                         have HBf := Lib.hid hr8
                         have HT1o := Lib.hid t1
                         have hs1 := t1.size
                         have hb1 := t1.blk hbo (fun e => e)
                         have p0 := hb1.cell 0
                         have p1 := hb1.cell 1
                         have p2 := hb1.cell 2
                         have p3 := hb1.cell 3
                         have p4 := hb1.cell 4
                         simp [rdA] at p0 p1 p2 p3 p4
                         have hx1 := t1.blk HBo.out (fun e => e)
                         have x0 := hx1.cell 0; have x1 := hx1.cell 1; have x2 := hx1.cell 2; have x3 := hx1.cell 3; have x4 := hx1.cell 4; have x5 := hx1.cell 5; simp at x0 x1 x2 x3 x4 x5
                         clear hr8 t1 hb1 hx1)
                      | (go_at_call 34
                         go_must (refine (HDo.out w1 HT1o.out).mono ?_); rintro e w3 ⟨A3, c3, F3, RF3, bb, rfl, hd3, hr3, hF3, hRF3, t3⟩
                         rw [show rdA A3 c3 R' = #[.int .i64 R'.room, .slice A3 R'.fs.length c3, .bool R'.down, .int .i64 R'.armed, .int .u64 (R'.steps : Int)] from rfl]
                         have hs3 := t3.size
                         obtain ⟨w4, hw4⟩ : ∃ w4, w4 = w3.alloc (.cells #[.int .i64 R'.room, .slice A3 R'.fs.length c3, .bool R'.down, .int .i64 R'.armed, .int .u64 (R'.steps : Int)] 67) := ⟨_, rfl⟩
                         have HW4 := Lib.hid hw4
                         have t4 : Touch (fun _ => False) w3 w4 := hw4 ▸ (Touch.refl (fun _ => False) w3).alloc _
                         have HD3 := Lib.hid hd3
                         have HR3 := Lib.hid hr3
                         have HF3 := Lib.hid hF3
                         have HRF3 := Lib.hid hRF3
                         have HT3 := Lib.hid t3
                         have HT4 := Lib.hid t4
                         have HD4 := Lib.hid (hd3.far t4)
                         have HR4 := Lib.hid (hr3.touch t4 (fun _ _ e => e))
                         have HX4 := Lib.hid (show Blk w4 w3.heap.size 67 #[.int .i64 R'.room, .slice A3 R'.fs.length c3, .bool R'.down, .int .i64 R'.armed, .int .u64 (R'.steps : Int)] from hw4 ▸ Blk.new w3 _ _)
                         have HP4 := Lib.hid ((t4.blk (t3.blk (HT1o.out.blk HBo.out (fun e => e)) (by omega)) (fun e => e)))
                         have HB4 := Lib.hid ((t4.blk (t3.blk ((HTo.out.trans HT1o.out (fun _ _ e => e)).blk HB.out (fun e => e)) (by omega)) (fun e => e)))
                         have HBf4 := Lib.hid ((HBf.out.touch t3 (fun q hq e => by omega)).touch t4 (fun _ _ e => e))
                         have hs4 := t4.size
                         have hs4' : w4.heap.size = w3.heap.size + 1 := by rw [hw4]; simp
                         clear hd3 hr3 hF3 hRF3 t3 t4 p0 p1 p2 p3 p4 x0 x1 x2 x3 x4 x5 hw4
                         have HXe := Lib.hid HX4.out
                         have HBe := Lib.hid HB4.out
                         have y0 := HXe.out.cell 0; have y1 := HXe.out.cell 1; have y2 := HXe.out.cell 2; have y3 := HXe.out.cell 3; have y4 := HXe.out.cell 4; simp at y0 y1 y2 y3 y4
                         have hbe := HBe.out
                         have p0 := hbe.cell 0
                         have p1 := hbe.cell 1
                         have p2 := hbe.cell 2
                         have p3 := hbe.cell 3
                         have p4 := hbe.cell 4
                         have m0 := hbe.frozen 0; have m1 := hbe.frozen 1; have m2 := hbe.frozen 2; have m3 := hbe.frozen 3; have m4 := hbe.frozen 4
                         simp [rdA] at p0 p1 p2 p3 p4
                         clear hbe)
                      | (go_at_call 39; have M9 := HD4; rw [← HW4.out]; go_must (refine (dsteps_any HD4.out).mono ?_); rintro e wz ⟨rfl, rfl⟩; have M8 := Lib.hid trivial)
                      | (go_at_call 39; rw [← HWo.out]; go_must (refine (dsteps_any (HD.out.far HTo.out)).mono ?_); rintro e wz ⟨rfl, rfl⟩; rw [HWo.out])
                      | (go_at_call 36; have M9 := HD4; go_must (refine (ddown_any HD4.out).mono ?_); rintro e wz ⟨rfl, rfl⟩)
                      | (go_at_call 36; rw [← HWo.out]; go_must (refine HDw.out.mono ?_); rintro e wz ⟨rfl, rfl⟩; rw [HWo.out]))
                    have HL := Lib.hid (did_two hgt hge hTs ⟨hbl, hobl⟩ hdl HF.out HRF.out HT.out (HTo.out.trans HT1o.out (fun _ _ e => e)) HO.out HD3.out HR3.out HF3.out HRF3.out HT3.out (show Touch (fun q => q = tb) w3 _ from (HT4.out.mono (S' := fun q => q = tb) (fun _ _ e => e.elim)).trans (tch5 (w := w4) tb (.int .i64 R'.room) (.slice A3 R'.fs.length c3) (.bool R'.down) (.int .i64 R'.armed) (.int .u64 (R'.steps : Int))) (fun q _ e => e)) (blk5 HBe.out (.int .i64 R'.room) (.slice A3 R'.fs.length c3) (.bool R'.down) (.int .i64 R'.armed) (.int .u64 (R'.steps : Int))))
                    go_roundw
                    case rel => exact ⟨j + 1, by omega, by go_num, E, R', by rw [hEs], by omega, by omega, HAS.out.inv, HL.out⟩
                    case measure => simp [intOf]; omega
                  · have hk6 : decide ((6 : Int) ≤ p.k) = false := by simp only [decide_eq_false_iff_not]; omega
                    have hk0 : (p.k == 0) = false := by simp only [beq_eq_false_iff_ne]; omega
                    have hkb : decide ((9 : Int) < p.k) = false := by simp only [decide_eq_false_iff_not]; omega
                    have hkn : decide (p.k < 0) = true := by simp only [decide_eq_true_eq]; omega
                    have hap : isApp p.k = true := by unfold isApp; simp; omega
                    have hgo : decide ((st : Int) < (D.steps : Int) + 1) = false := by
                      have h2 := HAS.out.down
                      rw [hEs, hEd] at h2
                      simp at h2
                      simp only [decide_eq_false_iff_not]; omega
                    clear hk hk69 hap
                    go_wp2_with (first
                      | (go_at_call 41; rw [← HWo.out]; go_must (refine (lfiles_any (HD.out.far HTo.out)).mono ?_); rintro e w1 ⟨A8, c8, rfl, hr8, t1⟩
                         have HBf := Lib.hid hr8
                         have HT1o := Lib.hid t1
                         have hs1 := t1.size
                         have hb1 := t1.blk hbo (fun e => e)
                         have p0 := hb1.cell 0
                         have p1 := hb1.cell 1
                         have p2 := hb1.cell 2
                         have p3 := hb1.cell 3
                         have p4 := hb1.cell 4
                         simp [rdA] at p0 p1 p2 p3 p4
                         have hx1 := t1.blk HBo.out (fun e => e)
                         have x0 := hx1.cell 0; have x1 := hx1.cell 1; have x2 := hx1.cell 2; have x3 := hx1.cell 3; have x4 := hx1.cell 4; have x5 := hx1.cell 5; simp at x0 x1 x2 x3 x4 x5
                         clear hr8 t1 hb1 hx1)
                      | (go_at_call 34
                         go_must (refine (HDo.out w1 HT1o.out).mono ?_); rintro e w3 ⟨A3, c3, F3, RF3, bb, rfl, hd3, hr3, hF3, hRF3, t3⟩
                         rw [show rdA A3 c3 R' = #[.int .i64 R'.room, .slice A3 R'.fs.length c3, .bool R'.down, .int .i64 R'.armed, .int .u64 (R'.steps : Int)] from rfl]
                         have hs3 := t3.size
                         obtain ⟨w4, hw4⟩ : ∃ w4, w4 = w3.alloc (.cells #[.int .i64 R'.room, .slice A3 R'.fs.length c3, .bool R'.down, .int .i64 R'.armed, .int .u64 (R'.steps : Int)] 67) := ⟨_, rfl⟩
                         have HW4 := Lib.hid hw4
                         have t4 : Touch (fun _ => False) w3 w4 := hw4 ▸ (Touch.refl (fun _ => False) w3).alloc _
                         have HD3 := Lib.hid hd3
                         have HR3 := Lib.hid hr3
                         have HF3 := Lib.hid hF3
                         have HRF3 := Lib.hid hRF3
                         have HT3 := Lib.hid t3
                         have HT4 := Lib.hid t4
                         have HD4 := Lib.hid (hd3.far t4)
                         have HR4 := Lib.hid (hr3.touch t4 (fun _ _ e => e))
                         have HX4 := Lib.hid (show Blk w4 w3.heap.size 67 #[.int .i64 R'.room, .slice A3 R'.fs.length c3, .bool R'.down, .int .i64 R'.armed, .int .u64 (R'.steps : Int)] from hw4 ▸ Blk.new w3 _ _)
                         have HP4 := Lib.hid ((t4.blk (t3.blk (HT1o.out.blk HBo.out (fun e => e)) (by omega)) (fun e => e)))
                         have HB4 := Lib.hid ((t4.blk (t3.blk ((HTo.out.trans HT1o.out (fun _ _ e => e)).blk HB.out (fun e => e)) (by omega)) (fun e => e)))
                         have HBf4 := Lib.hid ((HBf.out.touch t3 (fun q hq e => by omega)).touch t4 (fun _ _ e => e))
                         have hs4 := t4.size
                         have hs4' : w4.heap.size = w3.heap.size + 1 := by rw [hw4]; simp
                         clear hd3 hr3 hF3 hRF3 t3 t4 p0 p1 p2 p3 p4 x0 x1 x2 x3 x4 x5 hw4
                         have HXe := Lib.hid HX4.out
                         have HBe := Lib.hid HB4.out
                         have y0 := HXe.out.cell 0; have y1 := HXe.out.cell 1; have y2 := HXe.out.cell 2; have y3 := HXe.out.cell 3; have y4 := HXe.out.cell 4; simp at y0 y1 y2 y3 y4
                         have hbe := HBe.out
                         have p0 := hbe.cell 0
                         have p1 := hbe.cell 1
                         have p2 := hbe.cell 2
                         have p3 := hbe.cell 3
                         have p4 := hbe.cell 4
                         have m0 := hbe.frozen 0; have m1 := hbe.frozen 1; have m2 := hbe.frozen 2; have m3 := hbe.frozen 3; have m4 := hbe.frozen 4
                         simp [rdA] at p0 p1 p2 p3 p4
                         clear hbe)
                      | (go_at_call 39; have M9 := HD4; rw [← HW4.out]; go_must (refine (dsteps_any HD4.out).mono ?_); rintro e wz ⟨rfl, rfl⟩; have M8 := Lib.hid trivial)
                      | (go_at_call 39; rw [← HWo.out]; go_must (refine (dsteps_any (HD.out.far HTo.out)).mono ?_); rintro e wz ⟨rfl, rfl⟩; rw [HWo.out])
                      | (go_at_call 36; have M9 := HD4; go_must (refine (ddown_any HD4.out).mono ?_); rintro e wz ⟨rfl, rfl⟩)
                      | (go_at_call 36; rw [← HWo.out]; go_must (refine HDw.out.mono ?_); rintro e wz ⟨rfl, rfl⟩; rw [HWo.out]))
                    have HL := Lib.hid (did_two hgt hge hTs ⟨hbl, hobl⟩ hdl HF.out HRF.out HT.out (HTo.out.trans HT1o.out (fun _ _ e => e)) HO.out HD3.out HR3.out HF3.out HRF3.out HT3.out (show Touch (fun q => q = tb) w3 _ from (HT4.out.mono (S' := fun q => q = tb) (fun _ _ e => e.elim)).trans (tch5 (w := w4) tb (.int .i64 R'.room) (.slice A3 R'.fs.length c3) (.bool R'.down) (.int .i64 R'.armed) (.int .u64 (R'.steps : Int))) (fun q _ e => e)) (blk5 HBe.out (.int .i64 R'.room) (.slice A3 R'.fs.length c3) (.bool R'.down) (.int .i64 R'.armed) (.int .u64 (R'.steps : Int))))
                    go_roundw
                    case rel => exact ⟨j + 1, by omega, by go_num, E, R', by rw [hEs]; simp, by omega, by omega, HAS.out.inv, HL.out⟩
                    case measure => simp [intOf]; omega
                · have hk6 : decide ((6 : Int) ≤ p.k) = false := by simp only [decide_eq_false_iff_not]; omega
                  have hk0 : (p.k == 0) = false := by simp only [beq_eq_false_iff_ne]; omega
                  have hkb : decide ((9 : Int) < p.k) = false := by simp only [decide_eq_false_iff_not]; omega
                  have hkn : decide (p.k < 0) = true := by simp only [decide_eq_true_eq]; omega
                  have hap : isApp p.k = true := by unfold isApp; simp; omega
                  have hEs : E.steps = D.steps + 1 := by
                    rcases HAS.out.n with h | h
                    · have h2 := HAS.out.down
                      rw [h, hEd] at h2
                      simp at h2
                      omega
                    · exact h
                  have hgo : decide ((st : Int) < (D.steps : Int) + 1) = true := by
                    have h2 := HAS.out.down
                    rw [hEs, hEd] at h2
                    simp at h2
                    simp only [decide_eq_true_eq]; omega
                  have hef : E.fs = R'.fs := HAS.out.app hEd hap
                  have HEf := Lib.hid hef
                  clear hef
                  clear hk hk69 hap
                  go_wp2_with (first
                    | (go_at_call 41; rw [← HWo.out]; go_must (refine (lfiles_any (HD.out.far HTo.out)).mono ?_); rintro e w1 ⟨A8, c8, rfl, hr8, t1⟩
                       have HBf := Lib.hid hr8
                       have HT1o := Lib.hid t1
                       have hs1 := t1.size
                       have hb1 := t1.blk hbo (fun e => e)
                       have p0 := hb1.cell 0
                       have p1 := hb1.cell 1
                       have p2 := hb1.cell 2
                       have p3 := hb1.cell 3
                       have p4 := hb1.cell 4
                       simp [rdA] at p0 p1 p2 p3 p4
                       have hx1 := t1.blk HBo.out (fun e => e)
                       have x0 := hx1.cell 0; have x1 := hx1.cell 1; have x2 := hx1.cell 2; have x3 := hx1.cell 3; have x4 := hx1.cell 4; have x5 := hx1.cell 5; simp at x0 x1 x2 x3 x4 x5
                       clear hr8 t1 hb1 hx1)
                    | (go_at_call 34
                       go_must (refine (HDo.out w1 HT1o.out).mono ?_); rintro e w3 ⟨A3, c3, F3, RF3, bb, rfl, hd3, hr3, hF3, hRF3, t3⟩
                       rw [show rdA A3 c3 R' = #[.int .i64 R'.room, .slice A3 R'.fs.length c3, .bool R'.down, .int .i64 R'.armed, .int .u64 (R'.steps : Int)] from rfl]
                       have hs3 := t3.size
                       obtain ⟨w4, hw4⟩ : ∃ w4, w4 = w3.alloc (.cells #[.int .i64 R'.room, .slice A3 R'.fs.length c3, .bool R'.down, .int .i64 R'.armed, .int .u64 (R'.steps : Int)] 67) := ⟨_, rfl⟩
                       have HW4 := Lib.hid hw4
                       have t4 : Touch (fun _ => False) w3 w4 := hw4 ▸ (Touch.refl (fun _ => False) w3).alloc _
                       have HD3 := Lib.hid hd3
                       have HR3 := Lib.hid hr3
                       have HF3 := Lib.hid hF3
                       have HRF3 := Lib.hid hRF3
                       have HT3 := Lib.hid t3
                       have HT4 := Lib.hid t4
                       have HD4 := Lib.hid (hd3.far t4)
                       have HR4 := Lib.hid (hr3.touch t4 (fun _ _ e => e))
                       have HX4 := Lib.hid (show Blk w4 w3.heap.size 67 #[.int .i64 R'.room, .slice A3 R'.fs.length c3, .bool R'.down, .int .i64 R'.armed, .int .u64 (R'.steps : Int)] from hw4 ▸ Blk.new w3 _ _)
                       have HP4 := Lib.hid ((t4.blk (t3.blk (HT1o.out.blk HBo.out (fun e => e)) (by omega)) (fun e => e)))
                       have HB4 := Lib.hid ((t4.blk (t3.blk ((HTo.out.trans HT1o.out (fun _ _ e => e)).blk HB.out (fun e => e)) (by omega)) (fun e => e)))
                       have HBf4 := Lib.hid ((HBf.out.touch t3 (fun q hq e => by omega)).touch t4 (fun _ _ e => e))
                       have hs4 := t4.size
                       have hs4' : w4.heap.size = w3.heap.size + 1 := by rw [hw4]; simp
                       clear hd3 hr3 hF3 hRF3 t3 t4 p0 p1 p2 p3 p4 x0 x1 x2 x3 x4 x5 hw4
                       have x0 := HP4.out.cell 0; have x1 := HP4.out.cell 1; have x2 := HP4.out.cell 2; have x3 := HP4.out.cell 3; have x4 := HP4.out.cell 4; have x5 := HP4.out.cell 5; simp at x0 x1 x2 x3 x4 x5)
                    | (go_at_call 39; have M9 := HD4; rw [← HW4.out]; go_must (refine (dsteps_any HD4.out).mono ?_); rintro e wz ⟨rfl, rfl⟩; have M8 := Lib.hid trivial)
                    | (go_at_call 39; rw [← HWo.out]; go_must (refine (dsteps_any (HD.out.far HTo.out)).mono ?_); rintro e wz ⟨rfl, rfl⟩; rw [HWo.out])
                    | (go_at_call 36; have M9 := HD4; go_must (refine (ddown_any HD4.out).mono ?_); rintro e wz ⟨rfl, rfl⟩)
                    | (go_at_call 36; rw [← HWo.out]; go_must (refine HDw.out.mono ?_); rintro e wz ⟨rfl, rfl⟩; rw [HWo.out]))
                  obtain ⟨W, hW⟩ : ∃ W, W = w4.drew := ⟨_, rfl⟩
                  have tW : Touch (fun _ => False) w4 W := hW ▸ (Touch.refl _ _).drew
                  have HTW := Lib.hid tW
                  have HDW := Lib.hid (HD4.out.far tW)
                  have HXW := Lib.hid (tW.blk HX4.out (fun e => e))
                  have hxw := HXW.out
                  have y1 := hxw.cell 1
                  simp at y1
                  have hpl := hxw.lt
                  clear tW hxw
                  refine wp_region_plan [(0, 0), (0, 1), (0, 2), (1, 4), (1, 5), (2, 3), (2, 6), (0, 7), (0, 8), (0, 9), (0, 10), (0, 11), (0, 12), (0, 13), (1, 15), (2, 14), (2, 16), (0, 17), (0, 18), (0, 19)] (fun _ => False) (by kernel_rfl) (by kernel_rfl) (fun c a d v w h => by cases d <;> exact h) ?_
                  rw [← hW]
                  clear hW
                  iterate 3
                    refine plan_s1 rfl (by rfl) (fun Kc hKc => ?_)
                    go_simp
                    first
                      | (refine hKc _ ?_)
                    clear hKc Kc
                  iterate 2
                    apply plan_h
                    · rfl
                    · rfl
                    · intro wh hT
                      have hf0 := (hT.cell (p := ⟨w3.heap.size, 1, none⟩) hpl (fun e => e)).trans y1
                      go_simp
                      try rfl
                    go_frame
                  refine plan_a1 rfl (by rfl) (fun Kc hKc => ?_)
                  go_simp
                  refine (lfiles_any HDW.out).mono ?_
                  rintro e w6 ⟨A6, c6, rfl, hr6, t6⟩
                  refine hKc _ _ ⟨t6, ?_⟩
                  clear hKc Kc
                  rw [HEf.out] at hr6 ⊢
                  refine plan_a1 rfl (by rfl) (fun Kc hKc => ?_)
                  go_simp
                  refine (fsame_yes _ RF3 A6 A3 c6 c3 R'.fs w6 hr6 ((HR4.out.touch HTW.out (fun _ _ e => e)).touch t6 (fun _ _ e => e)) (by rw [← HEf.out]; have := HD4.out.ok.n; omega)).mono ?_
                  rintro e w7 ⟨rfl, t7⟩
                  refine hKc _ _ ⟨t7, ?_⟩
                  clear hKc Kc
                  have HT7 := Lib.hid ((HTW.out.trans t6 (fun _ _ e => e)).trans t7 (fun _ _ e => e))
                  clear hr6 t6 t7 y1 hpl
                  iterate 6
                    refine plan_s1 rfl (by rfl) (fun Kc hKc => ?_)
                    go_simp
                    first
                      | (refine hKc _ ?_)
                    clear hKc Kc
                  refine plan_s0 rfl (by rfl) ?_
                  go_frame
                  refine plan_hn rfl (by rfl) ?_
                  go_frame
                  refine plan_a0 rfl (by rfl) ?_
                  go_frame
                  refine plan_a0 rfl (by rfl) ?_
                  go_frame
                  refine plan_s0 rfl (by rfl) ?_
                  go_frame
                  iterate 2
                    refine plan_s1 rfl (by rfl) (fun Kc hKc => ?_)
                    go_simp
                    first
                      | (refine hKc _ ?_)
                    clear hKc Kc
                  refine plan_done ?_
                  have HXe := Lib.hid (HT7.out.blk HX4.out (fun e => e))
                  have HBe := Lib.hid (HT7.out.blk HB4.out (fun e => e))
                  have y0 := HXe.out.cell 0; have y1 := HXe.out.cell 1; have y2 := HXe.out.cell 2; have y3 := HXe.out.cell 3; have y4 := HXe.out.cell 4; simp at y0 y1 y2 y3 y4
                  have hbe := HBe.out
                  have p0 := hbe.cell 0
                  have p1 := hbe.cell 1
                  have p2 := hbe.cell 2
                  have p3 := hbe.cell 3
                  have p4 := hbe.cell 4
                  have m0 := hbe.frozen 0; have m1 := hbe.frozen 1; have m2 := hbe.frozen 2; have m3 := hbe.frozen 3; have m4 := hbe.frozen 4
                  simp [rdA] at p0 p1 p2 p3 p4
                  clear hbe
                  have HL := Lib.hid (did_two hgt hge hTs ⟨hbl, hobl⟩ hdl HF.out HRF.out HT.out (HTo.out.trans HT1o.out (fun _ _ e => e)) HO.out HD3.out HR3.out HF3.out HRF3.out HT3.out (show Touch (fun q => q = tb) w3 _ from ((HT4.out.trans HT7.out (fun _ _ e => e)).mono (S' := fun q => q = tb) (fun _ _ e => e.elim)).trans (tch5 (w := w7) tb (.int .i64 R'.room) (.slice A3 R'.fs.length c3) (.bool R'.down) (.int .i64 R'.armed) (.int .u64 (R'.steps : Int))) (fun q _ e => e)) (blk5 HBe.out (.int .i64 R'.room) (.slice A3 R'.fs.length c3) (.bool R'.down) (.int .i64 R'.armed) (.int .u64 (R'.steps : Int))))
                  go_wp2_with fail
                  go_roundw
                  case rel => exact ⟨j + 1, by omega, by go_num, E, R', by rw [hEs]; simp, by omega, by omega, HAS.out.inv, HL.out⟩
                  case measure => simp [intOf]; omega
              · cases hEd : E.down
                · rcases HAS.out.n with hEs | hEs
                  · have hk6 : decide ((6 : Int) ≤ p.k) = false := by simp only [decide_eq_false_iff_not]; omega
                    have hk0 : (p.k == 0) = true := by rw [hk]; rfl
                    have hkb : decide ((9 : Int) < p.k) = false := by simp only [decide_eq_false_iff_not]; omega
                    have hkn : decide (p.k < 0) = false := by simp only [decide_eq_false_iff_not]; omega
                    have hap : isApp p.k = true := by unfold isApp; simp; omega
                    have hgo : decide ((st : Int) < (D.steps : Int)) = false := by simp only [decide_eq_false_iff_not]; omega
                    clear hk hk69 hap
                    go_wp2_with (first
                      | (go_at_call 41; rw [← HWo.out]; go_must (refine (lfiles_any (HD.out.far HTo.out)).mono ?_); rintro e w1 ⟨A8, c8, rfl, hr8, t1⟩
                         have HBf := Lib.hid hr8
                         have HT1o := Lib.hid t1
                         have hs1 := t1.size
                         have hb1 := t1.blk hbo (fun e => e)
                         have p0 := hb1.cell 0
                         have p1 := hb1.cell 1
                         have p2 := hb1.cell 2
                         have p3 := hb1.cell 3
                         have p4 := hb1.cell 4
                         simp [rdA] at p0 p1 p2 p3 p4
                         have hx1 := t1.blk HBo.out (fun e => e)
                         have x0 := hx1.cell 0; have x1 := hx1.cell 1; have x2 := hx1.cell 2; have x3 := hx1.cell 3; have x4 := hx1.cell 4; have x5 := hx1.cell 5; simp at x0 x1 x2 x3 x4 x5
                         clear hr8 t1 hb1 hx1)
                      | (go_at_call 34
                         go_must (refine (HDo.out w1 HT1o.out).mono ?_); rintro e w3 ⟨A3, c3, F3, RF3, bb, rfl, hd3, hr3, hF3, hRF3, t3⟩
                         rw [show rdA A3 c3 R' = #[.int .i64 R'.room, .slice A3 R'.fs.length c3, .bool R'.down, .int .i64 R'.armed, .int .u64 (R'.steps : Int)] from rfl]
                         have hs3 := t3.size
                         obtain ⟨w4, hw4⟩ : ∃ w4, w4 = w3.alloc (.cells #[.int .i64 R'.room, .slice A3 R'.fs.length c3, .bool R'.down, .int .i64 R'.armed, .int .u64 (R'.steps : Int)] 67) := ⟨_, rfl⟩
                         have HW4 := Lib.hid hw4
                         have t4 : Touch (fun _ => False) w3 w4 := hw4 ▸ (Touch.refl (fun _ => False) w3).alloc _
                         have HD3 := Lib.hid hd3
                         have HR3 := Lib.hid hr3
                         have HF3 := Lib.hid hF3
                         have HRF3 := Lib.hid hRF3
                         have HT3 := Lib.hid t3
                         have HT4 := Lib.hid t4
                         have HD4 := Lib.hid (hd3.far t4)
                         have HR4 := Lib.hid (hr3.touch t4 (fun _ _ e => e))
                         have HX4 := Lib.hid (show Blk w4 w3.heap.size 67 #[.int .i64 R'.room, .slice A3 R'.fs.length c3, .bool R'.down, .int .i64 R'.armed, .int .u64 (R'.steps : Int)] from hw4 ▸ Blk.new w3 _ _)
                         have HP4 := Lib.hid ((t4.blk (t3.blk (HT1o.out.blk HBo.out (fun e => e)) (by omega)) (fun e => e)))
                         have HB4 := Lib.hid ((t4.blk (t3.blk ((HTo.out.trans HT1o.out (fun _ _ e => e)).blk HB.out (fun e => e)) (by omega)) (fun e => e)))
                         have HBf4 := Lib.hid ((HBf.out.touch t3 (fun q hq e => by omega)).touch t4 (fun _ _ e => e))
                         have hs4 := t4.size
                         have hs4' : w4.heap.size = w3.heap.size + 1 := by rw [hw4]; simp
                         clear hd3 hr3 hF3 hRF3 t3 t4 p0 p1 p2 p3 p4 x0 x1 x2 x3 x4 x5 hw4
                         have HXe := Lib.hid HX4.out
                         have HBe := Lib.hid HB4.out
                         have y0 := HXe.out.cell 0; have y1 := HXe.out.cell 1; have y2 := HXe.out.cell 2; have y3 := HXe.out.cell 3; have y4 := HXe.out.cell 4; simp at y0 y1 y2 y3 y4
                         have hbe := HBe.out
                         have p0 := hbe.cell 0
                         have p1 := hbe.cell 1
                         have p2 := hbe.cell 2
                         have p3 := hbe.cell 3
                         have p4 := hbe.cell 4
                         have m0 := hbe.frozen 0; have m1 := hbe.frozen 1; have m2 := hbe.frozen 2; have m3 := hbe.frozen 3; have m4 := hbe.frozen 4
                         simp [rdA] at p0 p1 p2 p3 p4
                         clear hbe)
                      | (go_at_call 39; have M9 := HD4; rw [← HW4.out]; go_must (refine (dsteps_any HD4.out).mono ?_); rintro e wz ⟨rfl, rfl⟩; have M8 := Lib.hid trivial)
                      | (go_at_call 39; rw [← HWo.out]; go_must (refine (dsteps_any (HD.out.far HTo.out)).mono ?_); rintro e wz ⟨rfl, rfl⟩; rw [HWo.out])
                      | (go_at_call 36; have M9 := HD4; go_must (refine (ddown_any HD4.out).mono ?_); rintro e wz ⟨rfl, rfl⟩)
                      | (go_at_call 36; rw [← HWo.out]; go_must (refine HDw.out.mono ?_); rintro e wz ⟨rfl, rfl⟩; rw [HWo.out]))
                    have HL := Lib.hid (did_two hgt hge hTs ⟨hbl, hobl⟩ hdl HF.out HRF.out HT.out (HTo.out.trans HT1o.out (fun _ _ e => e)) HO.out HD3.out HR3.out HF3.out HRF3.out HT3.out (show Touch (fun q => q = tb) w3 _ from (HT4.out.mono (S' := fun q => q = tb) (fun _ _ e => e.elim)).trans (tch5 (w := w4) tb (.int .i64 R'.room) (.slice A3 R'.fs.length c3) (.bool R'.down) (.int .i64 R'.armed) (.int .u64 (R'.steps : Int))) (fun q _ e => e)) (blk5 HBe.out (.int .i64 R'.room) (.slice A3 R'.fs.length c3) (.bool R'.down) (.int .i64 R'.armed) (.int .u64 (R'.steps : Int))))
                    go_roundw
                    case rel => exact ⟨j + 1, by omega, by go_num, E, R', by rw [hEs], by omega, by omega, HAS.out.inv, HL.out⟩
                    case measure => simp [intOf]; omega
                  · have hk6 : decide ((6 : Int) ≤ p.k) = false := by simp only [decide_eq_false_iff_not]; omega
                    have hk0 : (p.k == 0) = true := by rw [hk]; rfl
                    have hkb : decide ((9 : Int) < p.k) = false := by simp only [decide_eq_false_iff_not]; omega
                    have hkn : decide (p.k < 0) = false := by simp only [decide_eq_false_iff_not]; omega
                    have hap : isApp p.k = true := by unfold isApp; simp; omega
                    have hgo : decide ((st : Int) < (D.steps : Int) + 1) = false := by
                      have h2 := HAS.out.down
                      rw [hEs, hEd] at h2
                      simp at h2
                      simp only [decide_eq_false_iff_not]; omega
                    clear hk hk69 hap
                    go_wp2_with (first
                      | (go_at_call 41; rw [← HWo.out]; go_must (refine (lfiles_any (HD.out.far HTo.out)).mono ?_); rintro e w1 ⟨A8, c8, rfl, hr8, t1⟩
                         have HBf := Lib.hid hr8
                         have HT1o := Lib.hid t1
                         have hs1 := t1.size
                         have hb1 := t1.blk hbo (fun e => e)
                         have p0 := hb1.cell 0
                         have p1 := hb1.cell 1
                         have p2 := hb1.cell 2
                         have p3 := hb1.cell 3
                         have p4 := hb1.cell 4
                         simp [rdA] at p0 p1 p2 p3 p4
                         have hx1 := t1.blk HBo.out (fun e => e)
                         have x0 := hx1.cell 0; have x1 := hx1.cell 1; have x2 := hx1.cell 2; have x3 := hx1.cell 3; have x4 := hx1.cell 4; have x5 := hx1.cell 5; simp at x0 x1 x2 x3 x4 x5
                         clear hr8 t1 hb1 hx1)
                      | (go_at_call 34
                         go_must (refine (HDo.out w1 HT1o.out).mono ?_); rintro e w3 ⟨A3, c3, F3, RF3, bb, rfl, hd3, hr3, hF3, hRF3, t3⟩
                         rw [show rdA A3 c3 R' = #[.int .i64 R'.room, .slice A3 R'.fs.length c3, .bool R'.down, .int .i64 R'.armed, .int .u64 (R'.steps : Int)] from rfl]
                         have hs3 := t3.size
                         obtain ⟨w4, hw4⟩ : ∃ w4, w4 = w3.alloc (.cells #[.int .i64 R'.room, .slice A3 R'.fs.length c3, .bool R'.down, .int .i64 R'.armed, .int .u64 (R'.steps : Int)] 67) := ⟨_, rfl⟩
                         have HW4 := Lib.hid hw4
                         have t4 : Touch (fun _ => False) w3 w4 := hw4 ▸ (Touch.refl (fun _ => False) w3).alloc _
                         have HD3 := Lib.hid hd3
                         have HR3 := Lib.hid hr3
                         have HF3 := Lib.hid hF3
                         have HRF3 := Lib.hid hRF3
                         have HT3 := Lib.hid t3
                         have HT4 := Lib.hid t4
                         have HD4 := Lib.hid (hd3.far t4)
                         have HR4 := Lib.hid (hr3.touch t4 (fun _ _ e => e))
                         have HX4 := Lib.hid (show Blk w4 w3.heap.size 67 #[.int .i64 R'.room, .slice A3 R'.fs.length c3, .bool R'.down, .int .i64 R'.armed, .int .u64 (R'.steps : Int)] from hw4 ▸ Blk.new w3 _ _)
                         have HP4 := Lib.hid ((t4.blk (t3.blk (HT1o.out.blk HBo.out (fun e => e)) (by omega)) (fun e => e)))
                         have HB4 := Lib.hid ((t4.blk (t3.blk ((HTo.out.trans HT1o.out (fun _ _ e => e)).blk HB.out (fun e => e)) (by omega)) (fun e => e)))
                         have HBf4 := Lib.hid ((HBf.out.touch t3 (fun q hq e => by omega)).touch t4 (fun _ _ e => e))
                         have hs4 := t4.size
                         have hs4' : w4.heap.size = w3.heap.size + 1 := by rw [hw4]; simp
                         clear hd3 hr3 hF3 hRF3 t3 t4 p0 p1 p2 p3 p4 x0 x1 x2 x3 x4 x5 hw4
                         have HXe := Lib.hid HX4.out
                         have HBe := Lib.hid HB4.out
                         have y0 := HXe.out.cell 0; have y1 := HXe.out.cell 1; have y2 := HXe.out.cell 2; have y3 := HXe.out.cell 3; have y4 := HXe.out.cell 4; simp at y0 y1 y2 y3 y4
                         have hbe := HBe.out
                         have p0 := hbe.cell 0
                         have p1 := hbe.cell 1
                         have p2 := hbe.cell 2
                         have p3 := hbe.cell 3
                         have p4 := hbe.cell 4
                         have m0 := hbe.frozen 0; have m1 := hbe.frozen 1; have m2 := hbe.frozen 2; have m3 := hbe.frozen 3; have m4 := hbe.frozen 4
                         simp [rdA] at p0 p1 p2 p3 p4
                         clear hbe)
                      | (go_at_call 39; have M9 := HD4; rw [← HW4.out]; go_must (refine (dsteps_any HD4.out).mono ?_); rintro e wz ⟨rfl, rfl⟩; have M8 := Lib.hid trivial)
                      | (go_at_call 39; rw [← HWo.out]; go_must (refine (dsteps_any (HD.out.far HTo.out)).mono ?_); rintro e wz ⟨rfl, rfl⟩; rw [HWo.out])
                      | (go_at_call 36; have M9 := HD4; go_must (refine (ddown_any HD4.out).mono ?_); rintro e wz ⟨rfl, rfl⟩)
                      | (go_at_call 36; rw [← HWo.out]; go_must (refine HDw.out.mono ?_); rintro e wz ⟨rfl, rfl⟩; rw [HWo.out]))
                    have HL := Lib.hid (did_two hgt hge hTs ⟨hbl, hobl⟩ hdl HF.out HRF.out HT.out (HTo.out.trans HT1o.out (fun _ _ e => e)) HO.out HD3.out HR3.out HF3.out HRF3.out HT3.out (show Touch (fun q => q = tb) w3 _ from (HT4.out.mono (S' := fun q => q = tb) (fun _ _ e => e.elim)).trans (tch5 (w := w4) tb (.int .i64 R'.room) (.slice A3 R'.fs.length c3) (.bool R'.down) (.int .i64 R'.armed) (.int .u64 (R'.steps : Int))) (fun q _ e => e)) (blk5 HBe.out (.int .i64 R'.room) (.slice A3 R'.fs.length c3) (.bool R'.down) (.int .i64 R'.armed) (.int .u64 (R'.steps : Int))))
                    go_roundw
                    case rel => exact ⟨j + 1, by omega, by go_num, E, R', by rw [hEs]; simp, by omega, by omega, HAS.out.inv, HL.out⟩
                    case measure => simp [intOf]; omega
                · have hk6 : decide ((6 : Int) ≤ p.k) = false := by simp only [decide_eq_false_iff_not]; omega
                  have hk0 : (p.k == 0) = true := by rw [hk]; rfl
                  have hkb : decide ((9 : Int) < p.k) = false := by simp only [decide_eq_false_iff_not]; omega
                  have hkn : decide (p.k < 0) = false := by simp only [decide_eq_false_iff_not]; omega
                  have hap : isApp p.k = true := by unfold isApp; simp; omega
                  have hEs : E.steps = D.steps + 1 := by
                    rcases HAS.out.n with h | h
                    · have h2 := HAS.out.down
                      rw [h, hEd] at h2
                      simp at h2
                      omega
                    · exact h
                  have hgo : decide ((st : Int) < (D.steps : Int) + 1) = true := by
                    have h2 := HAS.out.down
                    rw [hEs, hEd] at h2
                    simp at h2
                    simp only [decide_eq_true_eq]; omega
                  have hef : E.fs = R'.fs := HAS.out.app hEd hap
                  have HEf := Lib.hid hef
                  clear hef
                  clear hk hk69 hap
                  go_wp2_with (first
                    | (go_at_call 41; rw [← HWo.out]; go_must (refine (lfiles_any (HD.out.far HTo.out)).mono ?_); rintro e w1 ⟨A8, c8, rfl, hr8, t1⟩
                       have HBf := Lib.hid hr8
                       have HT1o := Lib.hid t1
                       have hs1 := t1.size
                       have hb1 := t1.blk hbo (fun e => e)
                       have p0 := hb1.cell 0
                       have p1 := hb1.cell 1
                       have p2 := hb1.cell 2
                       have p3 := hb1.cell 3
                       have p4 := hb1.cell 4
                       simp [rdA] at p0 p1 p2 p3 p4
                       have hx1 := t1.blk HBo.out (fun e => e)
                       have x0 := hx1.cell 0; have x1 := hx1.cell 1; have x2 := hx1.cell 2; have x3 := hx1.cell 3; have x4 := hx1.cell 4; have x5 := hx1.cell 5; simp at x0 x1 x2 x3 x4 x5
                       clear hr8 t1 hb1 hx1)
                    | (go_at_call 34
                       go_must (refine (HDo.out w1 HT1o.out).mono ?_); rintro e w3 ⟨A3, c3, F3, RF3, bb, rfl, hd3, hr3, hF3, hRF3, t3⟩
                       rw [show rdA A3 c3 R' = #[.int .i64 R'.room, .slice A3 R'.fs.length c3, .bool R'.down, .int .i64 R'.armed, .int .u64 (R'.steps : Int)] from rfl]
                       have hs3 := t3.size
                       obtain ⟨w4, hw4⟩ : ∃ w4, w4 = w3.alloc (.cells #[.int .i64 R'.room, .slice A3 R'.fs.length c3, .bool R'.down, .int .i64 R'.armed, .int .u64 (R'.steps : Int)] 67) := ⟨_, rfl⟩
                       have HW4 := Lib.hid hw4
                       have t4 : Touch (fun _ => False) w3 w4 := hw4 ▸ (Touch.refl (fun _ => False) w3).alloc _
                       have HD3 := Lib.hid hd3
                       have HR3 := Lib.hid hr3
                       have HF3 := Lib.hid hF3
                       have HRF3 := Lib.hid hRF3
                       have HT3 := Lib.hid t3
                       have HT4 := Lib.hid t4
                       have HD4 := Lib.hid (hd3.far t4)
                       have HR4 := Lib.hid (hr3.touch t4 (fun _ _ e => e))
                       have HX4 := Lib.hid (show Blk w4 w3.heap.size 67 #[.int .i64 R'.room, .slice A3 R'.fs.length c3, .bool R'.down, .int .i64 R'.armed, .int .u64 (R'.steps : Int)] from hw4 ▸ Blk.new w3 _ _)
                       have HP4 := Lib.hid ((t4.blk (t3.blk (HT1o.out.blk HBo.out (fun e => e)) (by omega)) (fun e => e)))
                       have HB4 := Lib.hid ((t4.blk (t3.blk ((HTo.out.trans HT1o.out (fun _ _ e => e)).blk HB.out (fun e => e)) (by omega)) (fun e => e)))
                       have HBf4 := Lib.hid ((HBf.out.touch t3 (fun q hq e => by omega)).touch t4 (fun _ _ e => e))
                       have hs4 := t4.size
                       have hs4' : w4.heap.size = w3.heap.size + 1 := by rw [hw4]; simp
                       clear hd3 hr3 hF3 hRF3 t3 t4 p0 p1 p2 p3 p4 x0 x1 x2 x3 x4 x5 hw4
                       have x0 := HP4.out.cell 0; have x1 := HP4.out.cell 1; have x2 := HP4.out.cell 2; have x3 := HP4.out.cell 3; have x4 := HP4.out.cell 4; have x5 := HP4.out.cell 5; simp at x0 x1 x2 x3 x4 x5)
                    | (go_at_call 39; have M9 := HD4; rw [← HW4.out]; go_must (refine (dsteps_any HD4.out).mono ?_); rintro e wz ⟨rfl, rfl⟩; have M8 := Lib.hid trivial)
                    | (go_at_call 39; rw [← HWo.out]; go_must (refine (dsteps_any (HD.out.far HTo.out)).mono ?_); rintro e wz ⟨rfl, rfl⟩; rw [HWo.out])
                    | (go_at_call 36; have M9 := HD4; go_must (refine (ddown_any HD4.out).mono ?_); rintro e wz ⟨rfl, rfl⟩)
                    | (go_at_call 36; rw [← HWo.out]; go_must (refine HDw.out.mono ?_); rintro e wz ⟨rfl, rfl⟩; rw [HWo.out]))
                  obtain ⟨W, hW⟩ : ∃ W, W = w4.drew := ⟨_, rfl⟩
                  have tW : Touch (fun _ => False) w4 W := hW ▸ (Touch.refl _ _).drew
                  have HTW := Lib.hid tW
                  have HDW := Lib.hid (HD4.out.far tW)
                  have HXW := Lib.hid (tW.blk HX4.out (fun e => e))
                  have hxw := HXW.out
                  have y1 := hxw.cell 1
                  simp at y1
                  have hpl := hxw.lt
                  clear tW hxw
                  refine wp_region_plan [(0, 0), (0, 1), (0, 2), (1, 4), (1, 5), (2, 3), (2, 6), (0, 7), (0, 8), (0, 9), (0, 10), (0, 11), (0, 12), (0, 13), (1, 15), (2, 14), (2, 16), (0, 17), (0, 18), (0, 19)] (fun _ => False) (by kernel_rfl) (by kernel_rfl) (fun c a d v w h => by cases d <;> exact h) ?_
                  rw [← hW]
                  clear hW
                  iterate 3
                    refine plan_s1 rfl (by rfl) (fun Kc hKc => ?_)
                    go_simp
                    first
                      | (refine hKc _ ?_)
                    clear hKc Kc
                  iterate 2
                    apply plan_h
                    · rfl
                    · rfl
                    · intro wh hT
                      have hf0 := (hT.cell (p := ⟨w3.heap.size, 1, none⟩) hpl (fun e => e)).trans y1
                      go_simp
                      try rfl
                    go_frame
                  refine plan_a1 rfl (by rfl) (fun Kc hKc => ?_)
                  go_simp
                  refine (lfiles_any HDW.out).mono ?_
                  rintro e w6 ⟨A6, c6, rfl, hr6, t6⟩
                  refine hKc _ _ ⟨t6, ?_⟩
                  clear hKc Kc
                  rw [HEf.out] at hr6 ⊢
                  refine plan_a1 rfl (by rfl) (fun Kc hKc => ?_)
                  go_simp
                  refine (fsame_yes _ RF3 A6 A3 c6 c3 R'.fs w6 hr6 ((HR4.out.touch HTW.out (fun _ _ e => e)).touch t6 (fun _ _ e => e)) (by rw [← HEf.out]; have := HD4.out.ok.n; omega)).mono ?_
                  rintro e w7 ⟨rfl, t7⟩
                  refine hKc _ _ ⟨t7, ?_⟩
                  clear hKc Kc
                  have HT7 := Lib.hid ((HTW.out.trans t6 (fun _ _ e => e)).trans t7 (fun _ _ e => e))
                  clear hr6 t6 t7 y1 hpl
                  iterate 6
                    refine plan_s1 rfl (by rfl) (fun Kc hKc => ?_)
                    go_simp
                    first
                      | (refine hKc _ ?_)
                    clear hKc Kc
                  refine plan_s0 rfl (by rfl) ?_
                  go_frame
                  refine plan_hn rfl (by rfl) ?_
                  go_frame
                  refine plan_a0 rfl (by rfl) ?_
                  go_frame
                  refine plan_a0 rfl (by rfl) ?_
                  go_frame
                  refine plan_s0 rfl (by rfl) ?_
                  go_frame
                  iterate 2
                    refine plan_s1 rfl (by rfl) (fun Kc hKc => ?_)
                    go_simp
                    first
                      | (refine hKc _ ?_)
                    clear hKc Kc
                  refine plan_done ?_
                  have HXe := Lib.hid (HT7.out.blk HX4.out (fun e => e))
                  have HBe := Lib.hid (HT7.out.blk HB4.out (fun e => e))
                  have y0 := HXe.out.cell 0; have y1 := HXe.out.cell 1; have y2 := HXe.out.cell 2; have y3 := HXe.out.cell 3; have y4 := HXe.out.cell 4; simp at y0 y1 y2 y3 y4
                  have hbe := HBe.out
                  have p0 := hbe.cell 0
                  have p1 := hbe.cell 1
                  have p2 := hbe.cell 2
                  have p3 := hbe.cell 3
                  have p4 := hbe.cell 4
                  have m0 := hbe.frozen 0; have m1 := hbe.frozen 1; have m2 := hbe.frozen 2; have m3 := hbe.frozen 3; have m4 := hbe.frozen 4
                  simp [rdA] at p0 p1 p2 p3 p4
                  clear hbe
                  have HL := Lib.hid (did_two hgt hge hTs ⟨hbl, hobl⟩ hdl HF.out HRF.out HT.out (HTo.out.trans HT1o.out (fun _ _ e => e)) HO.out HD3.out HR3.out HF3.out HRF3.out HT3.out (show Touch (fun q => q = tb) w3 _ from ((HT4.out.trans HT7.out (fun _ _ e => e)).mono (S' := fun q => q = tb) (fun _ _ e => e.elim)).trans (tch5 (w := w7) tb (.int .i64 R'.room) (.slice A3 R'.fs.length c3) (.bool R'.down) (.int .i64 R'.armed) (.int .u64 (R'.steps : Int))) (fun q _ e => e)) (blk5 HBe.out (.int .i64 R'.room) (.slice A3 R'.fs.length c3) (.bool R'.down) (.int .i64 R'.armed) (.int .u64 (R'.steps : Int))))
                  go_wp2_with fail
                  go_roundw
                  case rel => exact ⟨j + 1, by omega, by go_num, E, R', by rw [hEs]; simp, by omega, by omega, HAS.out.inv, HL.out⟩
                  case measure => simp [intOf]; omega
              · cases hEd : E.down
                · rcases HAS.out.n with hEs | hEs
                  · have hk6 : decide ((6 : Int) ≤ p.k) = false := by simp only [decide_eq_false_iff_not]; omega
                    have hk0 : (p.k == 0) = false := by simp only [beq_eq_false_iff_ne]; omega
                    have hkb : decide ((9 : Int) < p.k) = false := by simp only [decide_eq_false_iff_not]; omega
                    have hkn : decide (p.k < 0) = false := by simp only [decide_eq_false_iff_not]; omega
                    have hap : isApp p.k = false := by unfold isApp; simp; omega
                    have hgo : decide ((st : Int) < (D.steps : Int)) = false := by simp only [decide_eq_false_iff_not]; omega
                    clear hk hk69 hap
                    go_wp2_with (first
                      | (go_at_call 41; rw [← HWo.out]; go_must (refine (lfiles_any (HD.out.far HTo.out)).mono ?_); rintro e w1 ⟨A8, c8, rfl, hr8, t1⟩
                         have HBf := Lib.hid hr8
                         have HT1o := Lib.hid t1
                         have hs1 := t1.size
                         have hb1 := t1.blk hbo (fun e => e)
                         have p0 := hb1.cell 0
                         have p1 := hb1.cell 1
                         have p2 := hb1.cell 2
                         have p3 := hb1.cell 3
                         have p4 := hb1.cell 4
                         simp [rdA] at p0 p1 p2 p3 p4
                         have hx1 := t1.blk HBo.out (fun e => e)
                         have x0 := hx1.cell 0; have x1 := hx1.cell 1; have x2 := hx1.cell 2; have x3 := hx1.cell 3; have x4 := hx1.cell 4; have x5 := hx1.cell 5; simp at x0 x1 x2 x3 x4 x5
                         clear hr8 t1 hb1 hx1)
                      | (go_at_call 34
                         go_must (refine (HDo.out w1 HT1o.out).mono ?_); rintro e w3 ⟨A3, c3, F3, RF3, bb, rfl, hd3, hr3, hF3, hRF3, t3⟩
                         rw [show rdA A3 c3 R' = #[.int .i64 R'.room, .slice A3 R'.fs.length c3, .bool R'.down, .int .i64 R'.armed, .int .u64 (R'.steps : Int)] from rfl]
                         have hs3 := t3.size
                         obtain ⟨w4, hw4⟩ : ∃ w4, w4 = w3.alloc (.cells #[.int .i64 R'.room, .slice A3 R'.fs.length c3, .bool R'.down, .int .i64 R'.armed, .int .u64 (R'.steps : Int)] 67) := ⟨_, rfl⟩
                         have HW4 := Lib.hid hw4
                         have t4 : Touch (fun _ => False) w3 w4 := hw4 ▸ (Touch.refl (fun _ => False) w3).alloc _
                         have HD3 := Lib.hid hd3
                         have HR3 := Lib.hid hr3
                         have HF3 := Lib.hid hF3
                         have HRF3 := Lib.hid hRF3
                         have HT3 := Lib.hid t3
                         have HT4 := Lib.hid t4
                         have HD4 := Lib.hid (hd3.far t4)
                         have HR4 := Lib.hid (hr3.touch t4 (fun _ _ e => e))
                         have HX4 := Lib.hid (show Blk w4 w3.heap.size 67 #[.int .i64 R'.room, .slice A3 R'.fs.length c3, .bool R'.down, .int .i64 R'.armed, .int .u64 (R'.steps : Int)] from hw4 ▸ Blk.new w3 _ _)
                         have HP4 := Lib.hid ((t4.blk (t3.blk (HT1o.out.blk HBo.out (fun e => e)) (by omega)) (fun e => e)))
                         have HB4 := Lib.hid ((t4.blk (t3.blk ((HTo.out.trans HT1o.out (fun _ _ e => e)).blk HB.out (fun e => e)) (by omega)) (fun e => e)))
                         have HBf4 := Lib.hid ((HBf.out.touch t3 (fun q hq e => by omega)).touch t4 (fun _ _ e => e))
                         have hs4 := t4.size
                         have hs4' : w4.heap.size = w3.heap.size + 1 := by rw [hw4]; simp
                         clear hd3 hr3 hF3 hRF3 t3 t4 p0 p1 p2 p3 p4 x0 x1 x2 x3 x4 x5 hw4
                         have HXe := Lib.hid HX4.out
                         have HBe := Lib.hid HB4.out
                         have y0 := HXe.out.cell 0; have y1 := HXe.out.cell 1; have y2 := HXe.out.cell 2; have y3 := HXe.out.cell 3; have y4 := HXe.out.cell 4; simp at y0 y1 y2 y3 y4
                         have hbe := HBe.out
                         have p0 := hbe.cell 0
                         have p1 := hbe.cell 1
                         have p2 := hbe.cell 2
                         have p3 := hbe.cell 3
                         have p4 := hbe.cell 4
                         have m0 := hbe.frozen 0; have m1 := hbe.frozen 1; have m2 := hbe.frozen 2; have m3 := hbe.frozen 3; have m4 := hbe.frozen 4
                         simp [rdA] at p0 p1 p2 p3 p4
                         clear hbe)
                      | (go_at_call 39; have M9 := HD4; rw [← HW4.out]; go_must (refine (dsteps_any HD4.out).mono ?_); rintro e wz ⟨rfl, rfl⟩; have M8 := Lib.hid trivial)
                      | (go_at_call 39; rw [← HWo.out]; go_must (refine (dsteps_any (HD.out.far HTo.out)).mono ?_); rintro e wz ⟨rfl, rfl⟩; rw [HWo.out])
                      | (go_at_call 36; have M9 := HD4; go_must (refine (ddown_any HD4.out).mono ?_); rintro e wz ⟨rfl, rfl⟩)
                      | (go_at_call 36; rw [← HWo.out]; go_must (refine HDw.out.mono ?_); rintro e wz ⟨rfl, rfl⟩; rw [HWo.out]))
                    have HL := Lib.hid (did_two hgt hge hTs ⟨hbl, hobl⟩ hdl HF.out HRF.out HT.out (HTo.out.trans HT1o.out (fun _ _ e => e)) HO.out HD3.out HR3.out HF3.out HRF3.out HT3.out (show Touch (fun q => q = tb) w3 _ from (HT4.out.mono (S' := fun q => q = tb) (fun _ _ e => e.elim)).trans (tch5 (w := w4) tb (.int .i64 R'.room) (.slice A3 R'.fs.length c3) (.bool R'.down) (.int .i64 R'.armed) (.int .u64 (R'.steps : Int))) (fun q _ e => e)) (blk5 HBe.out (.int .i64 R'.room) (.slice A3 R'.fs.length c3) (.bool R'.down) (.int .i64 R'.armed) (.int .u64 (R'.steps : Int))))
                    go_roundw
                    case rel => exact ⟨j + 1, by omega, by go_num, E, R', by rw [hEs], by omega, by omega, HAS.out.inv, HL.out⟩
                    case measure => simp [intOf]; omega
                  · have hk6 : decide ((6 : Int) ≤ p.k) = false := by simp only [decide_eq_false_iff_not]; omega
                    have hk0 : (p.k == 0) = false := by simp only [beq_eq_false_iff_ne]; omega
                    have hkb : decide ((9 : Int) < p.k) = false := by simp only [decide_eq_false_iff_not]; omega
                    have hkn : decide (p.k < 0) = false := by simp only [decide_eq_false_iff_not]; omega
                    have hap : isApp p.k = false := by unfold isApp; simp; omega
                    have hgo : decide ((st : Int) < (D.steps : Int) + 1) = false := by
                      have h2 := HAS.out.down
                      rw [hEs, hEd] at h2
                      simp at h2
                      simp only [decide_eq_false_iff_not]; omega
                    clear hk hk69 hap
                    go_wp2_with (first
                      | (go_at_call 41; rw [← HWo.out]; go_must (refine (lfiles_any (HD.out.far HTo.out)).mono ?_); rintro e w1 ⟨A8, c8, rfl, hr8, t1⟩
                         have HBf := Lib.hid hr8
                         have HT1o := Lib.hid t1
                         have hs1 := t1.size
                         have hb1 := t1.blk hbo (fun e => e)
                         have p0 := hb1.cell 0
                         have p1 := hb1.cell 1
                         have p2 := hb1.cell 2
                         have p3 := hb1.cell 3
                         have p4 := hb1.cell 4
                         simp [rdA] at p0 p1 p2 p3 p4
                         have hx1 := t1.blk HBo.out (fun e => e)
                         have x0 := hx1.cell 0; have x1 := hx1.cell 1; have x2 := hx1.cell 2; have x3 := hx1.cell 3; have x4 := hx1.cell 4; have x5 := hx1.cell 5; simp at x0 x1 x2 x3 x4 x5
                         clear hr8 t1 hb1 hx1)
                      | (go_at_call 34
                         go_must (refine (HDo.out w1 HT1o.out).mono ?_); rintro e w3 ⟨A3, c3, F3, RF3, bb, rfl, hd3, hr3, hF3, hRF3, t3⟩
                         rw [show rdA A3 c3 R' = #[.int .i64 R'.room, .slice A3 R'.fs.length c3, .bool R'.down, .int .i64 R'.armed, .int .u64 (R'.steps : Int)] from rfl]
                         have hs3 := t3.size
                         obtain ⟨w4, hw4⟩ : ∃ w4, w4 = w3.alloc (.cells #[.int .i64 R'.room, .slice A3 R'.fs.length c3, .bool R'.down, .int .i64 R'.armed, .int .u64 (R'.steps : Int)] 67) := ⟨_, rfl⟩
                         have HW4 := Lib.hid hw4
                         have t4 : Touch (fun _ => False) w3 w4 := hw4 ▸ (Touch.refl (fun _ => False) w3).alloc _
                         have HD3 := Lib.hid hd3
                         have HR3 := Lib.hid hr3
                         have HF3 := Lib.hid hF3
                         have HRF3 := Lib.hid hRF3
                         have HT3 := Lib.hid t3
                         have HT4 := Lib.hid t4
                         have HD4 := Lib.hid (hd3.far t4)
                         have HR4 := Lib.hid (hr3.touch t4 (fun _ _ e => e))
                         have HX4 := Lib.hid (show Blk w4 w3.heap.size 67 #[.int .i64 R'.room, .slice A3 R'.fs.length c3, .bool R'.down, .int .i64 R'.armed, .int .u64 (R'.steps : Int)] from hw4 ▸ Blk.new w3 _ _)
                         have HP4 := Lib.hid ((t4.blk (t3.blk (HT1o.out.blk HBo.out (fun e => e)) (by omega)) (fun e => e)))
                         have HB4 := Lib.hid ((t4.blk (t3.blk ((HTo.out.trans HT1o.out (fun _ _ e => e)).blk HB.out (fun e => e)) (by omega)) (fun e => e)))
                         have HBf4 := Lib.hid ((HBf.out.touch t3 (fun q hq e => by omega)).touch t4 (fun _ _ e => e))
                         have hs4 := t4.size
                         have hs4' : w4.heap.size = w3.heap.size + 1 := by rw [hw4]; simp
                         clear hd3 hr3 hF3 hRF3 t3 t4 p0 p1 p2 p3 p4 x0 x1 x2 x3 x4 x5 hw4
                         have HXe := Lib.hid HX4.out
                         have HBe := Lib.hid HB4.out
                         have y0 := HXe.out.cell 0; have y1 := HXe.out.cell 1; have y2 := HXe.out.cell 2; have y3 := HXe.out.cell 3; have y4 := HXe.out.cell 4; simp at y0 y1 y2 y3 y4
                         have hbe := HBe.out
                         have p0 := hbe.cell 0
                         have p1 := hbe.cell 1
                         have p2 := hbe.cell 2
                         have p3 := hbe.cell 3
                         have p4 := hbe.cell 4
                         have m0 := hbe.frozen 0; have m1 := hbe.frozen 1; have m2 := hbe.frozen 2; have m3 := hbe.frozen 3; have m4 := hbe.frozen 4
                         simp [rdA] at p0 p1 p2 p3 p4
                         clear hbe)
                      | (go_at_call 39; have M9 := HD4; rw [← HW4.out]; go_must (refine (dsteps_any HD4.out).mono ?_); rintro e wz ⟨rfl, rfl⟩; have M8 := Lib.hid trivial)
                      | (go_at_call 39; rw [← HWo.out]; go_must (refine (dsteps_any (HD.out.far HTo.out)).mono ?_); rintro e wz ⟨rfl, rfl⟩; rw [HWo.out])
                      | (go_at_call 36; have M9 := HD4; go_must (refine (ddown_any HD4.out).mono ?_); rintro e wz ⟨rfl, rfl⟩)
                      | (go_at_call 36; rw [← HWo.out]; go_must (refine HDw.out.mono ?_); rintro e wz ⟨rfl, rfl⟩; rw [HWo.out]))
                    have HL := Lib.hid (did_two hgt hge hTs ⟨hbl, hobl⟩ hdl HF.out HRF.out HT.out (HTo.out.trans HT1o.out (fun _ _ e => e)) HO.out HD3.out HR3.out HF3.out HRF3.out HT3.out (show Touch (fun q => q = tb) w3 _ from (HT4.out.mono (S' := fun q => q = tb) (fun _ _ e => e.elim)).trans (tch5 (w := w4) tb (.int .i64 R'.room) (.slice A3 R'.fs.length c3) (.bool R'.down) (.int .i64 R'.armed) (.int .u64 (R'.steps : Int))) (fun q _ e => e)) (blk5 HBe.out (.int .i64 R'.room) (.slice A3 R'.fs.length c3) (.bool R'.down) (.int .i64 R'.armed) (.int .u64 (R'.steps : Int))))
                    go_roundw
                    case rel => exact ⟨j + 1, by omega, by go_num, E, R', by rw [hEs]; simp, by omega, by omega, HAS.out.inv, HL.out⟩
                    case measure => simp [intOf]; omega
                · have hk6 : decide ((6 : Int) ≤ p.k) = false := by simp only [decide_eq_false_iff_not]; omega
                  have hk0 : (p.k == 0) = false := by simp only [beq_eq_false_iff_ne]; omega
                  have hkb : decide ((9 : Int) < p.k) = false := by simp only [decide_eq_false_iff_not]; omega
                  have hkn : decide (p.k < 0) = false := by simp only [decide_eq_false_iff_not]; omega
                  have hap : isApp p.k = false := by unfold isApp; simp; omega
                  have hEs : E.steps = D.steps + 1 := by
                    rcases HAS.out.n with h | h
                    · have h2 := HAS.out.down
                      rw [h, hEd] at h2
                      simp at h2
                      omega
                    · exact h
                  have hgo : decide ((st : Int) < (D.steps : Int) + 1) = true := by
                    have h2 := HAS.out.down
                    rw [hEs, hEd] at h2
                    simp at h2
                    simp only [decide_eq_true_eq]; omega
                  have hef : E.fs = D.fs := HAS.out.oth hEd hap
                  have HEf := Lib.hid hef
                  clear hef
                  clear hk hk69 hap
                  go_wp2_with (first
                    | (go_at_call 41; rw [← HWo.out]; go_must (refine (lfiles_any (HD.out.far HTo.out)).mono ?_); rintro e w1 ⟨A8, c8, rfl, hr8, t1⟩
                       have HBf := Lib.hid hr8
                       have HT1o := Lib.hid t1
                       have hs1 := t1.size
                       have hb1 := t1.blk hbo (fun e => e)
                       have p0 := hb1.cell 0
                       have p1 := hb1.cell 1
                       have p2 := hb1.cell 2
                       have p3 := hb1.cell 3
                       have p4 := hb1.cell 4
                       simp [rdA] at p0 p1 p2 p3 p4
                       have hx1 := t1.blk HBo.out (fun e => e)
                       have x0 := hx1.cell 0; have x1 := hx1.cell 1; have x2 := hx1.cell 2; have x3 := hx1.cell 3; have x4 := hx1.cell 4; have x5 := hx1.cell 5; simp at x0 x1 x2 x3 x4 x5
                       clear hr8 t1 hb1 hx1)
                    | (go_at_call 34
                       go_must (refine (HDo.out w1 HT1o.out).mono ?_); rintro e w3 ⟨A3, c3, F3, RF3, bb, rfl, hd3, hr3, hF3, hRF3, t3⟩
                       rw [show rdA A3 c3 R' = #[.int .i64 R'.room, .slice A3 R'.fs.length c3, .bool R'.down, .int .i64 R'.armed, .int .u64 (R'.steps : Int)] from rfl]
                       have hs3 := t3.size
                       obtain ⟨w4, hw4⟩ : ∃ w4, w4 = w3.alloc (.cells #[.int .i64 R'.room, .slice A3 R'.fs.length c3, .bool R'.down, .int .i64 R'.armed, .int .u64 (R'.steps : Int)] 67) := ⟨_, rfl⟩
                       have HW4 := Lib.hid hw4
                       have t4 : Touch (fun _ => False) w3 w4 := hw4 ▸ (Touch.refl (fun _ => False) w3).alloc _
                       have HD3 := Lib.hid hd3
                       have HR3 := Lib.hid hr3
                       have HF3 := Lib.hid hF3
                       have HRF3 := Lib.hid hRF3
                       have HT3 := Lib.hid t3
                       have HT4 := Lib.hid t4
                       have HD4 := Lib.hid (hd3.far t4)
                       have HR4 := Lib.hid (hr3.touch t4 (fun _ _ e => e))
                       have HX4 := Lib.hid (show Blk w4 w3.heap.size 67 #[.int .i64 R'.room, .slice A3 R'.fs.length c3, .bool R'.down, .int .i64 R'.armed, .int .u64 (R'.steps : Int)] from hw4 ▸ Blk.new w3 _ _)
                       have HP4 := Lib.hid ((t4.blk (t3.blk (HT1o.out.blk HBo.out (fun e => e)) (by omega)) (fun e => e)))
                       have HB4 := Lib.hid ((t4.blk (t3.blk ((HTo.out.trans HT1o.out (fun _ _ e => e)).blk HB.out (fun e => e)) (by omega)) (fun e => e)))
                       have HBf4 := Lib.hid ((HBf.out.touch t3 (fun q hq e => by omega)).touch t4 (fun _ _ e => e))
                       have hs4 := t4.size
                       have hs4' : w4.heap.size = w3.heap.size + 1 := by rw [hw4]; simp
                       clear hd3 hr3 hF3 hRF3 t3 t4 p0 p1 p2 p3 p4 x0 x1 x2 x3 x4 x5 hw4
                       have x0 := HP4.out.cell 0; have x1 := HP4.out.cell 1; have x2 := HP4.out.cell 2; have x3 := HP4.out.cell 3; have x4 := HP4.out.cell 4; have x5 := HP4.out.cell 5; simp at x0 x1 x2 x3 x4 x5)
                    | (go_at_call 39; have M9 := HD4; rw [← HW4.out]; go_must (refine (dsteps_any HD4.out).mono ?_); rintro e wz ⟨rfl, rfl⟩; have M8 := Lib.hid trivial)
                    | (go_at_call 39; rw [← HWo.out]; go_must (refine (dsteps_any (HD.out.far HTo.out)).mono ?_); rintro e wz ⟨rfl, rfl⟩; rw [HWo.out])
                    | (go_at_call 36; have M9 := HD4; go_must (refine (ddown_any HD4.out).mono ?_); rintro e wz ⟨rfl, rfl⟩)
                    | (go_at_call 36; rw [← HWo.out]; go_must (refine HDw.out.mono ?_); rintro e wz ⟨rfl, rfl⟩; rw [HWo.out]))
                  obtain ⟨W, hW⟩ : ∃ W, W = w4.drew := ⟨_, rfl⟩
                  have tW : Touch (fun _ => False) w4 W := hW ▸ (Touch.refl _ _).drew
                  have HTW := Lib.hid tW
                  have HDW := Lib.hid (HD4.out.far tW)
                  have HXW := Lib.hid (tW.blk HX4.out (fun e => e))
                  have hxw := HXW.out
                  have y1 := hxw.cell 1
                  simp at y1
                  have hpl := hxw.lt
                  clear tW hxw
                  refine wp_region_plan [(0, 0), (0, 1), (0, 2), (1, 4), (1, 5), (2, 3), (2, 6), (0, 7), (0, 8), (0, 9), (0, 10), (0, 11), (0, 12), (0, 13), (1, 15), (2, 14), (2, 16), (0, 17), (0, 18), (0, 19)] (fun _ => False) (by kernel_rfl) (by kernel_rfl) (fun c a d v w h => by cases d <;> exact h) ?_
                  rw [← hW]
                  clear hW
                  iterate 2
                    refine plan_s1 rfl (by rfl) (fun Kc hKc => ?_)
                    go_simp
                    first
                      | (refine hKc _ ?_)
                    clear hKc Kc
                  refine plan_s0 rfl (by rfl) ?_
                  go_frame
                  refine plan_hn rfl (by rfl) ?_
                  go_frame
                  refine plan_hn rfl (by rfl) ?_
                  go_frame
                  refine plan_a0 rfl (by rfl) ?_
                  go_frame
                  refine plan_a0 rfl (by rfl) ?_
                  go_frame
                  refine plan_s0 rfl (by rfl) ?_
                  go_frame
                  iterate 6
                    refine plan_s1 rfl (by rfl) (fun Kc hKc => ?_)
                    go_simp
                    first
                      | (refine hKc _ ?_)
                    clear hKc Kc
                  iterate 1
                    apply plan_h
                    · rfl
                    · rfl
                    · intro wh hT
                      go_simp
                      try rfl
                    go_frame
                  refine plan_a1 rfl (by rfl) (fun Kc hKc => ?_)
                  go_simp
                  refine (lfiles_any HDW.out).mono ?_
                  rintro e w6 ⟨A6, c6, rfl, hr6, t6⟩
                  refine hKc _ _ ⟨t6, ?_⟩
                  clear hKc Kc
                  rw [HEf.out] at hr6 ⊢
                  refine plan_a1 rfl (by rfl) (fun Kc hKc => ?_)
                  go_simp
                  refine (fsame_yes _ _ A6 A8 c6 c8 D.fs w6 hr6 (((HBf4.out.touch HTW.out (fun _ _ e => e)).touch t6 (fun _ _ e => e))) (by omega)).mono ?_
                  rintro e w7 ⟨rfl, t7⟩
                  refine hKc _ _ ⟨t7, ?_⟩
                  clear hKc Kc
                  have HT7 := Lib.hid ((HTW.out.trans t6 (fun _ _ e => e)).trans t7 (fun _ _ e => e))
                  clear hr6 t6 t7 y1 hpl
                  iterate 3
                    refine plan_s1 rfl (by rfl) (fun Kc hKc => ?_)
                    go_simp
                    first
                      | (refine hKc _ ?_)
                    clear hKc Kc
                  refine plan_done ?_
                  have HXe := Lib.hid (HT7.out.blk HX4.out (fun e => e))
                  have HBe := Lib.hid (HT7.out.blk HB4.out (fun e => e))
                  have y0 := HXe.out.cell 0; have y1 := HXe.out.cell 1; have y2 := HXe.out.cell 2; have y3 := HXe.out.cell 3; have y4 := HXe.out.cell 4; simp at y0 y1 y2 y3 y4
                  have hbe := HBe.out
                  have p0 := hbe.cell 0
                  have p1 := hbe.cell 1
                  have p2 := hbe.cell 2
                  have p3 := hbe.cell 3
                  have p4 := hbe.cell 4
                  have m0 := hbe.frozen 0; have m1 := hbe.frozen 1; have m2 := hbe.frozen 2; have m3 := hbe.frozen 3; have m4 := hbe.frozen 4
                  simp [rdA] at p0 p1 p2 p3 p4
                  clear hbe
                  have HL := Lib.hid (did_two hgt hge hTs ⟨hbl, hobl⟩ hdl HF.out HRF.out HT.out (HTo.out.trans HT1o.out (fun _ _ e => e)) HO.out HD3.out HR3.out HF3.out HRF3.out HT3.out (show Touch (fun q => q = tb) w3 _ from ((HT4.out.trans HT7.out (fun _ _ e => e)).mono (S' := fun q => q = tb) (fun _ _ e => e.elim)).trans (tch5 (w := w7) tb (.int .i64 R'.room) (.slice A3 R'.fs.length c3) (.bool R'.down) (.int .i64 R'.armed) (.int .u64 (R'.steps : Int))) (fun q _ e => e)) (blk5 HBe.out (.int .i64 R'.room) (.slice A3 R'.fs.length c3) (.bool R'.down) (.int .i64 R'.armed) (.int .u64 (R'.steps : Int))))
                  go_wp2_with fail
                  go_roundw
                  case rel => exact ⟨j + 1, by omega, by go_num, E, R', by rw [hEs]; simp, by omega, by omega, HAS.out.inv, HL.out⟩
                  case measure => simp [intOf]; omega
              · cases hEd : E.down
                · rcases HAS.out.n with hEs | hEs
                  · have hk6 : decide ((6 : Int) ≤ p.k) = true := by simp only [decide_eq_true_eq]; omega
                    have hk9 : decide (p.k ≤ 9) = false := by simp only [decide_eq_false_iff_not]; omega
                    have hk0 : (p.k == 0) = false := by simp only [beq_eq_false_iff_ne]; omega
                    have hkb : decide ((9 : Int) < p.k) = true := by simp only [decide_eq_true_eq]; omega
                    have hkn : decide (p.k < 0) = false := by simp only [decide_eq_false_iff_not]; omega
                    have hap : isApp p.k = true := by unfold isApp; simp; omega
                    have hgo : decide ((st : Int) < (D.steps : Int)) = false := by simp only [decide_eq_false_iff_not]; omega
                    clear hk hk69 hap
                    go_wp2_with (first
                      | (go_at_call 41; rw [← HWo.out]; go_must (refine (lfiles_any (HD.out.far HTo.out)).mono ?_); rintro e w1 ⟨A8, c8, rfl, hr8, t1⟩
                         have HBf := Lib.hid hr8
                         have HT1o := Lib.hid t1
                         have hs1 := t1.size
                         have hb1 := t1.blk hbo (fun e => e)
                         have p0 := hb1.cell 0
                         have p1 := hb1.cell 1
                         have p2 := hb1.cell 2
                         have p3 := hb1.cell 3
                         have p4 := hb1.cell 4
                         simp [rdA] at p0 p1 p2 p3 p4
                         have hx1 := t1.blk HBo.out (fun e => e)
                         have x0 := hx1.cell 0; have x1 := hx1.cell 1; have x2 := hx1.cell 2; have x3 := hx1.cell 3; have x4 := hx1.cell 4; have x5 := hx1.cell 5; simp at x0 x1 x2 x3 x4 x5
                         clear hr8 t1 hb1 hx1)
                      | (go_at_call 34
                         go_must (refine (HDo.out w1 HT1o.out).mono ?_); rintro e w3 ⟨A3, c3, F3, RF3, bb, rfl, hd3, hr3, hF3, hRF3, t3⟩
                         rw [show rdA A3 c3 R' = #[.int .i64 R'.room, .slice A3 R'.fs.length c3, .bool R'.down, .int .i64 R'.armed, .int .u64 (R'.steps : Int)] from rfl]
                         have hs3 := t3.size
                         obtain ⟨w4, hw4⟩ : ∃ w4, w4 = w3.alloc (.cells #[.int .i64 R'.room, .slice A3 R'.fs.length c3, .bool R'.down, .int .i64 R'.armed, .int .u64 (R'.steps : Int)] 67) := ⟨_, rfl⟩
                         have HW4 := Lib.hid hw4
                         have t4 : Touch (fun _ => False) w3 w4 := hw4 ▸ (Touch.refl (fun _ => False) w3).alloc _
                         have HD3 := Lib.hid hd3
                         have HR3 := Lib.hid hr3
                         have HF3 := Lib.hid hF3
                         have HRF3 := Lib.hid hRF3
                         have HT3 := Lib.hid t3
                         have HT4 := Lib.hid t4
                         have HD4 := Lib.hid (hd3.far t4)
                         have HR4 := Lib.hid (hr3.touch t4 (fun _ _ e => e))
                         have HX4 := Lib.hid (show Blk w4 w3.heap.size 67 #[.int .i64 R'.room, .slice A3 R'.fs.length c3, .bool R'.down, .int .i64 R'.armed, .int .u64 (R'.steps : Int)] from hw4 ▸ Blk.new w3 _ _)
                         have HP4 := Lib.hid ((t4.blk (t3.blk (HT1o.out.blk HBo.out (fun e => e)) (by omega)) (fun e => e)))
                         have HB4 := Lib.hid ((t4.blk (t3.blk ((HTo.out.trans HT1o.out (fun _ _ e => e)).blk HB.out (fun e => e)) (by omega)) (fun e => e)))
                         have HBf4 := Lib.hid ((HBf.out.touch t3 (fun q hq e => by omega)).touch t4 (fun _ _ e => e))
                         have hs4 := t4.size
                         have hs4' : w4.heap.size = w3.heap.size + 1 := by rw [hw4]; simp
                         clear hd3 hr3 hF3 hRF3 t3 t4 p0 p1 p2 p3 p4 x0 x1 x2 x3 x4 x5 hw4
                         have HXe := Lib.hid HX4.out
                         have HBe := Lib.hid HB4.out
                         have y0 := HXe.out.cell 0; have y1 := HXe.out.cell 1; have y2 := HXe.out.cell 2; have y3 := HXe.out.cell 3; have y4 := HXe.out.cell 4; simp at y0 y1 y2 y3 y4
                         have hbe := HBe.out
                         have p0 := hbe.cell 0
                         have p1 := hbe.cell 1
                         have p2 := hbe.cell 2
                         have p3 := hbe.cell 3
                         have p4 := hbe.cell 4
                         have m0 := hbe.frozen 0; have m1 := hbe.frozen 1; have m2 := hbe.frozen 2; have m3 := hbe.frozen 3; have m4 := hbe.frozen 4
                         simp [rdA] at p0 p1 p2 p3 p4
                         clear hbe)
                      | (go_at_call 39; have M9 := HD4; rw [← HW4.out]; go_must (refine (dsteps_any HD4.out).mono ?_); rintro e wz ⟨rfl, rfl⟩; have M8 := Lib.hid trivial)
                      | (go_at_call 39; rw [← HWo.out]; go_must (refine (dsteps_any (HD.out.far HTo.out)).mono ?_); rintro e wz ⟨rfl, rfl⟩; rw [HWo.out])
                      | (go_at_call 36; have M9 := HD4; go_must (refine (ddown_any HD4.out).mono ?_); rintro e wz ⟨rfl, rfl⟩)
                      | (go_at_call 36; rw [← HWo.out]; go_must (refine HDw.out.mono ?_); rintro e wz ⟨rfl, rfl⟩; rw [HWo.out]))
                    have HL := Lib.hid (did_two hgt hge hTs ⟨hbl, hobl⟩ hdl HF.out HRF.out HT.out (HTo.out.trans HT1o.out (fun _ _ e => e)) HO.out HD3.out HR3.out HF3.out HRF3.out HT3.out (show Touch (fun q => q = tb) w3 _ from (HT4.out.mono (S' := fun q => q = tb) (fun _ _ e => e.elim)).trans (tch5 (w := w4) tb (.int .i64 R'.room) (.slice A3 R'.fs.length c3) (.bool R'.down) (.int .i64 R'.armed) (.int .u64 (R'.steps : Int))) (fun q _ e => e)) (blk5 HBe.out (.int .i64 R'.room) (.slice A3 R'.fs.length c3) (.bool R'.down) (.int .i64 R'.armed) (.int .u64 (R'.steps : Int))))
                    go_roundw
                    case rel => exact ⟨j + 1, by omega, by go_num, E, R', by rw [hEs], by omega, by omega, HAS.out.inv, HL.out⟩
                    case measure => simp [intOf]; omega
                  · have hk6 : decide ((6 : Int) ≤ p.k) = true := by simp only [decide_eq_true_eq]; omega
                    have hk9 : decide (p.k ≤ 9) = false := by simp only [decide_eq_false_iff_not]; omega
                    have hk0 : (p.k == 0) = false := by simp only [beq_eq_false_iff_ne]; omega
                    have hkb : decide ((9 : Int) < p.k) = true := by simp only [decide_eq_true_eq]; omega
                    have hkn : decide (p.k < 0) = false := by simp only [decide_eq_false_iff_not]; omega
                    have hap : isApp p.k = true := by unfold isApp; simp; omega
                    have hgo : decide ((st : Int) < (D.steps : Int) + 1) = false := by
                      have h2 := HAS.out.down
                      rw [hEs, hEd] at h2
                      simp at h2
                      simp only [decide_eq_false_iff_not]; omega
                    clear hk hk69 hap
                    go_wp2_with (first
                      | (go_at_call 41; rw [← HWo.out]; go_must (refine (lfiles_any (HD.out.far HTo.out)).mono ?_); rintro e w1 ⟨A8, c8, rfl, hr8, t1⟩
                         have HBf := Lib.hid hr8
                         have HT1o := Lib.hid t1
                         have hs1 := t1.size
                         have hb1 := t1.blk hbo (fun e => e)
                         have p0 := hb1.cell 0
                         have p1 := hb1.cell 1
                         have p2 := hb1.cell 2
                         have p3 := hb1.cell 3
                         have p4 := hb1.cell 4
                         simp [rdA] at p0 p1 p2 p3 p4
                         have hx1 := t1.blk HBo.out (fun e => e)
                         have x0 := hx1.cell 0; have x1 := hx1.cell 1; have x2 := hx1.cell 2; have x3 := hx1.cell 3; have x4 := hx1.cell 4; have x5 := hx1.cell 5; simp at x0 x1 x2 x3 x4 x5
                         clear hr8 t1 hb1 hx1)
                      | (go_at_call 34
                         go_must (refine (HDo.out w1 HT1o.out).mono ?_); rintro e w3 ⟨A3, c3, F3, RF3, bb, rfl, hd3, hr3, hF3, hRF3, t3⟩
                         rw [show rdA A3 c3 R' = #[.int .i64 R'.room, .slice A3 R'.fs.length c3, .bool R'.down, .int .i64 R'.armed, .int .u64 (R'.steps : Int)] from rfl]
                         have hs3 := t3.size
                         obtain ⟨w4, hw4⟩ : ∃ w4, w4 = w3.alloc (.cells #[.int .i64 R'.room, .slice A3 R'.fs.length c3, .bool R'.down, .int .i64 R'.armed, .int .u64 (R'.steps : Int)] 67) := ⟨_, rfl⟩
                         have HW4 := Lib.hid hw4
                         have t4 : Touch (fun _ => False) w3 w4 := hw4 ▸ (Touch.refl (fun _ => False) w3).alloc _
                         have HD3 := Lib.hid hd3
                         have HR3 := Lib.hid hr3
                         have HF3 := Lib.hid hF3
                         have HRF3 := Lib.hid hRF3
                         have HT3 := Lib.hid t3
                         have HT4 := Lib.hid t4
                         have HD4 := Lib.hid (hd3.far t4)
                         have HR4 := Lib.hid (hr3.touch t4 (fun _ _ e => e))
                         have HX4 := Lib.hid (show Blk w4 w3.heap.size 67 #[.int .i64 R'.room, .slice A3 R'.fs.length c3, .bool R'.down, .int .i64 R'.armed, .int .u64 (R'.steps : Int)] from hw4 ▸ Blk.new w3 _ _)
                         have HP4 := Lib.hid ((t4.blk (t3.blk (HT1o.out.blk HBo.out (fun e => e)) (by omega)) (fun e => e)))
                         have HB4 := Lib.hid ((t4.blk (t3.blk ((HTo.out.trans HT1o.out (fun _ _ e => e)).blk HB.out (fun e => e)) (by omega)) (fun e => e)))
                         have HBf4 := Lib.hid ((HBf.out.touch t3 (fun q hq e => by omega)).touch t4 (fun _ _ e => e))
                         have hs4 := t4.size
                         have hs4' : w4.heap.size = w3.heap.size + 1 := by rw [hw4]; simp
                         clear hd3 hr3 hF3 hRF3 t3 t4 p0 p1 p2 p3 p4 x0 x1 x2 x3 x4 x5 hw4
                         have HXe := Lib.hid HX4.out
                         have HBe := Lib.hid HB4.out
                         have y0 := HXe.out.cell 0; have y1 := HXe.out.cell 1; have y2 := HXe.out.cell 2; have y3 := HXe.out.cell 3; have y4 := HXe.out.cell 4; simp at y0 y1 y2 y3 y4
                         have hbe := HBe.out
                         have p0 := hbe.cell 0
                         have p1 := hbe.cell 1
                         have p2 := hbe.cell 2
                         have p3 := hbe.cell 3
                         have p4 := hbe.cell 4
                         have m0 := hbe.frozen 0; have m1 := hbe.frozen 1; have m2 := hbe.frozen 2; have m3 := hbe.frozen 3; have m4 := hbe.frozen 4
                         simp [rdA] at p0 p1 p2 p3 p4
                         clear hbe)
                      | (go_at_call 39; have M9 := HD4; rw [← HW4.out]; go_must (refine (dsteps_any HD4.out).mono ?_); rintro e wz ⟨rfl, rfl⟩; have M8 := Lib.hid trivial)
                      | (go_at_call 39; rw [← HWo.out]; go_must (refine (dsteps_any (HD.out.far HTo.out)).mono ?_); rintro e wz ⟨rfl, rfl⟩; rw [HWo.out])
                      | (go_at_call 36; have M9 := HD4; go_must (refine (ddown_any HD4.out).mono ?_); rintro e wz ⟨rfl, rfl⟩)
                      | (go_at_call 36; rw [← HWo.out]; go_must (refine HDw.out.mono ?_); rintro e wz ⟨rfl, rfl⟩; rw [HWo.out]))
                    have HL := Lib.hid (did_two hgt hge hTs ⟨hbl, hobl⟩ hdl HF.out HRF.out HT.out (HTo.out.trans HT1o.out (fun _ _ e => e)) HO.out HD3.out HR3.out HF3.out HRF3.out HT3.out (show Touch (fun q => q = tb) w3 _ from (HT4.out.mono (S' := fun q => q = tb) (fun _ _ e => e.elim)).trans (tch5 (w := w4) tb (.int .i64 R'.room) (.slice A3 R'.fs.length c3) (.bool R'.down) (.int .i64 R'.armed) (.int .u64 (R'.steps : Int))) (fun q _ e => e)) (blk5 HBe.out (.int .i64 R'.room) (.slice A3 R'.fs.length c3) (.bool R'.down) (.int .i64 R'.armed) (.int .u64 (R'.steps : Int))))
                    go_roundw
                    case rel => exact ⟨j + 1, by omega, by go_num, E, R', by rw [hEs]; simp, by omega, by omega, HAS.out.inv, HL.out⟩
                    case measure => simp [intOf]; omega
                · have hk6 : decide ((6 : Int) ≤ p.k) = true := by simp only [decide_eq_true_eq]; omega
                  have hk9 : decide (p.k ≤ 9) = false := by simp only [decide_eq_false_iff_not]; omega
                  have hk0 : (p.k == 0) = false := by simp only [beq_eq_false_iff_ne]; omega
                  have hkb : decide ((9 : Int) < p.k) = true := by simp only [decide_eq_true_eq]; omega
                  have hkn : decide (p.k < 0) = false := by simp only [decide_eq_false_iff_not]; omega
                  have hap : isApp p.k = true := by unfold isApp; simp; omega
                  have hEs : E.steps = D.steps + 1 := by
                    rcases HAS.out.n with h | h
                    · have h2 := HAS.out.down
                      rw [h, hEd] at h2
                      simp at h2
                      omega
                    · exact h
                  have hgo : decide ((st : Int) < (D.steps : Int) + 1) = true := by
                    have h2 := HAS.out.down
                    rw [hEs, hEd] at h2
                    simp at h2
                    simp only [decide_eq_true_eq]; omega
                  have hef : E.fs = R'.fs := HAS.out.app hEd hap
                  have HEf := Lib.hid hef
                  clear hef
                  clear hk hk69 hap
                  go_wp2_with (first
                    | (go_at_call 41; rw [← HWo.out]; go_must (refine (lfiles_any (HD.out.far HTo.out)).mono ?_); rintro e w1 ⟨A8, c8, rfl, hr8, t1⟩
                       have HBf := Lib.hid hr8
                       have HT1o := Lib.hid t1
                       have hs1 := t1.size
                       have hb1 := t1.blk hbo (fun e => e)
                       have p0 := hb1.cell 0
                       have p1 := hb1.cell 1
                       have p2 := hb1.cell 2
                       have p3 := hb1.cell 3
                       have p4 := hb1.cell 4
                       simp [rdA] at p0 p1 p2 p3 p4
                       have hx1 := t1.blk HBo.out (fun e => e)
                       have x0 := hx1.cell 0; have x1 := hx1.cell 1; have x2 := hx1.cell 2; have x3 := hx1.cell 3; have x4 := hx1.cell 4; have x5 := hx1.cell 5; simp at x0 x1 x2 x3 x4 x5
                       clear hr8 t1 hb1 hx1)
                    | (go_at_call 34
                       go_must (refine (HDo.out w1 HT1o.out).mono ?_); rintro e w3 ⟨A3, c3, F3, RF3, bb, rfl, hd3, hr3, hF3, hRF3, t3⟩
                       rw [show rdA A3 c3 R' = #[.int .i64 R'.room, .slice A3 R'.fs.length c3, .bool R'.down, .int .i64 R'.armed, .int .u64 (R'.steps : Int)] from rfl]
                       have hs3 := t3.size
                       obtain ⟨w4, hw4⟩ : ∃ w4, w4 = w3.alloc (.cells #[.int .i64 R'.room, .slice A3 R'.fs.length c3, .bool R'.down, .int .i64 R'.armed, .int .u64 (R'.steps : Int)] 67) := ⟨_, rfl⟩
                       have HW4 := Lib.hid hw4
                       have t4 : Touch (fun _ => False) w3 w4 := hw4 ▸ (Touch.refl (fun _ => False) w3).alloc _
                       have HD3 := Lib.hid hd3
                       have HR3 := Lib.hid hr3
                       have HF3 := Lib.hid hF3
                       have HRF3 := Lib.hid hRF3
                       have HT3 := Lib.hid t3
                       have HT4 := Lib.hid t4
                       have HD4 := Lib.hid (hd3.far t4)
                       have HR4 := Lib.hid (hr3.touch t4 (fun _ _ e => e))
                       have HX4 := Lib.hid (show Blk w4 w3.heap.size 67 #[.int .i64 R'.room, .slice A3 R'.fs.length c3, .bool R'.down, .int .i64 R'.armed, .int .u64 (R'.steps : Int)] from hw4 ▸ Blk.new w3 _ _)
                       have HP4 := Lib.hid ((t4.blk (t3.blk (HT1o.out.blk HBo.out (fun e => e)) (by omega)) (fun e => e)))
                       have HB4 := Lib.hid ((t4.blk (t3.blk ((HTo.out.trans HT1o.out (fun _ _ e => e)).blk HB.out (fun e => e)) (by omega)) (fun e => e)))
                       have HBf4 := Lib.hid ((HBf.out.touch t3 (fun q hq e => by omega)).touch t4 (fun _ _ e => e))
                       have hs4 := t4.size
                       have hs4' : w4.heap.size = w3.heap.size + 1 := by rw [hw4]; simp
                       clear hd3 hr3 hF3 hRF3 t3 t4 p0 p1 p2 p3 p4 x0 x1 x2 x3 x4 x5 hw4
                       have x0 := HP4.out.cell 0; have x1 := HP4.out.cell 1; have x2 := HP4.out.cell 2; have x3 := HP4.out.cell 3; have x4 := HP4.out.cell 4; have x5 := HP4.out.cell 5; simp at x0 x1 x2 x3 x4 x5)
                    | (go_at_call 39; have M9 := HD4; rw [← HW4.out]; go_must (refine (dsteps_any HD4.out).mono ?_); rintro e wz ⟨rfl, rfl⟩; have M8 := Lib.hid trivial)
                    | (go_at_call 39; rw [← HWo.out]; go_must (refine (dsteps_any (HD.out.far HTo.out)).mono ?_); rintro e wz ⟨rfl, rfl⟩; rw [HWo.out])
                    | (go_at_call 36; have M9 := HD4; go_must (refine (ddown_any HD4.out).mono ?_); rintro e wz ⟨rfl, rfl⟩)
                    | (go_at_call 36; rw [← HWo.out]; go_must (refine HDw.out.mono ?_); rintro e wz ⟨rfl, rfl⟩; rw [HWo.out]))
                  obtain ⟨W, hW⟩ : ∃ W, W = w4.drew := ⟨_, rfl⟩
                  have tW : Touch (fun _ => False) w4 W := hW ▸ (Touch.refl _ _).drew
                  have HTW := Lib.hid tW
                  have HDW := Lib.hid (HD4.out.far tW)
                  have HXW := Lib.hid (tW.blk HX4.out (fun e => e))
                  have hxw := HXW.out
                  have y1 := hxw.cell 1
                  simp at y1
                  have hpl := hxw.lt
                  clear tW hxw
                  refine wp_region_plan [(0, 0), (0, 1), (0, 2), (1, 4), (1, 5), (2, 3), (2, 6), (0, 7), (0, 8), (0, 9), (0, 10), (0, 11), (0, 12), (0, 13), (1, 15), (2, 14), (2, 16), (0, 17), (0, 18), (0, 19)] (fun _ => False) (by kernel_rfl) (by kernel_rfl) (fun c a d v w h => by cases d <;> exact h) ?_
                  rw [← hW]
                  clear hW
                  iterate 3
                    refine plan_s1 rfl (by rfl) (fun Kc hKc => ?_)
                    go_simp
                    first
                      | (refine hKc _ ?_)
                    clear hKc Kc
                  iterate 2
                    apply plan_h
                    · rfl
                    · rfl
                    · intro wh hT
                      have hf0 := (hT.cell (p := ⟨w3.heap.size, 1, none⟩) hpl (fun e => e)).trans y1
                      go_simp
                      try rfl
                    go_frame
                  refine plan_a1 rfl (by rfl) (fun Kc hKc => ?_)
                  go_simp
                  refine (lfiles_any HDW.out).mono ?_
                  rintro e w6 ⟨A6, c6, rfl, hr6, t6⟩
                  refine hKc _ _ ⟨t6, ?_⟩
                  clear hKc Kc
                  rw [HEf.out] at hr6 ⊢
                  refine plan_a1 rfl (by rfl) (fun Kc hKc => ?_)
                  go_simp
                  refine (fsame_yes _ RF3 A6 A3 c6 c3 R'.fs w6 hr6 ((HR4.out.touch HTW.out (fun _ _ e => e)).touch t6 (fun _ _ e => e)) (by rw [← HEf.out]; have := HD4.out.ok.n; omega)).mono ?_
                  rintro e w7 ⟨rfl, t7⟩
                  refine hKc _ _ ⟨t7, ?_⟩
                  clear hKc Kc
                  have HT7 := Lib.hid ((HTW.out.trans t6 (fun _ _ e => e)).trans t7 (fun _ _ e => e))
                  clear hr6 t6 t7 y1 hpl
                  iterate 6
                    refine plan_s1 rfl (by rfl) (fun Kc hKc => ?_)
                    go_simp
                    first
                      | (refine hKc _ ?_)
                    clear hKc Kc
                  refine plan_s0 rfl (by rfl) ?_
                  go_frame
                  refine plan_hn rfl (by rfl) ?_
                  go_frame
                  refine plan_a0 rfl (by rfl) ?_
                  go_frame
                  refine plan_a0 rfl (by rfl) ?_
                  go_frame
                  refine plan_s0 rfl (by rfl) ?_
                  go_frame
                  iterate 2
                    refine plan_s1 rfl (by rfl) (fun Kc hKc => ?_)
                    go_simp
                    first
                      | (refine hKc _ ?_)
                    clear hKc Kc
                  refine plan_done ?_
                  have HXe := Lib.hid (HT7.out.blk HX4.out (fun e => e))
                  have HBe := Lib.hid (HT7.out.blk HB4.out (fun e => e))
                  have y0 := HXe.out.cell 0; have y1 := HXe.out.cell 1; have y2 := HXe.out.cell 2; have y3 := HXe.out.cell 3; have y4 := HXe.out.cell 4; simp at y0 y1 y2 y3 y4
                  have hbe := HBe.out
                  have p0 := hbe.cell 0
                  have p1 := hbe.cell 1
                  have p2 := hbe.cell 2
                  have p3 := hbe.cell 3
                  have p4 := hbe.cell 4
                  have m0 := hbe.frozen 0; have m1 := hbe.frozen 1; have m2 := hbe.frozen 2; have m3 := hbe.frozen 3; have m4 := hbe.frozen 4
                  simp [rdA] at p0 p1 p2 p3 p4
                  clear hbe
                  have HL := Lib.hid (did_two hgt hge hTs ⟨hbl, hobl⟩ hdl HF.out HRF.out HT.out (HTo.out.trans HT1o.out (fun _ _ e => e)) HO.out HD3.out HR3.out HF3.out HRF3.out HT3.out (show Touch (fun q => q = tb) w3 _ from ((HT4.out.trans HT7.out (fun _ _ e => e)).mono (S' := fun q => q = tb) (fun _ _ e => e.elim)).trans (tch5 (w := w7) tb (.int .i64 R'.room) (.slice A3 R'.fs.length c3) (.bool R'.down) (.int .i64 R'.armed) (.int .u64 (R'.steps : Int))) (fun q _ e => e)) (blk5 HBe.out (.int .i64 R'.room) (.slice A3 R'.fs.length c3) (.bool R'.down) (.int .i64 R'.armed) (.int .u64 (R'.steps : Int))))
                  go_wp2_with fail
                  go_roundw
                  case rel => exact ⟨j + 1, by omega, by go_num, E, R', by rw [hEs]; simp, by omega, by omega, HAS.out.inv, HL.out⟩
                  case measure => simp [intOf]; omega
            · have HDw := Lib.hid (ddown_any (HD.out.far HTo.out))
              rw [hdn] at HDw
              clear hdn
              rcases (by omega : p.k < 6 ∨ 9 < p.k) with hk | hk
              · have hk6 : decide ((6 : Int) ≤ p.k) = false := by simp only [decide_eq_false_iff_not]; omega
                clear hk69 hk
                go_wp2_with (go_at_call 36; rw [← HWo.out]; go_must (refine HDw.out.mono ?_); rintro e wz ⟨rfl, rfl⟩)
                go_roundw
                case rel => exact ⟨j + 1, by omega, by go_num, D, R, rfl, by omega, by omega, HI.out, DkM2.far ⟨F, RF, A, c, HD.out, HB.out, HR.out, HO.out, HF.out, HRF.out, HT.out⟩ HTo.out⟩
                case measure => simp [intOf]; omega
              · have hk6 : decide ((6 : Int) ≤ p.k) = true := by simp only [decide_eq_true_eq]; omega
                have hk9 : decide (p.k ≤ 9) = false := by simp only [decide_eq_false_iff_not]; omega
                clear hk69 hk
                go_wp2_with (go_at_call 36; rw [← HWo.out]; go_must (refine HDw.out.mono ?_); rintro e wz ⟨rfl, rfl⟩)
                go_roundw
                case rel => exact ⟨j + 1, by omega, by go_num, D, R, rfl, by omega, by omega, HI.out, DkM2.far ⟨F, RF, A, c, HD.out, HB.out, HR.out, HO.out, HF.out, HRF.out, HT.out⟩ HTo.out⟩
                case measure => simp [intOf]; omega
        · obtain rfl : j = l0.length := by omega
          cases hdn : D.down
          · have HDw := Lib.hid (ddown_any HD.out)
            rw [hdn] at HDw
            clear hdn
            go_wp2_with (first
              | (go_at_call 36; go_must (refine HDw.out.mono ?_); rintro e wz ⟨rfl, rfl⟩)
              | (go_at_call 32; go_must (refine (lives23_any _).mono ?_); rintro e w9 ⟨rfl, t9⟩; have HT9 := Lib.hid t9; clear t9))
            go_ret
            exact ⟨rfl, (HT.out.trans HT9.out (fun _ _ e => e)).below⟩
          · have HDw := Lib.hid (ddown_any HD.out)
            rw [hdn] at HDw
            have HDn := Lib.hid hdn
            clear hdn
            have hn128 := HD.out.ok.n
            have hlx1 := hlo.1
            have hlx2 := hlo.2.1
            have hlx3 := hlo.2.2.1
            go_wp2_with (first
              | (go_at_call 36; have M9 := HD11; go_must (refine (ddown_any HD11.out).mono ?_); rintro e wz ⟨rfl, rfl⟩; rw [show D.boot.down = false from rfl])
              | (go_at_call 36; go_must (refine HDw.out.mono ?_); rintro e wz ⟨rfl, rfl⟩)
              | (go_at_call 41
                 have M9 := HD11
                 go_must (refine (lfiles_any HD11.out).mono ?_); rintro e z12 ⟨A12, c12, rfl, hr12, t12⟩
                 rw [show D.boot.fs = D.fs from rfl]
                 have HR12 := Lib.hid hr12
                 have HW12 := Lib.hid (HW11.out.touch t12 (fun _ _ e => e))
                 have HT12 := Lib.hid (HT11.out.trans t12 (fun _ _ e => e))
                 clear hr12 t12)
              | (go_at_call 41
                 have M9 := HD8
                 go_must (refine (lfiles_any HD8.out).mono ?_); rintro e z9 ⟨A9, c9, rfl, hr9, t9⟩
                 have HR9 := Lib.hid hr9
                 have HD9 := Lib.hid (HD8.out.far t9)
                 have HW9 := Lib.hid (HW8.out.touch t9 (fun _ _ e => e))
                 have HT9a := Lib.hid (HT8.out.trans t9 (fun _ _ e => e))
                 have hn9 := t9.size
                 clear hr9 t9)
              | (go_at_call 41
                 go_must (refine (lfiles_any HD.out).mono ?_); rintro e z1 ⟨A1w, c1w, rfl, hr1, t1⟩
                 have hn1 := t1.size
                 obtain ⟨bc, bcs, z1c, hcv, tc, hb3a, hc3a, -, -, -, hs3a⟩ := conv_u o.tx z1 z1.heap.size rfl (by omega)
                 have HDc := Lib.hid ((HD.out.far t1).far tc)
                 have HBc := Lib.hid (tc.blk (t1.blk HO.out (fun e => e)) (fun e => e))
                 have HWc := Lib.hid (hr1.touch tc (fun _ _ e => e))
                 have HTc := Lib.hid ((HT.out.trans t1 (fun _ _ e => e)).trans tc (fun _ _ e => e))
                 have HRc := Lib.hid (show Rd z1c (fun q => q = z1.heap.size) (some ⟨z1.heap.size, 0, none⟩) o.tx.length (o.tx.map B8) from
                   ⟨by rw [List.length_map], fun _ => ⟨_, 0, rfl, hb3a.lt, rfl, fun j u hj => by rw [Nat.zero_add, hb3a.cell]; exact take_get hc3a hj⟩⟩)
                 have x0 := (t1.blk HO.out (fun e => e)).cell 0; have x1 := (t1.blk HO.out (fun e => e)).cell 1; have x2 := (t1.blk HO.out (fun e => e)).cell 2; have x3 := (t1.blk HO.out (fun e => e)).cell 3; have x4 := (t1.blk HO.out (fun e => e)).cell 4; have x5 := (t1.blk HO.out (fun e => e)).cell 5; simp at x0 x1 x2 x3 x4 x5
                 clear hr1 t1 tc hb3a hc3a)
              | (go_at_call 45; go_must (refine (down_op (dappend_any (bc := bc) HDc.out o.nm (by omega) (by omega) o.tx (by exact HRc.out) (fun q hq => by omega) (by omega)) (show D.append o.nm o.tx = (D, 50) by rw [Dk.append, if_pos HDn.out])).mono ?_); rintro e z2 ⟨rfl, F2, hd2, t2⟩
                 have HD2 := Lib.hid hd2
                 have HB2 := Lib.hid (t2.blk HBc.out (by omega))
                 have HW2 := Lib.hid (HWc.out.touch t2 (fun q hq e => by omega))
                 have HT2 := Lib.hid (HTc.out.trans t2 (fun q hq e => by omega))
                 have hn2 := t2.size
                 clear x0 x1 x2 x3 x4 x5
                 have x0 := HB2.out.cell 0; have x1 := HB2.out.cell 1; have x2 := HB2.out.cell 2; have x3 := HB2.out.cell 3; have x4 := HB2.out.cell 4; have x5 := HB2.out.cell 5; simp at x0 x1 x2 x3 x4 x5
                 clear hd2 t2)
              | (go_at_call 46; go_must (refine (down_op (dsync_any HD2.out o.nm (by omega) (by omega)) (show D.sync o.nm = (D, 50) by rw [Dk.sync, if_pos HDn.out])).mono ?_); rintro e z3 ⟨rfl, F3, hd3, t3⟩
                 have HD3 := Lib.hid hd3
                 have HB3 := Lib.hid (t3.blk HB2.out (by omega))
                 have HW3 := Lib.hid (HW2.out.touch t3 (fun q hq e => by omega))
                 have HT3 := Lib.hid (HT2.out.trans t3 (fun q hq e => by omega))
                 have hn3 := t3.size
                 clear x0 x1 x2 x3 x4 x5
                 have x0 := HB3.out.cell 0; have x1 := HB3.out.cell 1; have x2 := HB3.out.cell 2; have x3 := HB3.out.cell 3; have x4 := HB3.out.cell 4; have x5 := HB3.out.cell 5; simp at x0 x1 x2 x3 x4 x5
                 clear hd3 t3)
              | (go_at_call 47; go_must (refine (down_op (dcut_any HD3.out o.nm (by omega) 0 (by omega)) (show D.cut o.nm 0 = (D, 50) by rw [Dk.cut, if_pos HDn.out])).mono ?_); rintro e z4 ⟨rfl, F4, hd4, t4⟩
                 have HD4 := Lib.hid hd4
                 have HB4 := Lib.hid (t4.blk HB3.out (by omega))
                 have HW4 := Lib.hid (HW3.out.touch t4 (fun q hq e => by omega))
                 have HT4 := Lib.hid (HT3.out.trans t4 (fun q hq e => by omega))
                 have hn4 := t4.size
                 clear x0 x1 x2 x3 x4 x5
                 have x0 := HB4.out.cell 0; have x1 := HB4.out.cell 1; have x2 := HB4.out.cell 2; have x3 := HB4.out.cell 3; have x4 := HB4.out.cell 4; have x5 := HB4.out.cell 5; simp at x0 x1 x2 x3 x4 x5
                 clear hd4 t4)
              | (go_at_call 48; go_must (refine (down_op (dremove_any HD4.out o.nm (by omega) (by omega)) (show D.remove o.nm = (D, 50) by rw [Dk.remove, if_pos HDn.out])).mono ?_); rintro e z5 ⟨rfl, F5, hd5, t5⟩
                 have HD5 := Lib.hid hd5
                 have HB5 := Lib.hid (t5.blk HB4.out (by omega))
                 have HW5 := Lib.hid (HW4.out.touch t5 (fun q hq e => by omega))
                 have HT5 := Lib.hid (HT4.out.trans t5 (fun q hq e => by omega))
                 have hn5 := t5.size
                 clear x0 x1 x2 x3 x4 x5
                 have x0 := HB5.out.cell 0; have x1 := HB5.out.cell 1; have x2 := HB5.out.cell 2; have x3 := HB5.out.cell 3; have x4 := HB5.out.cell 4; have x5 := HB5.out.cell 5; simp at x0 x1 x2 x3 x4 x5
                 clear hd5 t5)
              | (go_at_call 49; go_must (refine (down_op (dmove_any HD5.out o.nm (by omega) o.to_ (by omega) (by omega)) (show D.move o.nm o.to_ = (D, 50) by rw [Dk.move, if_pos HDn.out])).mono ?_); rintro e z6 ⟨rfl, F6, hd6, t6⟩
                 have HD6 := Lib.hid hd6
                 have HB6 := Lib.hid (t6.blk HB5.out (by omega))
                 have HW6 := Lib.hid (HW5.out.touch t6 (fun q hq e => by omega))
                 have HT6 := Lib.hid (HT5.out.trans t6 (fun q hq e => by omega))
                 have hn6 := t6.size
                 clear x0 x1 x2 x3 x4 x5
                 have x0 := HB6.out.cell 0; have x1 := HB6.out.cell 1; have x2 := HB6.out.cell 2; have x3 := HB6.out.cell 3; have x4 := HB6.out.cell 4; have x5 := HB6.out.cell 5; simp at x0 x1 x2 x3 x4 x5
                 clear hd6 t6)
              | (go_at_call 44; go_must (refine (down_op (darm_any HD6.out 3 (by omega)) (show D.arm 3 = (D, 50) by rw [Dk.arm, if_pos HDn.out])).mono ?_); rintro e z7 ⟨rfl, F7, hd7, t7⟩
                 have HD7 := Lib.hid hd7
                 have HB7 := Lib.hid (t7.blk HB6.out (by omega))
                 have HW7 := Lib.hid (HW6.out.touch t7 (fun q hq e => by omega))
                 have HT7 := Lib.hid (HT6.out.trans t7 (fun q hq e => by omega))
                 have hn7 := t7.size
                 clear x0 x1 x2 x3 x4 x5
                 have x0 := HB7.out.cell 0; have x1 := HB7.out.cell 1; have x2 := HB7.out.cell 2; have x3 := HB7.out.cell 3; have x4 := HB7.out.cell 4; have x5 := HB7.out.cell 5; simp at x0 x1 x2 x3 x4 x5
                 clear hd7 t7)
              | (go_at_call 50; go_must (refine (down_op (dresize_any HD7.out 9) (show D.resize 9 = (D, 50) by rw [Dk.resize, if_pos HDn.out])).mono ?_); rintro e z8 ⟨rfl, F8, hd8, t8⟩
                 have HD8 := Lib.hid hd8
                 have HB8 := Lib.hid (t8.blk HB7.out (by omega))
                 have HW8 := Lib.hid (HW7.out.touch t8 (fun q hq e => by omega))
                 have HT8 := Lib.hid (HT7.out.trans t8 (fun q hq e => by omega))
                 have hn8 := t8.size
                 clear x0 x1 x2 x3 x4 x5
                 have x0 := HB8.out.cell 0; have x1 := HB8.out.cell 1; have x2 := HB8.out.cell 2; have x3 := HB8.out.cell 3; have x4 := HB8.out.cell 4; have x5 := HB8.out.cell 5; simp at x0 x1 x2 x3 x4 x5
                 clear hd8 t8)
              | (go_at_call 40
                 have M9 := HR12
                 go_must (refine (fsame_yes _ _ A12 A1w c12 c1w D.fs z12 (by exact HR12.out) (by exact HW12.out) (by omega)).mono ?_); rintro e z13 ⟨rfl, t13⟩
                 have HT13 := Lib.hid (HT12.out.trans t13 (fun _ _ e => e))
                 clear t13)
              | (go_at_call 40
                 go_must (refine (fsame_yes _ _ A9 A1w c9 c1w D.fs z9 (by exact HR9.out) (by exact HW9.out) (by omega)).mono ?_); rintro e z10 ⟨rfl, t10⟩
                 have HD10 := Lib.hid (HD9.out.far t10)
                 have HW10 := Lib.hid (HW9.out.touch t10 (fun _ _ e => e))
                 have HT10 := Lib.hid (HT9a.out.trans t10 (fun _ _ e => e))
                 have hn10 := t10.size
                 clear t10)
              | (go_at_call 51
                 go_must (refine (dboot_any HD10.out).mono ?_); rintro e z11 ⟨rfl, F11, hd11, -, t11⟩
                 have HD11 := Lib.hid hd11
                 have HW11 := Lib.hid (HW10.out.touch t11 (fun q hq e => by omega))
                 have HT11 := Lib.hid (HT10.out.trans t11 (fun q hq e => by omega))
                 clear hd11 t11)
              | (go_at_call 32; go_must (refine (lives23_any _).mono ?_); rintro e w9 ⟨rfl, t9⟩; have HT9 := Lib.hid t9; clear t9))
            go_ret
            exact ⟨rfl, (HT13.out.trans HT9.out (fun _ _ e => e)).below⟩
end Go.Proofs.Ytpgakkpmpnebnaa
