/- No client: nil, or one that no call made. A client in a law; law38.lives. A reply among the arguments, opened. Calls on a client, among the arguments. -/
import Derived.Test.YtlcefchbfjfifaaVCnI
import Derived.Test.YtlcefchbfjfifaaVArgs
import Derived.Test.YtlcefchbfjfifaaVRepR
import Derived.Test.YtlcefchbfjfifaaVCnB
section
namespace Go.Proofs.Ytlcefchbfjfifaa
open Go.RowKit Cal
set_option maxHeartbeats 4000000
set_option maxRecDepth 100000
set_option linter.unusedVariables false
attribute [local irreducible] wpPlan

def NoCl (w : World) (v : Value) : Prop := v = .pointer none ∨ ∃ g, v = .pointer (some ⟨g, 0, none⟩) ∧ w.cell? ⟨g, 3, none⟩ = some (.int .u64 0) ∧ g < w.heap.size
theorem NoCl.far {w w' : World} {v : Value} (h : NoCl w v) (t : Touch (fun _ => False) w w') : NoCl w' v := by
  rcases h with h | ⟨g, h, hc, hg⟩
  · exact .inl h
  · exact .inr ⟨g, h, (t.cell (p := ⟨g, 3, none⟩) hg (fun e => e)).trans hc, Nat.lt_of_lt_of_le hg t.size⟩
theorem nnoneC {w : World} {v : Value} (h : NoCl w v) : Calls Try.prog 21 #[v] w fun e w' => e = .returned (.bool true) ∧ w = w' := by
  rcases h with rfl | ⟨g, rfl, hc, hg⟩
  · go_enter Try.func21, Try.ntmps21
    go_wp2
    go_ret
    exact ⟨rfl, rfl⟩
  · go_enter Try.func21, Try.ntmps21
    go_wp2
    go_ret
    exact ⟨rfl, rfl⟩
theorem nbusyC {w : World} {v : Value} (h : NoCl w v) : Calls Try.prog 22 #[v] w fun e w' => e = .returned (.bool false) ∧ w = w' := by
  have HN := Lib.hid (nnoneC h)
  clear h
  go_enter Try.func22, Try.ntmps22
  go_wp2_with (go_at_call 21; go_must (refine HN.out.mono ?_); rintro e w1 ⟨rfl, rfl⟩)
  go_ret
  exact ⟨rfl, rfl⟩
theorem ntickC {w : World} {v : Value} (h : NoCl w v) : Calls Try.prog 16 #[v] w fun e w' => e = .returned (.tuple #[]) ∧ w = w' := by
  have HN := Lib.hid (nbusyC h)
  clear h
  go_enter Try.func16, Try.ntmps16
  go_wp2_with (go_at_call 22; go_must (refine HN.out.mono ?_); rintro e w1 ⟨rfl, rfl⟩)
  exact bodyPost_ret (v := .tuple #[]) (results_none (by rfl) _ _ _) rfl ⟨rfl, rfl⟩
theorem nsendC {w : World} {v : Value} (h : NoCl w v) : Calls Try.prog 13 #[v] w fun e w' => e = .returned (.tuple #[.int .i64 0, .slice none 0 0, .bool false]) ∧ w = w' := by
  have HN := Lib.hid (nbusyC h)
  clear h
  go_enter Try.func13, Try.ntmps13
  go_wp2_with (go_at_call 22; go_must (refine HN.out.mono ?_); rintro e w1 ⟨rfl, rfl⟩)
  exact bodyPost_ret (v := .tuple #[.int .i64 0, .slice none 0 0, .bool false]) (by simp [results, Try.results13, go_sem]) rfl ⟨rfl, rfl⟩
theorem ndoneC {w : World} {v : Value} (h : NoCl w v) : Calls Try.prog 11 #[v] w fun e w' => e = .returned (.slice none 0 0) ∧ w = w' := by
  have HN := Lib.hid (nnoneC h)
  clear h
  go_enter Try.func11, Try.ntmps11
  go_wp2_with (go_at_call 21; go_must (refine HN.out.mono ?_); rintro e w1 ⟨rfl, rfl⟩)
  go_ret
  exact ⟨rfl, rfl⟩
theorem nwantC {w : World} {v : Value} (h : NoCl w v) (C : Array Value) : Calls Try.prog 9 #[v, .agg C] w fun e w' => e = .returned (.int .i64 1) ∧ Touch (fun _ => False) w w' := by
  have HT := Lib.hid ((Touch.refl (fun _ => False) w).alloc (.cells C 35))
  have HN := Lib.hid (nnoneC (h.far HT.out))
  clear h
  go_enter Try.func9, Try.ntmps9
  go_wp2_with (go_at_call 21; go_must (refine HN.out.mono ?_); rintro e w1 ⟨rfl, rfl⟩)
  go_ret
  exact ⟨rfl, HT.out⟩
theorem nhearC {w : World} {v : Value} (h : NoCl w v) (C : Array Value) : Calls Try.prog 18 #[v, .agg C] w fun e w' => e = .returned (.bool false) ∧ Touch (fun _ => False) w w' := by
  obtain ⟨W0, hW0⟩ : ∃ W0, W0 = w.alloc (.cells C 47) := ⟨_, rfl⟩
  have HW0 := Lib.hid hW0
  have HT := Lib.hid (show Touch (fun _ => False) w W0.drew from hW0 ▸ ((Touch.refl (fun _ => False) w).alloc (.cells C 47)).drew)
  have HN := Lib.hid (nbusyC (h.far HT.out))
  clear h hW0
  go_enter Try.func18, Try.ntmps18
  go_wp2_with fail
  rw [← HW0.out]
  refine wp_region_plan [(0, 0), (0, 1), (0, 2), (0, 3), (0, 4), (0, 5), (0, 6), (0, 7), (0, 8), (0, 9), (0, 10), (0, 11), (0, 12), (0, 13), (0, 14), (0, 15), (0, 16), (0, 17), (0, 18), (0, 19), (0, 20)] (fun _ => False) (by kernel_rfl) (by kernel_rfl) (fun c a d v w h => by cases d <;> exact h) ?_
  iterate 21
    refine plan_s rfl fun Kc hKc => ?_
    go_simp
    first
      | (refine hKc _ ?_)
      | (refine ⟨_, calls_flip (HN.out), hKc _ ?_⟩)
    clear hKc Kc
  refine plan_done ?_
  go_wp2_with fail
  go_ret
  exact ⟨rfl, HT.out⟩
theorem ndoingC {w : World} {v : Value} (h : NoCl w v) : Calls Try.prog 17 #[v] w fun e w' => e = .returned (.tuple #[.agg cmZA, .bool false]) ∧ Touch (fun _ => False) w w' := by
  have ht := (Touch.refl (fun _ => False) w).alloc (.cells cmZA 35)
  have HT0 := Lib.hid ht
  have HB := Lib.hid (nbusyC (h.far ht))
  have HR0 := Lib.hid (Blk.new w 35 cmZA)
  clear h ht
  generalize hz : cmZA = Z at *
  have HZ := Lib.hid hz
  have HZl := Lib.hid (show (#[.int .i64 0, .int .u64 0, .int .u64 0, .int .u64 0, .int .i64 0, .int .i64 0, .int .i64 0, .slice none 0 0, .slice none 0 0, .int .i64 0, .slice none 0 0, .int .i64 0, .int .i64 0] : Array Value) = Z from hz)
  have HZn := Lib.hid (show Z.size = 13 from hz ▸ rfl)
  have HZ1 := Lib.hid (show Z.all (·.oneCell') = true from hz ▸ cmA_one _ _ _ _ _ _ _)
  have HZb := Lib.hid (show Try.prog.built 35 [] = some Z from hz ▸ builtCm)
  clear hz
  go_enter Try.func17, Try.ntmps17
  go_wp2_with (first
    | (go_at_call 22; rw [HZl.out]; go_must (refine HB.out.mono ?_); rintro e w1 ⟨rfl, rfl⟩)
    | (refine buildZ HZb.out rfl rfl ?_)
    | ((with_reducible apply HR0.out.st rowCm HZn.out HZn.out HZ1.out); exact rfl; exact rfl; exact rfl; exact rfl
       intro w4 hb4 t4
       have HB4 := Lib.hid hb4
       have HT4 := Lib.hid (HT0.out.trans t4 (S := fun _ => False) (fun k hk e => by omega))
       clear hb4 t4))
  refine bodyPost_ret (results_cell2 2 3 rowCm HZn.out (HB4.out.whole) rfl rfl) rfl ?_
  exact ⟨rfl, HT4.out⟩
end Go.Proofs.Ytlcefchbfjfifaa
end

section
namespace Go.Proofs.Ytlcefchbfjfifaa
open Go.RowKit Cal
set_option maxHeartbeats 4000000
set_option maxRecDepth 100000
set_option linter.unusedVariables false
attribute [local irreducible] wpPlan

/-- A client of the law's own. -/
structure CvL (w0 w : World) (g : Nat) (c : Cl) (M : ClM) (F : Nat → Prop) : Prop where
  at_ : ClAt w g c M F
  lt : ∀ k, F k → k < w.heap.size
  ge : w0.heap.size ≤ g
  fq : ∀ k, M.q = some k → w0.heap.size ≤ k
  t : Touch (fun _ => False) w0 w
theorem CvL.far {w0 w w' : World} {g : Nat} {c : Cl} {M : ClM} {F : Nat → Prop} (h : CvL w0 w g c M F) (t : Touch (fun _ => False) w w') : CvL w0 w' g c M F :=
  ⟨h.at_.far t, fun k hk => Nat.lt_of_lt_of_le (h.lt k hk) t.size, h.ge, h.fq, h.t.trans t (fun _ _ e => e)⟩
theorem CvL.step {w0 w w' : World} {g : Nat} {c c' : Cl} {M : ClM} {F : Nat → Prop} {v : Value} {e : Ending} (h : CvL w0 w g c M F) (hp : ClP v g c' M F w e w') : ∃ M' F', e = .returned v ∧ CvL w0 w' g c' M' F' := by
  obtain ⟨M', F', he, ha, hl, hF, t, hq⟩ := hp
  refine ⟨M', F', he, ha, hl, h.ge, fun k hk => ?_, h.t.trans t (fun k hk e => ?_)⟩
  · rcases hq with e | ⟨k', e, hk'⟩
    · exact h.fq k (e ▸ hk)
    · rw [e] at hk; injection hk with hk; subst hk; exact Nat.le_trans h.t.size hk'
  · rcases e with e | e
    · have := h.ge; omega
    · have := h.fq k e; omega
theorem CvL.tick {w0 w w' : World} {g : Nat} {c : Cl} {M : ClM} {F : Nat → Prop} (h : CvL w0 w g c M F) (ha : ClAt w' g c.tick M F) (t : Touch (fun k => k = g) w w') : CvL w0 w' g c.tick M F :=
  ⟨ha, fun k hk => Nat.lt_of_lt_of_le (h.lt k hk) t.size, h.ge, h.fq, h.t.trans t (fun k hk e => by have := h.ge; omega)⟩
def lvX : Cm := ⟨1, 0, 0, 0, 0, 0, caZ, coZ⟩
def lvY : Cm := ⟨1, 1, 1, 0, 0, 0, caZ, coZ⟩
def lvR : RpV := ⟨0, 0, ⟨0, 0, 0, 0, 0, 0, 0, 0, 0⟩, [], 0, 0⟩
def lv1 : Cl := ⟨3, 0, 0, 1, 1, some lvY, []⟩
def lv2 : Cl := ⟨3, 1, 0, 1, 1, some lvY, []⟩
def lv3 : Cl := ⟨3, 2, 0, 1, 1, some lvY, []⟩
def lv4 : Cl := ⟨3, 2, 0, 1, 1, none, [(lvY, lvR)]⟩
theorem lvS : cmSound lvY = true := by decide +kernel
theorem lvE1 : (Cl.new 1 3).wantE lvX = 0 := by
  unfold Cl.wantE
  rw [if_neg (by simp [Cl.new]), if_neg (by simp [Cl.new]), if_pos ⟨lvS, by simp [lvX]⟩]
theorem lvW1 : (Cl.new 1 3).want lvX = lv1 := by unfold Cl.want; rw [if_pos lvE1]; rfl
theorem lvH2 : lv1.hearB 1 1 51 = false ∧ lv1.hear 1 1 51 lvR = lv2 := ⟨rfl, rfl⟩
theorem lvH4 : lv3.hearB 1 1 0 = true ∧ lv3.hear 1 1 0 lvR = lv4 := ⟨rfl, rfl⟩
def tickN : Nat → Cl → Cl
  | 0, c => c
  | k + 1, c => (tickN k c).tick
theorem lvT : tickN 4 lv2 = lv3 := rfl
theorem lvX_64 : lvX.in64 := ⟨⟨by decide, by decide⟩, ⟨by decide, by decide⟩, ⟨by decide, by decide⟩⟩
theorem lvAn (code : Int) : AnC #[.int .u64 1, .int .u64 1, .int .i64 code, .int .i64 0, .int .i64 0, .int .u64 0, .int .i64 0, .int .i64 0, .int .i64 0, .int .u64 0, .int .i64 0, .int .i64 0, .int .i64 0, .int .i64 0, .slice none 0 0, .int .u64 0, .int .i64 0] (rpA lvR none 0) 1 1 code := ⟨rfl, rfl, rfl, rfl, rfl, rfl⟩
theorem lives38_any (w : World) : Calls Try.prog 7 #[] w fun e w' => e = .returned (.bool true) ∧ Touch (fun _ => False) w w' := by
  have HN := Lib.hid (clnew_yes 1 3 (by omega) (by omega) w)
  go_enter Try.func7, Try.ntmps7
  go_wp2_with fail
  refine (HN.out).mono ?_
  rintro e w1 ⟨rfl, ha, t1⟩
  have HL := Lib.hid (show CvL w w1 w.heap.size (Cl.new 1 3) ClM.zero (fun _ => False) from ⟨ha, (fun _ h => h.elim), Nat.le_refl _, (fun _ e => by cases e), t1⟩)
  clear ha t1 HN
  go_wp2_with fail
  refine (clwant_any HL.out.at_ HL.out.lt lvX lvX_64 none none none 0 0 0 (fun _ => False) ⟨CaR.zero _ _, SpR.nil _ _ _⟩ (fun _ h => h.elim) (by decide)).mono ?_
  intro e w2 hp
  rw [lvE1, lvW1] at hp
  obtain ⟨M2, F2, rfl, h2⟩ := HL.out.step hp
  have HL2 := Lib.hid h2
  clear hp h2 HL
  go_wp2_with fail
  refine (clhear_any HL2.out.at_ HL2.out.lt _ lvR none 0 1 1 51 (lvAn 51) (fun _ => False) (Rd.nil _ _ _) (fun _ h => h.elim) (by decide) (by decide)).mono ?_
  intro e w3 hp
  rw [lvH2.1, lvH2.2] at hp
  obtain ⟨M3, F3, rfl, h3⟩ := HL2.out.step hp
  have HL3 := Lib.hid h3
  clear hp h3 HL2
  go_wp2_with fail
  refine (clsend_any HL3.out.at_ HL3.out.lt).mono ?_
  rintro e w4 ⟨A4, n4, c4, l4, rfl, -, -, -, -, -, t4⟩
  have HL4 := Lib.hid (HL3.out.far t4)
  clear t4 HL3
  go_wp2_with fail
  go_loopw [24] (fun i wr => ∃ j : Nat, j ≤ 4 ∧ i = .int .i64 j ∧ CvL w wr w.heap.size (tickN j lv2) M3 F3) (fun i _ => 4 - (intOf i).toNat)
  case atStart => exact ⟨0, by omega, rfl, HL4.out⟩
  case round =>
    clear HL4
    obtain ⟨j, hj, rfl, hL⟩ := hrel
    have HL := Lib.hid hL
    clear hL
    by_cases hj4 : j < 4
    · have hj4' : (j : Int) < 4 := by omega
      have HTk := Lib.hid (cltick_any HL.out.at_)
      go_wp2_with (go_at_call 16; go_must (refine HTk.out.mono ?_); rintro e w5 ⟨rfl, h5, t5⟩; have HL5 := Lib.hid (HL.out.tick h5 t5); clear h5 t5)
      go_roundw
      case rel => exact ⟨j + 1, by omega, by go_num, HL5.out⟩
      case measure => simp [intOf]; omega
    · obtain rfl : j = 4 := by omega
      have HL6 := Lib.hid (lvT ▸ HL.out)
      clear HL
      go_wp2_with fail
      refine (clsend_any HL6.out.at_ HL6.out.lt).mono ?_
      rintro e w7 ⟨A7, n7, c7, l7, rfl, hl7, hn7, -, -, -, t7⟩
      have HL7 := Lib.hid (HL6.out.far t7)
      have hp7 : 0 < n7 := by rw [hn7, hl7]; exact encC_pos lvY
      clear t7 HL6 hl7 hn7
      go_wp2_with fail
      refine (clhear_any HL7.out.at_ HL7.out.lt _ lvR none 0 1 1 0 (lvAn 0) (fun _ => False) (Rd.nil _ _ _) (fun _ h => h.elim) (by decide) (by decide)).mono ?_
      intro e w8 hp
      rw [lvH4.1, lvH4.2] at hp
      obtain ⟨M8, F8, rfl, h8⟩ := HL7.out.step hp
      have HL8 := Lib.hid h8
      clear hp h8 HL7
      go_wp2_with fail
      refine (cldone_any HL8.out.at_ HL8.out.lt (by decide)).mono ?_
      rintro e w9 ⟨v9, q9, xs9, rfl, ho9, t9⟩
      obtain ⟨A9, c9, hv9, -⟩ := ho9.own.form
      have hv9 : v9 = .slice A9 1 c9 := hv9
      subst hv9
      have HT9 := Lib.hid (HL8.out.t.trans t9 (fun _ _ e => e))
      clear ho9 t9 HL8
      go_wp2_with fail
      go_ret
      exact ⟨rfl, HT9.out⟩
end Go.Proofs.Ytlcefchbfjfifaa
end

section
namespace Go.Proofs.Ytlcefchbfjfifaa
open Go.RowKit Go.ChangeShapes Go.WideShapes Go.ChangeAt Go.Deep
set_option maxHeartbeats 4000000
set_option maxRecDepth 100000
set_option linter.unusedVariables false
section
variable {H : Type} {enc : TypeId × Value → H} {w : World} {spare : Nat → Bool} {held : Bool}
theorem elem_u64 {P : Program} {e : TypeId} (he : P.underlying e = some (.int .u64)) {fuel : Nat} {cs : List Value} {x : DataW H × List MemPlace} (h : DataW.trod enc P w 0 spare held fuel e cs = some x) : ∃ n : Nat, cs = [U64 n] ∧ n < 18446744073709551616 := by
  obtain ⟨n, rfl, _, hw⟩ := DataW.trod_int he h
  simp [Lit.wf, IntKind.min, IntKind.max, IntKind.signed, IntKind.bits] at hw
  exact ⟨n.toNat, by rw [U64, Int.toNat_of_nonneg (by omega)], by omega⟩
theorem elem_i64 {P : Program} {e : TypeId} (he : P.underlying e = some (.int .i64)) {fuel : Nat} {cs : List Value} {x : DataW H × List MemPlace} (h : DataW.trod enc P w 0 spare held fuel e cs = some x) : ∃ n : Int, cs = [.int .i64 n] ∧ -9223372036854775808 ≤ n ∧ n ≤ 9223372036854775807 := by
  obtain ⟨n, rfl, _, hw⟩ := DataW.trod_int he h
  simp [Lit.wf, IntKind.min, IntKind.max, IntKind.signed, IntKind.bits] at hw
  exact ⟨n, rfl, by omega⟩
/-- A field that is a row of numbers. -/
theorem field_u64s {P : Program} {t e : TypeId} (ht : P.underlying t = some (.slice e)) (he : P.underlying e = some (.int .u64)) (hsz : P.cellsOf e = 1) {fuel : Nat} {v : Value} {x : DataW H × List MemPlace} (h : DataW.trod enc P w 0 spare held fuel t [v] = some x) :
    ∃ A c, ∃ l : List Nat, v = .slice A l.length c ∧ (∀ n ∈ l, n < 18446744073709551616) ∧ (A = none → c = 0) ∧ l.length ≤ c ∧ c ≤ maxLen ∧ Rd w (fun k => k < w.heap.size) A l.length (l.map U64) := by
  have hv : ∃ A n c, v = .slice A n c := by
    rcases open_slice ht h with ⟨hcs, _⟩ | ⟨a, len, cap, m, k, D, Pl, hcs, _⟩
    · injection hcs with hcs _; exact ⟨_, _, _, hcs⟩
    · injection hcs with hcs _; exact ⟨_, _, _, hcs⟩
  obtain ⟨A, n, c, rfl⟩ := hv
  obtain ⟨l, hl, ho, -, h1, h2, h3, h4⟩ := open_list (fun n => [U64 n]) (fun n => n < 18446744073709551616) (H := H) (enc := enc) (P := P) (w := w) (spare := spare) (held := held) (d := x.1) (ps := x.2) ht hsz (by decide) (fun _ _ _ hx => elem_u64 he hx) A n c rfl ⟨fuel, by simpa [Value.cells] using h⟩
  subst hl
  rw [flat_map1] at h4
  exact ⟨A, c, l, rfl, ho, h1, h2, h3, h4.rd⟩
theorem open_ticket {fuel : Nat} {cs : List Value} {x : DataW H × List MemPlace} (h : DataW.trod enc Try.prog w 0 spare held fuel 42 cs = some x) : ∃ t : TkV, cs = t.cells ∧ t.ok ∧ t.id < 18446744073709551616 := by
  obtain ⟨ys, n, _, _, hlen, hyl, hf⟩ := DataW.trod_struct Try.underlying42 h
  rw [show Try.prog.cellsOf 42 = 9 from by kernel_rfl] at hlen
  match cs, hlen, ys, hyl with
  | [c0, c1, c2, c3, c4, c5, c6, c7, c8], _, [y0, y1, y2, y3, y4, y5, y6, y7, y8], _ =>
    have k0 := hf 0 _ rfl; have k1 := hf 1 _ rfl; have k2 := hf 2 _ rfl; have k3 := hf 3 _ rfl; have k4 := hf 4 _ rfl; have k5 := hf 5 _ rfl; have k6 := hf 6 _ rfl; have k7 := hf 7 _ rfl; have k8 := hf 8 _ rfl
    have z0 : Try.prog.cellsOf 27 = 1 := by kernel_rfl
    have z1 : Try.prog.cellsOf 3 = 1 := by kernel_rfl
    have z2 : Try.prog.cellsOf 2 = 1 := by kernel_rfl
    simp [z0, z1, z2] at k0 k1 k2 k3 k4 k5 k6 k7 k8
    obtain ⟨n0, e0, o0⟩ := elem_u64 Try.underlying27 k0
    obtain ⟨n1, e1, o1⟩ := elem_i64 Try.underlying3 k1
    obtain ⟨n2, e2, o2⟩ := elem_i64 Try.underlying3 k2
    obtain ⟨n3, e3, o3⟩ := elem_i64 Try.underlying3 k3
    obtain ⟨n4, e4, o4⟩ := elem_u64 Try.underlying27 k4
    obtain ⟨n5, e5, o5⟩ := elem_i64 Try.underlying2 k5
    obtain ⟨n6, e6, o6⟩ := elem_i64 Try.underlying2 k6
    obtain ⟨n7, e7, o7⟩ := elem_i64 Try.underlying2 k7
    obtain ⟨n8, e8, o8⟩ := elem_i64 Try.underlying3 k8
    injection e0 with e0 _; injection e1 with e1 _; injection e2 with e2 _; injection e3 with e3 _; injection e4 with e4 _; injection e5 with e5 _; injection e6 with e6 _; injection e7 with e7 _; injection e8 with e8 _
    subst e0 e1 e2 e3 e4 e5 e6 e7 e8
    exact ⟨⟨n0, n1, n2, n3, n4, n5, n6, n7, n8⟩, rfl, ⟨o5.1, o5.2, o6.1, o6.2, o7.1, o7.2⟩, o0⟩
theorem open_reply {fuel : Nat} {cs : List Value} {x : DataW H × List MemPlace} (h : DataW.trod enc Try.prog w 0 spare held fuel 45 cs = some x) :
    ∃ (a : RpV) (A : Option Addr) (c : Nat), cs = [.int .i64 a.code, .int .i64 a.time, .int .u64 a.t.id, .int .i64 a.t.contract, .int .i64 a.t.state, .int .i64 a.t.level, .int .u64 a.t.gen, .int .i64 a.t.from_, .int .i64 a.t.left, .int .i64 a.t.due, .int .i64 a.t.told, .slice A a.fired.length c, .int .u64 a.notice, .int .i64 a.dead] ∧
      a.okp ∧ (A = none → c = 0) ∧ a.fired.length ≤ c ∧ c ≤ maxLen ∧ Rd w (fun k => k < w.heap.size) A a.fired.length (a.fired.map U64) := by
  obtain ⟨ys, n, _, _, hlen, hyl, hf⟩ := DataW.trod_struct Try.underlying45 h
  rw [show Try.prog.cellsOf 45 = 14 from by kernel_rfl] at hlen
  match cs, hlen, ys, hyl with
  | [c0, c1, c2, c3, c4, c5, c6, c7, c8, c9, c10, c11, c12, c13], _, [y0, y1, y2, y3, y4, y5], _ =>
    have k0 := hf 0 _ rfl; have k1 := hf 1 _ rfl; have k2 := hf 2 _ rfl; have k3 := hf 3 _ rfl; have k4 := hf 4 _ rfl; have k5 := hf 5 _ rfl
    have z0 : Try.prog.cellsOf 40 = 1 := by kernel_rfl
    have z1 : Try.prog.cellsOf 2 = 1 := by kernel_rfl
    have z2 : Try.prog.cellsOf 42 = 9 := by kernel_rfl
    have z3 : Try.prog.cellsOf 43 = 1 := by kernel_rfl
    have z4 : Try.prog.cellsOf 27 = 1 := by kernel_rfl
    have z5 : Try.prog.cellsOf 3 = 1 := by kernel_rfl
    simp [z0, z1, z2, z3, z4, z5] at k0 k1 k2 k3 k4 k5
    obtain ⟨n0, e0, o0⟩ := elem_i64 Try.underlying40 k0
    obtain ⟨n1, e1, o1⟩ := elem_i64 Try.underlying2 k1
    obtain ⟨t, e2, o2, o2'⟩ := open_ticket k2
    obtain ⟨A, c, l, rfl, ol, q1, q2, q3, q4⟩ := field_u64s Try.underlying43 Try.underlying27 (by kernel_rfl) k3
    obtain ⟨n4, e4, o4⟩ := elem_u64 Try.underlying27 k4
    obtain ⟨n5, e5, o5⟩ := elem_i64 Try.underlying3 k5
    injection e0 with e0 _; injection e1 with e1 _; injection e4 with e4 _; injection e5 with e5 _
    subst e0 e1 e4 e5
    simp only [TkV.cells, List.cons.injEq, and_true] at e2
    obtain ⟨rfl, rfl, rfl, rfl, rfl, rfl, rfl, rfl, rfl⟩ := e2
    exact ⟨⟨n0, n1, t, l, n4, n5⟩, A, c, rfl, ⟨o2, o2', o4, fun m hm => by have := ol m hm; omega⟩, q1, q2, q3, q4⟩
end
end Go.Proofs.Ytlcefchbfjfifaa
end

section
namespace Go.Proofs.Ytlcefchbfjfifaa
open Go.RowKit Go.ChangeShapes Go.WideShapes Go.ChangeAt Go.Deep
set_option maxHeartbeats 4000000
set_option maxRecDepth 100000
set_option linter.unusedVariables false
/-- A call: its kind; a command; an answer; is it the client's own. -/
structure COpV where
  kind : Int
  x : Cm
  A : Option Addr
  B : Option Addr
  D : Option Addr
  k : Nat
  m : Nat
  n : Nat
  ac : Nat
  ar : Nat
  code : Int
  r : RpV
  E : Option Addr
  e : Nat
  own : Bool
def COpV.ans (o : COpV) : Array Value := #[.int .u64 o.ac, .int .u64 o.ar, .int .i64 o.code] ++ rpA o.r o.E o.e
def COpV.arr (o : COpV) : Array Value := #[.int .i64 o.kind] ++ cmA o.x o.A o.B o.D o.k o.m o.n ++ o.ans ++ #[.bool o.own]
def COpV.cells (o : COpV) : List Value := o.arr.toList
theorem COpV.asize (o : COpV) : o.ans.size = 17 := by rw [COpV.ans, Array.size_append, rpA_size]; rfl
theorem COpV.size (o : COpV) : o.arr.size = 32 := by rw [COpV.arr, Array.size_append, Array.size_append, Array.size_append, cmA_size, o.asize]; rfl
theorem COpV.len (o : COpV) : o.cells.length = 32 := by rw [COpV.cells, Array.length_toList, o.size]
structure COpV.ok (w : World) (o : COpV) : Prop where
  x64 : o.x.in64
  cm : CmR w (fun k => k < w.heap.size) o.x o.A o.B o.D
  ac : o.ac < 18446744073709551616
  ar : o.ar < 18446744073709551616
  rok : o.r.okp
  rl : o.r.fired.length ≤ 9223372036854775807
  rp : Rd w (fun k => k < w.heap.size) o.E o.r.fired.length (o.r.fired.map U64)
theorem cut4 {cs : List Value} {a b c : Nat} (h : cs.length = a + b + c + 1) : cs = cs.take a ++ ((cs.drop a).take b ++ ((cs.drop (a + b)).take c ++ (cs.drop (a + b + c)).take 1)) := by
  rw [show (cs.drop (a + b + c)).take 1 = cs.drop (a + b + c) from List.take_of_length_le (by simp; omega)]
  have h3 : (cs.drop (a + b)).take c ++ cs.drop (a + b + c) = cs.drop (a + b) := by
    have := List.take_append_drop c (cs.drop (a + b))
    rwa [List.drop_drop] at this
  have h2 : (cs.drop a).take b ++ cs.drop (a + b) = cs.drop a := by
    have := List.take_append_drop b (cs.drop a)
    rwa [List.drop_drop] at this
  rw [h3, h2, List.take_append_drop]
section
variable {H : Type} {enc : TypeId × Value → H} {w : World} {spare : Nat → Bool} {held : Bool}
theorem open_ans {fuel : Nat} {cs : List Value} {x : DataW H × List MemPlace} (h : DataW.trod enc Try.prog w 0 spare held fuel 47 cs = some x) :
    ∃ (ac ar : Nat) (code : Int) (r : RpV) (E : Option Addr) (e : Nat), cs = .int .u64 ac :: .int .u64 ar :: .int .i64 code :: (rpA r E e).toList ∧ ac < 18446744073709551616 ∧ ar < 18446744073709551616 ∧ r.okp ∧ r.fired.length ≤ 9223372036854775807 ∧ Rd w (fun k => k < w.heap.size) E r.fired.length (r.fired.map U64) := by
  obtain ⟨ys, n, _, _, hlen, hyl, hf⟩ := DataW.trod_struct Try.underlying47 h
  rw [show Try.prog.cellsOf 47 = 17 from by kernel_rfl] at hlen
  match cs, hlen, ys, hyl with
  | [c0, c1, c2, c3, c4, c5, c6, c7, c8, c9, c10, c11, c12, c13, c14, c15, c16], _, [y0, y1, y2, y3], _ =>
    have k0 := hf 0 _ rfl; have k1 := hf 1 _ rfl; have k2 := hf 2 _ rfl; have k3 := hf 3 _ rfl
    have z0 : Try.prog.cellsOf 40 = 1 := by kernel_rfl
    have z1 : Try.prog.cellsOf 27 = 1 := by kernel_rfl
    have z2 : Try.prog.cellsOf 45 = 14 := by kernel_rfl
    simp [z0, z1, z2] at k0 k1 k2 k3
    obtain ⟨n0, e0, o0⟩ := elem_u64 Try.underlying27 k0
    obtain ⟨n1, e1, o1⟩ := elem_u64 Try.underlying27 k1
    obtain ⟨n2, e2, o2⟩ := elem_i64 Try.underlying40 k2
    obtain ⟨a, A, c, e3, o3, q1, q2, q3, q4⟩ := open_reply k3
    injection e0 with e0 _; injection e1 with e1 _; injection e2 with e2 _
    subst e0 e1 e2
    exact ⟨n0, n1, n2, a, A, c, by rw [e3]; rfl, o0, o1, o3, (show a.fired.length ≤ 9223372036854775807 by unfold maxLen at q3; omega), q4⟩
theorem elem_cop {fuel : Nat} {cs : List Value} {x : DataW H × List MemPlace} (h : DataW.trod enc Try.prog w 0 spare held fuel 49 cs = some x) : ∃ o : COpV, cs = o.cells ∧ o.ok w := by
  obtain ⟨ys, n, _, _, hlen, hyl, hf⟩ := DataW.trod_struct Try.underlying49 h
  rw [show Try.prog.cellsOf 49 = 32 from by kernel_rfl] at hlen
  match ys, hyl with
  | [y0, y1, y2, y3], _ =>
    have k0 := hf 0 _ rfl; have k1 := hf 1 _ rfl; have k2 := hf 2 _ rfl; have k3 := hf 3 _ rfl
    have z0 : Try.prog.cellsOf 3 = 1 := by kernel_rfl
    have z1 : Try.prog.cellsOf 35 = 13 := by kernel_rfl
    have z2 : Try.prog.cellsOf 47 = 17 := by kernel_rfl
    have z3 : Try.prog.cellsOf 4 = 1 := by kernel_rfl
    simp [z0, z1, z2, z3] at k0 k1 k2 k3
    have hc := cut4 (a := 1) (b := 13) (c := 17) hlen
    rw [List.drop_one] at hc
    obtain ⟨n0, e0, -⟩ := elem_i64 Try.underlying3 k0
    obtain ⟨cx, A, B, D, kk, mm, nn, e1, r1, q1⟩ := open_cmd k1
    obtain ⟨ac, ar, code, r, E, e, e2, o1, o2, o3, o4, o5⟩ := open_ans k2
    obtain ⟨b, e3, -⟩ := DataW.trod_bool Try.underlying4 k3
    refine ⟨⟨n0, cx, A, B, D, kk, mm, nn, ac, ar, code, r, E, e, b⟩, ?_, ⟨q1, r1, o1, o2, o3, o4, o5⟩⟩
    rw [hc, e0, e1, e2, e3]
    simp [COpV.cells, COpV.arr, COpV.ans, cmA]
end
end Go.Proofs.Ytlcefchbfjfifaa
end
