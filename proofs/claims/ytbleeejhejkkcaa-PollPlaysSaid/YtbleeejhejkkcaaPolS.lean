/- The walk of PollPlays. -/
import Derived.Test.YtbleeejhejkkcaaPolT
namespace Go.Proofs.Ytbleeejhejkkcaa
open Go.RowKit
set_option maxHeartbeats 4000000
set_option maxRecDepth 100000
set_option linter.unusedVariables false

/-- In PollPlays's loop: the poll, and the reference's in block t. -/
structure Both (w0 w : World) (g : Nat) (L : List Int) (b : Nat) (f : Int → Option Int) (F : Nat → Prop) (t : Nat) (A Y N : Option Addr) (c cy cn : Nat) : Prop where
  p : PlLoop w0 w g L b f F
  blk : Blk w t 29 #[.slice A L.length c, .slice Y (whoV f 1).length cy, .slice N (whoV f 2).length cn]
  y : Rd w (fun k => k ≠ b ∧ k ≠ t) Y (whoV f 1).length ((whoV f 1).map I64)
  n : Rd w (fun k => k ≠ b ∧ k ≠ t) N (whoV f 2).length ((whoV f 2).map I64)
def RN2 (G : Nat → Prop) (A : Option Addr) (c : Nat) (L : List Int) (f2 : Int → Option Int) (nb : Bool) (w : World) (e : Ending) (w' : World) : Prop :=
  ∃ Y cy N cn, e = .returned (.tuple #[.agg #[.slice A L.length c, .slice Y (whoV f2 1).length cy, .slice N (whoV f2 2).length cn], .bool nb]) ∧
    Rd w' G Y (whoV f2 1).length ((whoV f2 1).map I64) ∧ Rd w' G N (whoV f2 2).length ((whoV f2 2).map I64) ∧ Touch (fun _ => False) w w'
theorem RNotePost.to {G : Nat → Prop} {A : Option Addr} {c : Nat} {L : List Int} {f : Int → Option Int} {k : Int} {ok : Bool} {w w' : World} {e : Ending} (h : RNotePost G A c L (whoV f 1) (whoV f 2) k ok w e w') (hL : ∀ x ∈ L, 0 ≤ x ∧ x < 7) (hn : FNode f) (hi : FIn L f) :
    RN2 G A c L (noteF L f k ok) (noteB L f k) w e w' := by
  unfold RNotePost at h
  rw [who_yes hL hn hi, who_no hL hn hi, noteB_eq hn hi] at h
  exact h
theorem walk_PollPlays {w : World} (A0 : Option Addr) (n0 c0 : Nat) (l0 : List Int) (e0 : l0.length = n0) (o0 : ∀ x ∈ l0, -9223372036854775808 ≤ x ∧ x ≤ 9223372036854775807) (g0 : A0 = none → c0 = 0) (u0 : n0 ≤ c0) (m0 : c0 ≤ maxLen) (s0 : Rd w (fun k => k < w.heap.size) A0 n0 (l0.map I64))
    (A1 : Option Addr) (n1 c1 : Nat) (l1 : List SaidV) (e1 : l1.length = n1) (o1 : ∀ x ∈ l1, inI x.node) (z1 : ∀ a ∈ l1, a.cells.length = 2) (g1 : A1 = none → c1 = 0) (u1 : n1 ≤ c1) (m1 : c1 ≤ maxLen) (s1 : RdZ w (fun k => k < w.heap.size) 2 A1 n1 (l1.flatMap SaidV.cells)) :
    Calls Try.prog 3 #[.slice A0 n0 c0, .slice A1 n1 c1] w fun e w' => e = .returned (.bool true) ∧ Below w.heap.size w w' := by
  subst e0 e1
  have HS0 := Lib.hid s0
  have HS1 := Lib.hid s1
  have HO1 := Lib.hid o1
  clear o0 o1 z1 g0 g1 s0 s1 u0 u1 m0 m1
  by_cases hbig : 40 < (l0.length : Int)
  · go_enter Try.func3, Try.ntmps3
    go_wp2_with (go_at_call 10; go_must (refine (lives32_any _).mono ?_); rintro e w1 ⟨rfl, t1⟩; have HT := Lib.hid t1; clear t1)
    go_ret
    exact ⟨rfl, HT.out.below⟩
  by_cases hbig2 : 60 < (l1.length : Int)
  · go_enter Try.func3, Try.ntmps3
    go_wp2_with (go_at_call 10; go_must (refine (lives32_any _).mono ?_); rintro e w1 ⟨rfl, t1⟩; have HT := Lib.hid t1; clear t1)
    go_ret
    exact ⟨rfl, HT.out.below⟩
  have hl0 : l0.length ≤ 40 := by omega
  have hl1 : l1.length ≤ 60 := by omega
  have HSd := Lib.hid (fun w1 (h : Touch (fun _ => False) w w1) => rsound_any _ A0 c0 l0 w1 (HS0.out.touch h (fun _ _ e => e)) (by omega))
  cases hs : Row.soundB l0
  · rw [hs] at HSd
    have HSo := Lib.hid hs
    clear hs
    go_enter Try.func3, Try.ntmps3
    go_wp2_with (first
      | (go_at_call 11; go_must (refine (pnew_no _ A0 c0 l0 _ (by exact HS0.out) (by omega) HSo.out).mono ?_); rintro e w1 ⟨rfl, t1⟩; have HT := Lib.hid t1; clear t1)
      | (go_at_call 12; go_must (refine (HSd.out _ (by exact HT.out)).mono ?_); rintro e w1 ⟨rfl, t1⟩; have HT := Lib.hid (HT.out.trans t1 (fun _ _ e => e)); clear t1)
      | (go_at_call 10; go_must (refine (lives32_any _).mono ?_); rintro e w2 ⟨rfl, t2⟩; have HT := Lib.hid (HT.out.trans t2 (fun _ _ e => e)); clear t2))
    go_ret
    exact ⟨rfl, HT.out.below⟩
  · rw [hs] at HSd
    have HSo := Lib.hid hs
    have HL := Lib.hid (((Row.sound_iff l0).1 hs).2.2)
    clear hs
    go_enter Try.func3, Try.ntmps3
    go_wp2_with (first
      | (go_at_call 12; go_must (refine (HSd.out _ (by exact HT.out)).mono ?_); rintro e w3 ⟨rfl, t3⟩
         have HT3 := Lib.hid t3
         have HP := Lib.hid (HP.out.touch t3 (fun _ _ e => e) (fun e => e) (fun e => e) (fun _ _ e => e))
         clear t3)
      | (go_at_call 11
         go_must (refine (pnew_yes _ A0 c0 l0 _ (by exact HS0.out) (by omega) HSo.out).mono ?_)
         rintro e w2 ⟨g, b, F, rfl, hp, hg, hb, hF, t2⟩
         have HT := Lib.hid t2
         have hgw : w.heap.size ≤ g := by omega
         have hbw : w.heap.size ≤ b := by omega
         have hbl := hp.map.lt
         have HP := Lib.hid (show PlLoop w w2 g l0 b (fun _ => none) _ from ⟨hp.near, f0_node, fun k v h => (by cases h), t2⟩)
         have hgl := hp.blk.choose_spec.choose_spec.1.lt
         clear hp hg hb hF t2))
    obtain ⟨t, ht⟩ : ∃ t, t = w3.heap.size := ⟨_, rfl⟩
    have hz3 := HT3.out.size
    have hnt : ¬ t = b := by omega
    have hngt : ¬ t = g := by omega
    have hwt : w.heap.size ≤ t := by have := HT.out.size; omega
    obtain ⟨F1, hF1⟩ : ∃ F1 : Nat → Prop, F1 = fun k => F k ∧ k < w2.heap.size := ⟨_, rfl⟩
    have HF1 := Lib.hid (show ∀ k, F1 k → k ≠ t from fun k hk => by rw [hF1] at hk; have := hk.2; omega)
    have H0 := Lib.hid (show Both w (w3.alloc (.cells #[.slice A0 l0.length c0, .slice none 0 0, .slice none 0 0] 29)) g l0 b (fun _ => none) F1 t A0 none none c0 0 0 from
      ⟨(hF1 ▸ HP.out).touch ((Touch.refl (fun _ => False) _).alloc _) (fun _ _ e => e) (fun e => e) (fun e => e) (fun _ _ e => e), ht ▸ Blk.new w3 _ _, Rd.nil _ _ _, Rd.nil _ _ _⟩)
    rw [← ht]
    clear hF1 HP HT HT3 HSd ht
    go_loopw [36] (fun i wr => ∃ j : Nat, j ≤ l1.length ∧ i = .int .i64 j ∧ ∃ f Y N cy cn, Both w wr g l0 b f F1 t A0 Y N c0 cy cn) (fun i _ => l1.length - (intOf i).toNat)
    case atStart => exact ⟨0, by omega, rfl, _, _, _, _, _, H0.out⟩
    case round =>
      clear H0
      obtain ⟨j, hj, rfl, f, Y, N, cy, cn, hB⟩ := hrel
      have HB := Lib.hid hB
      clear hB
      by_cases hjk : j < l1.length
      · have ha : l1[j]? = some (l1[j]'hjk) := List.getElem?_eq_getElem _
        have HI := Lib.hid (HO1.out _ (List.getElem_mem hjk))
        obtain ⟨a, off, rfl, -, -, hc⟩ := (HS1.out.touch HB.out.p.t (fun _ _ e => e)).at_ (fun a _ => said_len a) rfl ha
        generalize l1[j]'hjk = x at *
        have q0 := hc 0 _ rfl
        have q1 := hc 1 _ rfl
        simp only [Nat.add_zero, ← Nat.add_assoc] at q0 q1
        obtain ⟨x, ok⟩ := x
        simp only at q0 q1 HI
        clear hc ha
        have HTA := Lib.hid ((Touch.refl (fun _ => False) wr).alloc (.cells #[.int .i64 x, .bool ok] 31))
        have HBS := Lib.hid (Blk.new wr 31 #[.int .i64 x, .bool ok])
        have hzr : wr.heap.size + 1 = (wr.alloc (.cells #[.int .i64 x, .bool ok] 31)).heap.size := by simp
        have htl := HB.out.blk.lt
        have hbl1 := HB.out.p.at_.map.lt
        have hnr : ¬ t = wr.heap.size := by omega
        have hnr' : ¬ wr.heap.size = t := by omega
        obtain ⟨f2, hf2⟩ : ∃ f2, f2 = noteF l0 f x ok := ⟨_, rfl⟩
        obtain ⟨nb, hnb⟩ : ∃ nb, nb = noteB l0 f x := ⟨_, rfl⟩
        have hR := rpnote_any (fun k => k ≠ b ∧ k ≠ t) A0 Y N c0 cy cn l0 (whoV f 1) (whoV f 2) x ok (wr.alloc (.cells #[.int .i64 x, .bool ok] 31))
          (((HS0.out.touch HB.out.p.t (fun _ _ e => e)).touch HTA.out (fun _ _ e => e)).mono (fun k hk => ⟨by omega, by omega⟩)) (HB.out.y.touch HTA.out (fun _ _ e => e)) (HB.out.n.touch HTA.out (fun _ _ e => e)) (fun k hk => by rw [← hzr] at hk; exact ⟨by omega, by omega⟩) (by omega) (by have := who_len7 f 1; omega) (by have := who_len7 f 2; omega)
        have HR := Lib.hid (show Calls Try.prog 13 _ _ (RN2 (fun k => k ≠ b ∧ k ≠ t) A0 c0 l0 f2 nb (wr.alloc (.cells #[.int .i64 x, .bool ok] 31))) from hR.mono fun e w' h => hf2 ▸ hnb ▸ h.to HL.out HB.out.p.node HB.out.p.in_)
        have HNt := Lib.hid (show ∀ wb, Touch (fun q => q = t) wr wb → Calls Try.prog 14 #[.pointer (some ⟨g, 0, none⟩), .int .i64 x, .bool ok] wb fun e w' => e = .returned (.bool nb) ∧ PlLoop w w' g l0 b f2 F1 ∧ Touch (fun q => q = b) wb w' from fun wb tb => by
          have hpb := HB.out.p.touch tb (fun k hk e => by omega) (fun e => by omega) (fun e => by omega) (fun k hk e => HF1.out k hk e)
          refine (pnote_any g l0 b (2 * cntF f) f F1 x ok wb hpb.at_ HI.out (by have := cntF_le f; omega) (by omega)).mono ?_
          rintro e w4 ⟨rfl, h4, t4, hn4⟩
          exact ⟨by rw [hnb], hf2 ▸ hpb.note hbw HL.out (Touch.refl _ _) h4 t4 hn4, t4⟩)
        obtain ⟨sv, hsv⟩ : ∃ sv, sv = stateV l0 f2 := ⟨_, rfl⟩
        have HSt := Lib.hid (show ∀ w1, PlLoop w w1 g l0 b f2 F1 → Calls Try.prog 15 #[.pointer (some ⟨g, 0, none⟩)] w1 fun e w' => e = .returned (.int .i64 sv) ∧ Touch (fun _ => False) w1 w' from fun w1 h => by rw [hsv]; exact state_any g l0 b _ f2 F1 w1 h.at_ h.node HSo.out)
        have HSr := Lib.hid (show ∀ w1 Y cy N cn, FNode f2 → FIn l0 f2 → Rd w1 (fun k => k ≠ b ∧ k ≠ t) A0 l0.length (l0.map I64) → Rd w1 (fun k => k ≠ b ∧ k ≠ t) Y (whoV f2 1).length ((whoV f2 1).map I64) → Rd w1 (fun k => k ≠ b ∧ k ≠ t) N (whoV f2 2).length ((whoV f2 2).map I64) →
          Calls Try.prog 16 #[.agg #[.slice A0 l0.length c0, .slice Y (whoV f2 1).length cy, .slice N (whoV f2 2).length cn]] w1 fun e w' => e = .returned (.int .i64 sv) ∧ Touch (fun _ => False) w1 w' from fun w1 Y cy N cn hn hi ha hy hno => by
            rw [hsv, ← state_eq HSo.out hn hi]
            exact rpstate_any _ A0 Y N c0 cy cn l0 (whoV f2 1) (whoV f2 2) w1 ha hy hno (by omega) (by have := who_len7 f2 1; omega) (by have := who_len7 f2 2; omega))
        have HYe := Lib.hid (show ∀ w1, PlLoop w w1 g l0 b f2 F1 → Calls Try.prog 18 #[.pointer (some ⟨g, 0, none⟩)] w1 (NewSl w1 ((whoV f2 1).map I64)) from fun w1 h => yes_any g l0 b _ f2 F1 w1 h.at_ h.node)
        have HNo := Lib.hid (show ∀ w1, PlLoop w w1 g l0 b f2 F1 → Calls Try.prog 19 #[.pointer (some ⟨g, 0, none⟩)] w1 (NewSl w1 ((whoV f2 2).map I64)) from fun w1 h => no_any g l0 b _ f2 F1 w1 h.at_ h.node)
        have HSm := Lib.hid (show ∀ w1 (x : Int) F A A' c c', Rd w1 F A (whoV f2 x).length ((whoV f2 x).map I64) → Rd w1 (fun k => k ≠ b ∧ k ≠ t) A' (whoV f2 x).length ((whoV f2 x).map I64) → Calls Try.prog 17 #[.slice A (whoV f2 x).length c, .slice A' (whoV f2 x).length c'] w1 fun e w' => e = .returned (.bool true) ∧ Touch (fun _ => False) w1 w' from fun w1 x F A A' c c' h h' => by
          have := rsame_any F _ A A' c c' (whoV f2 x) (whoV f2 x) w1 h h' (by have := who_len7 f2 x; omega)
          simpa using this)
        clear hR hf2 hnb hsv
        obtain ⟨⟨a0, a1, a2⟩, -⟩ := (HB.out.blk.alloc (.cells #[.int .i64 x, .bool ok] 31)).three
        go_wp2_with (go_at_call 13
                     go_must (refine HR.out.mono ?_)
                     rintro e w4 ⟨Y2, cy2, N2, cn2, rfl, hy2, hn2, t4⟩
                     have HY2 := Lib.hid hy2
                     have HN2 := Lib.hid hn2
                     have HT4 := Lib.hid t4
                     have hz4 := t4.size
                     have hn4 : ¬ t = w4.heap.size := by omega
                     have hn5 : ¬ wr.heap.size = w4.heap.size := by omega
                     have hb4 := t4.blk (HB.out.blk.alloc (.cells #[.int .i64 x, .bool ok] 31)) (fun e => e)
                     obtain ⟨⟨b0, b1, b2⟩, b3, b4, b5⟩ := (hb4.alloc (.cells #[.slice A0 l0.length c0, .slice Y2 (whoV f2 1).length cy2, .slice N2 (whoV f2 2).length cn2] 29)).three
                     have hs4 := t4.blk HBS.out (fun e => e)
                     have s0 := hs4.cell 0; have s1 := hs4.cell 1
                     simp at s0 s1
                     clear hy2 hn2 t4 hb4 hs4 a0 a1 a2)
        obtain ⟨W2, hW2⟩ : ∃ W2, W2 = ((((w4.alloc (.cells #[.slice A0 l0.length c0, .slice Y2 (whoV f2 1).length cy2, .slice N2 (whoV f2 2).length cn2] 29)).setCell ⟨t, 0, none⟩ (.slice A0 l0.length c0)).setCell ⟨t, 1, none⟩ (.slice Y2 (whoV f2 1).length cy2)).setCell ⟨t, 2, none⟩ (.slice N2 (whoV f2 2).length cn2)) := ⟨_, rfl⟩
        rw [← hW2]
        have tW4 : Touch (fun q => q = t) w4 W2 := hW2 ▸ ((((Touch.refl (fun q => q = t) w4).alloc _).set (fun _ => rfl) _).set (fun _ => rfl) _).set (fun _ => rfl) _
        have HTW := Lib.hid (show Touch (fun q => q = t) wr W2 from ((HTA.out.trans HT4.out (fun _ _ e => e)).mono (fun _ _ e => e.elim)).trans tW4 (fun _ _ e => e))
        have HBt := Lib.hid (show Blk W2 t 29 #[.slice A0 l0.length c0, .slice Y2 (whoV f2 1).length cy2, .slice N2 (whoV f2 2).length cn2] from by
          have h0 := HT4.out.blk (HB.out.blk.alloc (.cells #[.int .i64 x, .bool ok] 31)) (fun e => e)
          rw [hW2]
          exact (((h0.alloc (.cells #[.slice A0 l0.length c0, .slice Y2 (whoV f2 1).length cy2, .slice N2 (whoV f2 2).length cn2] 29)).set_ 0 (.slice A0 l0.length c0)).set_ 1 (.slice Y2 (whoV f2 1).length cy2)).set_ 2 (.slice N2 (whoV f2 2).length cn2))
        have HBs := Lib.hid (show Blk W2 wr.heap.size 31 #[.int .i64 x, .bool ok] from tW4.blk (HT4.out.blk HBS.out (fun e => e)) hnr')
        have HYw := Lib.hid (HY2.out.touch tW4 (fun k hk e => hk.2 e))
        have HNw := Lib.hid (HN2.out.touch tW4 (fun k hk e => hk.2 e))
        have HAw := Lib.hid (show Rd W2 (fun k => k ≠ b ∧ k ≠ t) A0 l0.length (l0.map I64) from ((HS0.out.touch HB.out.p.t (fun _ _ e => e)).touch HTW.out (fun k hk e => by omega)).mono (fun k hk => ⟨by omega, by omega⟩))
        have hl4 := HBt.out.lt
        clear tW4 hW2 b0 b1 b2 b3 b4 b5 s0 s1 HR
        have s0 := HBs.out.cell 0; have s1 := HBs.out.cell 1
        simp at s0 s1
        refine wp_region_plan [(0, 0), (0, 1), (0, 2), (0, 3), (0, 4), (1, 6), (2, 5), (0, 7), (0, 8), (0, 9), (1, 11), (2, 10), (2, 12), (0, 13), (0, 14), (0, 15), (0, 16), (1, 18), (1, 19), (2, 17), (2, 20), (0, 21), (0, 22), (0, 23), (0, 24), (1, 26), (1, 27), (2, 25), (2, 28), (0, 29), (0, 30)] (fun q => q = b) (by kernel_rfl) (by kernel_rfl) (fun c a d v w h => by cases d <;> exact h) ?_
        iterate 5
          first
            | (refine plan_s1 rfl (by rfl) (fun Kc hKc => ?_)
               go_simp
               first
                 | (refine hKc _ ?_)
               clear hKc Kc)
            | (refine plan_s0 rfl (by rfl) ?_; go_frame)
        iterate 1
          first
            | (apply plan_h
               · rfl
               · rfl
               · intro wh hT
                 go_simp
                 try rfl
               go_frame)
            | (refine plan_hn rfl (by rfl) ?_; go_frame)
        refine plan_a1 rfl (by rfl) (fun Kc hKc => ?_)
        go_simp
        refine (HNt.out _ (by exact HTW.out.drew)).mono ?_
        rintro e w5 ⟨rfl, hp5, t5⟩
        refine hKc _ _ ⟨t5, ?_⟩
        clear hKc Kc
        have HP5 := Lib.hid hp5
        have HT5 := Lib.hid (show Touch (fun q => q = b) W2 w5 from (Touch.refl (fun q => q = b) W2).drew.trans t5 (fun _ _ e => e))
        clear hp5 t5 s0 s1
        iterate 3
          first
            | (refine plan_s1 rfl (by rfl) (fun Kc hKc => ?_)
               go_simp
               first
                 | (refine hKc _ ?_)
               clear hKc Kc)
            | (refine plan_s0 rfl (by rfl) ?_; go_frame)
        iterate 1
          first
            | (apply plan_h
               · rfl
               · rfl
               · intro wh hT
                 have hf0 := show wh.cell? ⟨t, 0, none⟩ = some (.slice A0 l0.length c0) from (hT.blk (HT5.out.blk HBt.out hnt) hnt).cell 0
                 have hf1 := show wh.cell? ⟨t, 1, none⟩ = some (.slice Y2 (whoV f2 1).length cy2) from (hT.blk (HT5.out.blk HBt.out hnt) hnt).cell 1
                 have hf2 := show wh.cell? ⟨t, 2, none⟩ = some (.slice N2 (whoV f2 2).length cn2) from (hT.blk (HT5.out.blk HBt.out hnt) hnt).cell 2
                 go_simp
                 try rfl
               go_frame)
            | (refine plan_hn rfl (by rfl) ?_; go_frame)
        refine plan_a1 rfl (by rfl) (fun Kc hKc => ?_)
        go_simp
        refine (HSt.out _ (by exact HP5.out)).mono ?_
        rintro e w6 ⟨rfl, t6⟩
        refine hKc _ _ ⟨(t6.mono (fun _ _ e => e.elim)), ?_⟩
        clear hKc Kc
        have HT6 := Lib.hid (show Touch (fun _ => False) w5 w6 from t6)
        clear t6
        have HT26 := Lib.hid (HT5.out.trans HT6.out (fun _ _ e => e.elim))
        refine plan_a1 rfl (by rfl) (fun Kc hKc => ?_)
        go_simp
        refine (HSr.out _ Y2 cy2 N2 cn2 (by exact HP5.out.node) (by exact HP5.out.in_) (by exact HAw.out.touch HT26.out (fun k hk e => hk.1 e)) (by exact HYw.out.touch HT26.out (fun k hk e => hk.1 e)) (by exact HNw.out.touch HT26.out (fun k hk e => hk.1 e))).mono ?_
        rintro e w7 ⟨rfl, t7⟩
        refine hKc _ _ ⟨(t7.mono (fun _ _ e => e.elim)), ?_⟩
        clear hKc Kc
        have HT7 := Lib.hid (show Touch (fun _ => False) w5 w7 from HT6.out.trans t7 (fun _ _ e => e))
        clear t7 HT26
        have HT27 := Lib.hid (HT5.out.trans HT7.out (fun _ _ e => e.elim))
        have HP7 := Lib.hid (HP5.out.touch HT7.out (fun _ _ e => e) (fun e => e) (fun e => e) (fun _ _ e => e))
        iterate 4
          first
            | (refine plan_s1 rfl (by rfl) (fun Kc hKc => ?_)
               go_simp
               first
                 | (refine hKc _ ?_)
               clear hKc Kc)
            | (refine plan_s0 rfl (by rfl) ?_; go_frame)
        iterate 2
          first
            | (apply plan_h
               · rfl
               · rfl
               · intro wh hT
                 have hf0 := show wh.cell? ⟨t, 1, none⟩ = some (.slice Y2 (whoV f2 1).length cy2) from (hT.blk (HT27.out.blk HBt.out hnt) hnt).cell 1
                 go_simp
                 try rfl
               go_frame)
            | (refine plan_hn rfl (by rfl) ?_; go_frame)
        refine plan_a1 rfl (by rfl) (fun Kc hKc => ?_)
        go_simp
        refine (HYe.out _ (by exact HP7.out)).mono ?_
        rintro e w8 ⟨A8, c8, rfl, -, -, hr8, t8⟩
        rw [List.length_map] at hr8 ⊢
        refine hKc _ _ ⟨(t8.mono (fun _ _ e => e.elim)), ?_⟩
        clear hKc Kc
        have HR8 := Lib.hid hr8
        have HT8 := Lib.hid (show Touch (fun _ => False) w5 w8 from HT7.out.trans t8 (fun _ _ e => e))
        clear hr8 t8
        have HT28 := Lib.hid (HT5.out.trans HT8.out (fun _ _ e => e.elim))
        refine plan_a1 rfl (by rfl) (fun Kc hKc => ?_)
        go_simp
        refine (HSm.out _ 1 _ A8 Y2 c8 cy2 (by exact HR8.out) (by exact HYw.out.touch HT28.out (fun k hk e => hk.1 e))).mono ?_
        rintro e w9 ⟨rfl, t9⟩
        refine hKc _ _ ⟨(t9.mono (fun _ _ e => e.elim)), ?_⟩
        clear hKc Kc
        have HT9 := Lib.hid (show Touch (fun _ => False) w5 w9 from HT8.out.trans t9 (fun _ _ e => e))
        clear t9 HT28
        have HT29 := Lib.hid (HT5.out.trans HT9.out (fun _ _ e => e.elim))
        have HP9 := Lib.hid (HP5.out.touch HT9.out (fun _ _ e => e) (fun e => e) (fun e => e) (fun _ _ e => e))
        iterate 4
          first
            | (refine plan_s1 rfl (by rfl) (fun Kc hKc => ?_)
               go_simp
               first
                 | (refine hKc _ ?_)
               clear hKc Kc)
            | (refine plan_s0 rfl (by rfl) ?_; go_frame)
        iterate 2
          first
            | (apply plan_h
               · rfl
               · rfl
               · intro wh hT
                 have hf0 := show wh.cell? ⟨t, 2, none⟩ = some (.slice N2 (whoV f2 2).length cn2) from (hT.blk (HT29.out.blk HBt.out hnt) hnt).cell 2
                 go_simp
                 try rfl
               go_frame)
            | (refine plan_hn rfl (by rfl) ?_; go_frame)
        refine plan_a1 rfl (by rfl) (fun Kc hKc => ?_)
        go_simp
        refine (HNo.out _ (by exact HP9.out)).mono ?_
        rintro e w10 ⟨A10, c10, rfl, -, -, hr10, t10⟩
        rw [List.length_map] at hr10 ⊢
        refine hKc _ _ ⟨(t10.mono (fun _ _ e => e.elim)), ?_⟩
        clear hKc Kc
        have HR10 := Lib.hid hr10
        have HT10 := Lib.hid (show Touch (fun _ => False) w5 w10 from HT9.out.trans t10 (fun _ _ e => e))
        clear hr10 t10
        have HT210 := Lib.hid (HT5.out.trans HT10.out (fun _ _ e => e.elim))
        refine plan_a1 rfl (by rfl) (fun Kc hKc => ?_)
        go_simp
        refine (HSm.out _ 2 _ A10 N2 c10 cn2 (by exact HR10.out) (by exact HNw.out.touch HT210.out (fun k hk e => hk.1 e))).mono ?_
        rintro e w11 ⟨rfl, t11⟩
        refine hKc _ _ ⟨(t11.mono (fun _ _ e => e.elim)), ?_⟩
        clear hKc Kc
        have HT11 := Lib.hid (show Touch (fun _ => False) w5 w11 from HT10.out.trans t11 (fun _ _ e => e))
        clear t11 HT210
        iterate 2
          first
            | (refine plan_s1 rfl (by rfl) (fun Kc hKc => ?_)
               go_simp
               first
                 | (refine hKc _ ?_)
               clear hKc Kc)
            | (refine plan_s0 rfl (by rfl) ?_; go_frame)
        refine plan_done ?_
        go_wp2_with fail
        go_roundw
        case rel =>
          have t5 := HT5.out.trans (HT11.out.mono (fun _ _ e => e.elim)) (fun _ _ e => e)
          exact ⟨j + 1, by omega, by go_num, f2, Y2, N2, cy2, cn2, HP5.out.touch HT11.out (fun _ _ e => e) (fun e => e) (fun e => e) (fun _ _ e => e), t5.blk HBt.out hnt, HYw.out.touch t5 (fun k hk e => hk.1 e), HNw.out.touch t5 (fun k hk e => hk.1 e)⟩
        case measure => simp [intOf]; omega
      · go_wp2_with (go_at_call 10; go_must (refine (lives32_any _).mono ?_); rintro e w1 ⟨rfl, t1⟩; have HT := Lib.hid (HB.out.p.t.trans t1 (fun _ _ e => e)); clear t1)
        go_ret
        exact ⟨rfl, HT.out.below⟩
end Go.Proofs.Ytbleeejhejkkcaa
