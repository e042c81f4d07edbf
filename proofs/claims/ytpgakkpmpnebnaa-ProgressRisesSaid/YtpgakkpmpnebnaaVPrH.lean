/- The walk of ProgressRises. -/
import Derived.Test.YtpgakkpmpnebnaaVPrG
import Derived.Deep.QuietTactic
import Derived.BigQuiet
namespace Go.Proofs.Ytpgakkpmpnebnaa
open Go.RowKit Go.Maps Prg
set_option maxHeartbeats 4000000
set_option maxRecDepth 100000
set_option linter.unusedVariables false
attribute [local irreducible] wpPlan

theorem rowPl : RowT 43 4 := ⟨⟨_, Try.underlying43, rfl⟩, by kernel_rfl⟩
/-- Seven lines; seven truths. -/
def sevL (l : Nat → Ln) : Array Value :=
  #[.int .u64 (l 0).m, .int .u64 (l 0).n, .int .u64 (l 0).r, .bool (l 0).a,
    .int .u64 (l 1).m, .int .u64 (l 1).n, .int .u64 (l 1).r, .bool (l 1).a,
    .int .u64 (l 2).m, .int .u64 (l 2).n, .int .u64 (l 2).r, .bool (l 2).a,
    .int .u64 (l 3).m, .int .u64 (l 3).n, .int .u64 (l 3).r, .bool (l 3).a,
    .int .u64 (l 4).m, .int .u64 (l 4).n, .int .u64 (l 4).r, .bool (l 4).a,
    .int .u64 (l 5).m, .int .u64 (l 5).n, .int .u64 (l 5).r, .bool (l 5).a,
    .int .u64 (l 6).m, .int .u64 (l 6).n, .int .u64 (l 6).r, .bool (l 6).a]
def sevB (h : Nat → Bool) : Array Value := #[.bool (h 0), .bool (h 1), .bool (h 2), .bool (h 3), .bool (h 4), .bool (h 5), .bool (h 6)]
theorem sevL_put (l : Nat → Ln) {n : Nat} (hn : n < 7) (x : Ln) : setAll (sevL l) (n * 4) (lnC x).toList = sevL (updL l n x) := by
  rcases lt7 hn with rfl | rfl | rfl | rfl | rfl | rfl | rfl <;> rfl
theorem sevB_put (h : Nat → Bool) {n : Nat} (hn : n < 7) (b : Bool) : (sevB h).setIfInBounds n (.bool b) = sevB (updB h n b) := by
  rcases lt7 hn with rfl | rfl | rfl | rfl | rfl | rfl | rfl <;> rfl
theorem sevL_at (l : Nat → Ln) {n : Nat} (hn : n < 7) : (sevL l)[n * 4]? = some (.int .u64 (l n).m) ∧ (sevL l)[n * 4 + 2]? = some (.int .u64 (l n).r) := by
  rcases lt7 hn with rfl | rfl | rfl | rfl | rfl | rfl | rfl <;> exact ⟨rfl, rfl⟩
theorem sevB_at (h : Nat → Bool) {n : Nat} (hn : n < 7) : (sevB h)[n]? = some (.bool (h n)) := by
  rcases lt7 hn with rfl | rfl | rfl | rfl | rfl | rfl | rfl <;> rfl
/-- Up to n they are the table's. -/
def seenL (t : Tb) (k : Nat) : Nat → Ln := fun i => if i < k then lineV t i else Ln.z
def seenB (t : Tb) (k : Nat) : Nat → Bool := fun i => if i < k then (t i).isSome else false
theorem seenL_step (t : Tb) (k : Nat) : updL (seenL t k) k (lineV t k) = seenL t (k + 1) := by
  funext i; unfold updL seenL
  by_cases e : i = k
  · subst e; rw [if_pos rfl, if_pos (by omega)]
  · rw [if_neg e]; by_cases h : i < k
    · rw [if_pos h, if_pos (by omega)]
    · rw [if_neg h, if_neg (by omega)]
theorem seenB_step (t : Tb) (k : Nat) : updB (seenB t k) k (t k).isSome = seenB t (k + 1) := by
  funext i; unfold updB seenB
  by_cases e : i = k
  · subst e; rw [if_pos rfl, if_pos (by omega)]
  · rw [if_neg e]; by_cases h : i < k
    · rw [if_pos h, if_pos (by omega)]
    · rw [if_neg h, if_neg (by omega)]
theorem same_up (t : Tb) : t.Up t := by intro i x y hx hy; rw [hx] at hy; injection hy with hy; subst hy; exact x.le_refl
theorem refused_up (t : Tb) (n : Int) (k : Nat) : t.Up (refusedT t n k) := by
  unfold refusedT; cases ht : t n with
  | none => exact same_up t
  | some x => exact putT_up ht (refused_le x k)
theorem heard_up (t : Tb) (n : Int) (k : Nat) : t.Up (heardT t n k) := by
  unfold heardT; cases ht : t n with
  | none => exact same_up t
  | some x => exact putT_up ht (heard_le x k)
theorem took_up (t : Tb) (n : Int) (k : Nat) : t.Up (tookT t n k) := by
  unfold tookT; cases ht : t n with
  | none => exact same_up t
  | some x =>
    simp only
    split
    · exact putT_up ht (took_le x k)
    · exact same_up t
theorem setR_up (t : Tb) (nodes : List Int) (k : Nat) : t.Up (setR t nodes k) := by
  unfold setR; split
  · exact setT_up t nodes k
  · exact same_up t
theorem stepT_up (t : Tb) (o : POpV) : t.Up (stepT o t) := by
  unfold stepT
  split
  · exact refused_up _ _ _
  split
  · exact heard_up _ _ _
  split
  · exact setR_up _ _ _
  split
  · exact calmT_up _
  · exact took_up _ _ _
theorem seenL_0 (t : Tb) : seenL t 0 = fun _ => Ln.z := by funext i; simp [seenL]
theorem seenB_0 (t : Tb) : seenB t 0 = fun _ => false := by funext i; simp [seenB]
theorem PgL.own {w w1 w2 : World} {g b B : Nat} {t : Tb} {F : Nat → Prop} (h : PgL w w1 g b t F) (tt : Touch (fun q => q = B) w1 w2) (hg : g ≠ B) (hF : ∀ k, F k → k ≠ B) (hB : w.heap.size ≤ B) : PgL w w2 g b t F :=
  ⟨h.at_.touch tt hg (fun k hk e => hF k hk e), h.new, h.g, h.t.trans tt (fun q hq e => by omega)⟩
section
variable {ops : Array Oper} {rest : List Oper} {o : Oper} {a : Act} {w : World} {Q : Exit → Act → World → Prop}
theorem Blk.sp {T t : TypeId} {n b k : Nat} {C cs : Array Value} (hb : Blk w b T C) (R : RowT t n) (hC : k + n ≤ C.size) (hn : cs.size = n) (h1 : cs.all (·.oneCell') = true) (x y : Operand) (ho : o.op = .store t x y) (hw : Region.wanted o (yielded ops a.tmps) = true) (hx : a.eval x = .pointer (some ⟨b, k, none⟩)) (hy : a.eval y = .agg cs)
    (h : ∀ w', Blk w' b T (setAll C k cs.toList) → Touch (fun q => q = b) w w' → wpList Try.prog ops Q rest (a.put o.dst undef) w') : wpList Try.prog ops Q (o :: rest) a w :=
  storeP R x y ho hw b k hx cs hy T C hb hC hn h1 fun w' h1 h2 _ => h w' h1 h2
end
/-- The law's own blocks: the call, what was, what was there. -/
structure RsB (w1 : World) (B : Nat) (P L H : Array Value) : Prop where
  o : Blk w1 B 31 P
  l : Blk w1 (B + 1) 44 L
  h : Blk w1 (B + 2) 32 H
theorem RsB.touch {w1 w2 : World} {B : Nat} {P L H : Array Value} {S : Nat → Prop} (h : RsB w1 B P L H) (tt : Touch S w1 w2) (h0 : ¬ S B) (h1 : ¬ S (B + 1)) (h2 : ¬ S (B + 2)) : RsB w2 B P L H := ⟨tt.blk h.o h0, tt.blk h.l h1, tt.blk h.h h2⟩
theorem RsB.none_ {w1 w2 : World} {B : Nat} {P L H : Array Value} (h : RsB w1 B P L H) (tt : Touch (fun _ => False) w1 w2) : RsB w2 B P L H := h.touch tt (fun e => e) (fun e => e) (fun e => e)
theorem walk_ProgressRises {w : World} (A0 : Option Addr) (n0 c0 : Nat) (l0 : List Int) (e0 : l0.length = n0) (o0 : ∀ x ∈ l0, -9223372036854775808 ≤ x ∧ x ≤ 9223372036854775807) (g0 : A0 = none → c0 = 0) (u0 : n0 ≤ c0) (m0 : c0 ≤ maxLen) (s0 : Rd w (fun k => k < w.heap.size) A0 n0 (l0.map I64))
    (a1 : Int) (k1 : 0 ≤ a1 ∧ a1 ≤ 18446744073709551615)
    (A2 : Option Addr) (n2 c2 : Nat) (l2 : List POpV) (e2 : l2.length = n2) (o2 : ∀ x ∈ l2, x.ok w) (z2 : ∀ a ∈ l2, a.cells.length = 4) (g2 : A2 = none → c2 = 0) (u2 : n2 ≤ c2) (m2 : c2 ≤ maxLen) (s2 : RdZ w (fun k => k < w.heap.size) 4 A2 n2 (l2.flatMap POpV.cells)) :
    Calls Try.prog 4 #[.slice A0 n0 c0, .int .u64 a1, .slice A2 n2 c2] w fun e w' => e = .returned (.bool true) ∧ Below w.heap.size w w' := by
  subst e0 e2
  obtain ⟨last, rfl⟩ := Int.eq_ofNat_of_zero_le k1.1
  unfold maxLen at m0 m2
  have HS0 := Lib.hid s0
  have HS2 := Lib.hid s2
  have HO2 := Lib.hid o2
  have HLi := Lib.hid (light31_any _ A2 c2 l2 w s2 (by omega))
  have hlast : last < 18446744073709551616 := by omega
  clear o0 o2 z2 g0 g2 s0 s2 u0 u2 k1
  by_cases hbig : 40 < (l0.length : Int)
  · clear HLi
    go_enter Try.func4, Try.ntmps4
    go_wp2_with (go_at_call 13; go_must (refine (lives31_any _).mono ?_); rintro e w1 ⟨rfl, t1⟩; have HT := Lib.hid t1; clear t1)
    go_ret
    exact ⟨rfl, HT.out.below⟩
  by_cases hi : last ≤ 1152921504606846976
  case neg =>
    have hi' : (1152921504606846976 : Int) < last := by omega
    clear HLi hi
    go_enter Try.func4, Try.ntmps4
    go_wp2_with (go_at_call 13; go_must (refine (lives31_any _).mono ?_); rintro e w1 ⟨rfl, t1⟩; have HT := Lib.hid t1; clear t1)
    go_ret
    exact ⟨rfl, HT.out.below⟩
  have hi' : ¬ (1152921504606846976 : Int) < last := by omega
  cases hl : lightB31 l2
  · rw [hl] at HLi
    clear hl hi
    go_enter Try.func4, Try.ntmps4
    go_wp2_with (first
      | (go_at_call 11; go_must (refine HLi.out.mono ?_); rintro e w1 ⟨rfl, t1⟩; have HT := Lib.hid t1; clear t1)
      | (go_at_call 13; go_must (refine (lives31_any _).mono ?_); rintro e w2 ⟨rfl, t2⟩; have HT := Lib.hid (HT.out.trans t2 (fun _ _ e => e)); clear t2))
    go_ret
    exact ⟨rfl, HT.out.below⟩
  rw [hl] at HLi
  have HLo := Lib.hid (show ∀ x ∈ l2, x.list.length ≤ 40 from fun x hx => by
    simp only [lightB31, Bool.and_eq_true, List.all_eq_true] at hl
    have := hl.1 x hx
    simpa [lightO31] using this)
  have hlen2 : l2.length ≤ 200 := by simp only [lightB31, Bool.and_eq_true, decide_eq_true_eq] at hl; exact hl.2
  clear hl
  have hl0 : l0.length ≤ 40 := by omega
  have HNew := Lib.hid (fun w1 (tt : Touch (fun _ => False) w w1) => pnewT_yes _ A0 c0 l0 last hi w1 (HS0.out.touch tt (fun _ _ e => e)) (by omega))
  obtain ⟨t0, ht0⟩ : ∃ t0, t0 = setT noneT l0 last := ⟨_, rfl⟩
  unfold NewTP at HNew
  rw [← ht0] at HNew
  have HOk0 := Lib.hid (show t0.Ok from ht0 ▸ setT_ok noneT_ok l0 hi)
  clear ht0 hi
  go_enter Try.func4, Try.ntmps4
  go_wp2_with (first
    | (go_at_call 11; go_must (refine HLi.out.mono ?_); rintro e w1 ⟨rfl, t1⟩; have HT := Lib.hid t1; clear t1)
    | (go_at_call 14; go_must (refine (HNew.out _ (by exact HT.out)).mono ?_)
       rintro e w2 ⟨g, b, F, rfl, hp, hF, hg, t2⟩
       have hz1 := HT.out.size
       have HP := Lib.hid (show PgL w w2 g b t0 F from ⟨hp, fun k hk => by have := hF k hk; omega, by omega, HT.out.trans t2 (fun _ _ e => e)⟩)
       clear hp hF hg t2 hz1))
  clear HT HNew HLi
  go_loopw [9, 10, 11, 12, 13, 14, 15, 36] (fun _ _ _ _ _ _ _ i wr => ∃ j : Nat, j ≤ l2.length ∧ i = .int .i64 j ∧ ∃ t F, PgL w wr g b t F ∧ t.Ok) (fun _ _ _ _ _ _ _ i _ => l2.length - (intOf i).toNat)
  case atStart => exact ⟨0, by omega, rfl, t0, F, HP.out, HOk0.out⟩
  case round =>
    clear HP HOk0
    obtain ⟨j, hj, rfl, t, F, hP, hOk⟩ := hrel
    have HP := Lib.hid hP
    have HOk := Lib.hid hOk
    clear hP hOk
    by_cases hjk : j < l2.length
    · have ha : l2[j]? = some (l2[j]'hjk) := List.getElem?_eq_getElem _
      have HI := Lib.hid (HO2.out _ (List.getElem_mem hjk))
      have hln := HLo.out _ (List.getElem_mem hjk)
      obtain ⟨a, off, rfl, -, -, hc⟩ := (HS2.out.touch HP.out.t (fun _ _ e => e)).at_ (fun a _ => pop_len a) rfl ha
      generalize l2[j]'hjk = o at *
      have q0 := hc 0 _ rfl; have q1 := hc 1 _ rfl; have q2 := hc 2 _ rfl; have q3 := hc 3 _ rfl
      simp only [Nat.add_zero, ← Nat.add_assoc] at q0 q1 q2 q3
      have hwr : w.heap.size ≤ wr.heap.size := HP.out.t.size
      clear hc ha
      go_wp2_with fail
      obtain ⟨B, hB⟩ : ∃ B, B = wr.heap.size := ⟨_, rfl⟩
      have HFl := Lib.hid (show ∀ k, F k → k < B from fun k hk => hB ▸ HP.out.at_.lt k hk)
      have hgB : g < B := hB ▸ HP.out.at_.gl
      obtain ⟨W, hW⟩ : ∃ W, W = (((wr.alloc (.cells #[.int .i64 o.kind, .int .i64 o.node, .int .u64 o.n, .slice o.A o.list.length o.c] 31)).alloc (.cells (sevL fun _ => Ln.z) 44)).alloc (.cells (sevB fun _ => false) 32)) := ⟨_, rfl⟩
      have hTW : Touch (fun _ => False) wr W := hW ▸ (((Touch.refl _ wr).alloc _).alloc _).alloc _
      have HRs := Lib.hid (show RsB W B #[.int .i64 o.kind, .int .i64 o.node, .int .u64 o.n, .slice o.A o.list.length o.c] (sevL (seenL t 0)) (sevB (seenB t 0)) from by
        rw [seenL_0, seenB_0]
        refine ⟨?_, ?_, ?_⟩
        · have h := ((Blk.new wr 31 #[.int .i64 o.kind, .int .i64 o.node, .int .u64 o.n, .slice o.A o.list.length o.c]).alloc (.cells (sevL fun _ => Ln.z) 44)).alloc (.cells (sevB fun _ => false) 32)
          rw [hW, hB]; exact h
        · have h := (Blk.new (wr.alloc (.cells #[.int .i64 o.kind, .int .i64 o.node, .int .u64 o.n, .slice o.A o.list.length o.c] 31)) 44 (sevL fun _ => Ln.z)).alloc (.cells (sevB fun _ => false) 32)
          rw [hW, hB]; simpa using h
        · have h := Blk.new ((wr.alloc (.cells #[.int .i64 o.kind, .int .i64 o.node, .int .u64 o.n, .slice o.A o.list.length o.c] 31)).alloc (.cells (sevL fun _ => Ln.z) 44)) 32 (sevB fun _ => false)
          rw [hW, hB]; simpa using h)
      have HPW := Lib.hid (HP.out.none_ hTW)
      rw [← hB]
      have HW := Lib.hid (show (((wr.alloc (.cells #[.int .i64 o.kind, .int .i64 o.node, .int .u64 o.n, .slice o.A o.list.length o.c] 31)).alloc (.cells (sevL fun _ => Ln.z) 44)).alloc (.cells (sevB fun _ => false) 32)) = W from hW.symm)
      have hwB : w.heap.size ≤ B := by omega
      have HLn := Lib.hid (fun w1 (h : PgL w w1 g b t F) (n : Nat) (hn : n < 7) => pLine_any g b t F (n : Int) w1 h.at_ (by unfold inI; omega))
      clear hTW hW hB q0 q1 q2 q3
      go_loopw [12, 40] (fun _ i wx => ∃ k : Nat, k ≤ 7 ∧ i = .int .i64 k ∧ PgL w wx g b t F ∧ RsB wx B #[.int .i64 o.kind, .int .i64 o.node, .int .u64 o.n, .slice o.A o.list.length o.c] (sevL (seenL t k)) (sevB (seenB t k))) (fun _ i _ => 7 - (intOf i).toNat)
      case atStart => exact ⟨0, by omega, rfl, HW.out ▸ HPW.out, HW.out ▸ HRs.out⟩
      case round =>
        clear HPW HRs HW
        obtain ⟨k, hk, rfl, hP, hR⟩ := hrel
        have HP := Lib.hid hP
        have HR := Lib.hid hR
        clear hP hR
        by_cases hk7 : k < 7
        · have HLi := Lib.hid (HLn.out wr HP.out k hk7)
          have hS1 := sevL_put (seenL t k) hk7 (lineV t k)
          have hS2 := sevB_put (seenB t k) hk7 (t k).isSome
          rw [seenL_step] at hS1
          rw [seenB_step] at hS2
          have HS2 := Lib.hid hS2
          have HLa := Lib.hid (show (lnC (lineV t k)).all (·.oneCell') = true from lnC_one _)
          have HB2 := Lib.hid (show (sevB (seenB t k)).size = 7 from rfl)
          have HB1 := Lib.hid (show (sevL (seenL t k)).size = 28 from rfl)
          obtain ⟨L, hL⟩ : ∃ L, L = lnC (lineV t k) := ⟨_, rfl⟩
          rw [← hL] at HLi HLa hS1
          have HLs := Lib.hid (show L.size = 4 by rw [hL]; rfl)
          have HS1 := Lib.hid hS1
          have ch := HR.out.h.cell k
          rw [sevB_at _ hk7] at ch
          have fh := HR.out.h.frozen k
          clear hL hS1 hS2
          go_wp2_with (first
            | (go_at_call 18; go_must (refine HLi.out.mono ?_); rintro e w3 ⟨rfl, t3⟩
               have HP3 := Lib.hid (HP.out.none_ t3)
               have HR3 := Lib.hid (HR.out.none_ t3)
               clear t3)
            | ((with_reducible apply HR3.out.l.sp (k := k * 4) rowPl (by rw [HB1.out]; omega) HLs.out HLa.out); exact rfl; exact rfl; exact rfl; exact rfl; intro w4 hb4 t4
               rw [HS1.out] at hb4
               have HR4 := Lib.hid (show RsB w4 B _ (sevL (seenL t (k + 1))) (sevB (seenB t k)) from ⟨t4.blk HR3.out.o (by omega), hb4, t4.blk HR3.out.h (by omega)⟩)
               have HP4 := Lib.hid (HP3.out.own t4 (by omega) (fun q hq e => by have := HFl.out q hq; omega) (by omega))
               have ch4 := HR4.out.h.cell k
               rw [sevB_at _ hk7] at ch4
               have fh4 := HR4.out.h.frozen k
               clear hb4 t4))
          go_roundw
          case rel =>
            have tt := (Touch.refl (fun q => q = B + 2) w4).set (b := B + 2) (o := k) (fun _ => rfl) (.bool (t k).isSome)
            exact ⟨k + 1, by omega, by go_num, HP4.out.own tt (by omega) (fun q hq e => by have := HFl.out q hq; omega) (by omega), ⟨tt.blk HR4.out.o (by omega), tt.blk HR4.out.l (by omega), HS2.out ▸ HR4.out.h.set_ k _⟩⟩
          case measure => simp [intOf]; omega
        · obtain rfl : k = 7 := by omega
          have HDo := Lib.hid (do31_any g b t noneT noneT_ok F (fun k => k < w.heap.size) o wr HP.out.at_ HI.out.1 HI.out.2.1 (HI.out.2.2.2.touch HP.out.t (fun _ _ e => e)) (by omega) (fun k hk e => by have := HP.out.new k e; omega))
          have HOk2 := Lib.hid (stepT_ok HOk.out o HI.out.2.1)
          have HUp := Lib.hid (stepT_up t o)
          rw [refT_none] at HDo
          unfold DoP at HDo
          generalize stepT o t = t2 at *
          obtain ⟨q0, q1, q2, q3⟩ := HR.out.o.c4
          go_wp2_with (go_at_call 15; go_must (refine HDo.out.mono ?_); rintro e w3 ⟨rfl, F2, hp2, hF2, t2'⟩; have HP3 := Lib.hid (HP.out.step hp2 hF2 t2'); have HR3 := Lib.hid (HR.out.touch t2' (fun e => by have := HFl.out _ e; omega) (fun e => by have := HFl.out _ e; omega) (fun e => by have := HFl.out _ e; omega)); clear hp2 hF2 t2')
          have HLn2 := Lib.hid (fun w1 (h : PgL w w1 g b t2 F2) (n : Nat) (hn : n < 7) => pLine_any g b t2 F2 (n : Int) w1 h.at_ (by unfold inI; omega))
          clear HLn HDo HP HR q0 q1 q2 q3
          go_loopw [13, 14, 15, 58] (fun _ _ _ i wx => ∃ k : Nat, k ≤ 7 ∧ i = .int .i64 k ∧ PgL w wx g b t2 F2 ∧ RsB wx B #[.int .i64 o.kind, .int .i64 o.node, .int .u64 o.n, .slice o.A o.list.length o.c] (sevL (seenL t 7)) (sevB (seenB t 7))) (fun _ _ _ i _ => 7 - (intOf i).toNat)
          case atStart => exact ⟨0, by omega, rfl, HP3.out, HR3.out⟩
          case round =>
            clear HP3 HR3
            obtain ⟨k, hk, rfl, hP, hR⟩ := hrel
            have HP := Lib.hid hP
            have HR := Lib.hid hR
            clear hP hR
            by_cases hk7 : k < 7
            · have HLi := Lib.hid (HLn2.out wr HP.out k hk7)
              have hb1 : seenB t 7 k = (t k).isSome := by unfold seenB; rw [if_pos hk7]
              have hl1 : seenL t 7 k = lineV t k := by unfold seenL; rw [if_pos hk7]
              have ch := HR.out.h.cell k
              rw [sevB_at _ hk7, hb1] at ch
              have cm := HR.out.l.cell (k * 4)
              have cr := HR.out.l.cell (k * 4 + 2)
              rw [(sevL_at _ hk7).1, hl1] at cm
              rw [(sevL_at _ hk7).2, hl1] at cr
              have hrl := HR.out.h.lt
              have HUk := Lib.hid (HUp.out (k : Int))
              have HOk3 := Lib.hid (HOk2.out (k : Int))
              have hkl : (k : Int) < 7 := by omega
              cases h2 : t2 (k : Int) with
              | none =>
                rw [h2] at HLi
                obtain ⟨L, hL⟩ : ∃ L, L = lineV t2 k := ⟨_, rfl⟩
                rw [← hL] at HLi
                obtain ⟨y0, y1, y2, y3⟩ := L
                simp only [lnC, Option.isSome_none] at HLi
                clear h2 hL hb1 hl1
                go_wp2_with (go_at_call 18; go_must (refine HLi.out.mono ?_); rintro e w3 ⟨rfl, t3⟩; have tA := t3.alloc (.cells #[.int .u64 (y0 : Int), .int .u64 (y1 : Int), .int .u64 (y2 : Int), .bool y3] 43); have HP4 := Lib.hid (HP.out.none_ tA); have HR4 := Lib.hid (HR.out.none_ tA); have ch4 := (tA.cell (p := ⟨B + 2, k, none⟩) hrl (fun e => e)).trans ch; have ch5 : (w3.alloc (.cells #[.int .u64 (y0 : Int), .int .u64 (y1 : Int), .int .u64 (y2 : Int), .bool y3] 43)).cell? ⟨B + 1 + 1, k, none⟩ = _ := ch4; have cm4 := (tA.cell (p := ⟨B + 1, k * 4, none⟩) (by show B + 1 < _; omega) (fun e => e)).trans cm; have cr4 := (tA.cell (p := ⟨B + 1, k * 4 + 2, none⟩) (by show B + 1 < _; omega) (fun e => e)).trans cr; clear t3 tA)
                go_quiet (fail)
                go_wp2_with fail
                go_roundw
                case rel => exact ⟨k + 1, by omega, by go_num, HP4.out.none_ ((Touch.refl _ _).drewN _), HR4.out.none_ ((Touch.refl _ _).drewN _)⟩
                case measure => simp [intOf]; omega
              | some y =>
                have hL : lineV t2 k = y := by rw [lineV, h2]; rfl
                rw [h2, hL] at HLi
                have hup := (HOk3.out y h2).2.2.up
                have HUy := Lib.hid (fun x hx => HUk.out x y hx h2)
                obtain ⟨y0, y1, y2, y3⟩ := y
                simp only [lnC, Option.isSome_some] at HLi
                simp only at hup
                have hup' : ¬ (y1 : Int) ≤ (y0 : Int) := by omega
                have hupd : decide ((y1 : Int) ≤ (y0 : Int)) = false := decide_eq_false hup'
                have hupn : decide (y1 ≤ y0) = false := decide_eq_false (by omega)
                clear h2 hL hb1 hl1 hup
                cases h1 : t (k : Int) with
                | none =>
                  rw [h1] at ch
                  simp only [Option.isSome_none] at ch
                  clear h1
                  go_wp2_with (go_at_call 18; go_must (refine HLi.out.mono ?_); rintro e w3 ⟨rfl, t3⟩; have tA := t3.alloc (.cells #[.int .u64 (y0 : Int), .int .u64 (y1 : Int), .int .u64 (y2 : Int), .bool y3] 43); have HP4 := Lib.hid (HP.out.none_ tA); have HR4 := Lib.hid (HR.out.none_ tA); have ch4 := (tA.cell (p := ⟨B + 2, k, none⟩) hrl (fun e => e)).trans ch; have ch5 : (w3.alloc (.cells #[.int .u64 (y0 : Int), .int .u64 (y1 : Int), .int .u64 (y2 : Int), .bool y3] 43)).cell? ⟨B + 1 + 1, k, none⟩ = _ := ch4; have cm4 := (tA.cell (p := ⟨B + 1, k * 4, none⟩) (by show B + 1 < _; omega) (fun e => e)).trans cm; have cr4 := (tA.cell (p := ⟨B + 1, k * 4 + 2, none⟩) (by show B + 1 < _; omega) (fun e => e)).trans cr; clear t3 tA)
                  go_quiet (fail)
                  go_wp2_with fail
                  go_roundw
                  case rel => exact ⟨k + 1, by omega, by go_num, HP4.out.none_ ((Touch.refl _ _).drewN _), HR4.out.none_ ((Touch.refl _ _).drewN _)⟩
                  case measure => simp [intOf]; omega
                | some x =>
                  have hLx : lineV t k = x := by rw [lineV, h1]; rfl
                  rw [h1] at ch
                  rw [hLx] at cm cr
                  simp only [Option.isSome_some] at ch
                  obtain ⟨hm, hr⟩ := HUy.out x h1
                  obtain ⟨x0, x1, x2, x3⟩ := x
                  simp only at cm cr hm hr
                  have hm' : ¬ (y0 : Int) < (x0 : Int) := by omega
                  have hr' : ¬ (y2 : Int) < (x2 : Int) := by omega
                  have hmd : decide ((y0 : Int) < (x0 : Int)) = false := decide_eq_false hm'
                  have hrd : decide ((y2 : Int) < (x2 : Int)) = false := decide_eq_false hr'
                  have hmn : decide (y0 < x0) = false := decide_eq_false (by omega)
                  have hrn : decide (y2 < x2) = false := decide_eq_false (by omega)
                  clear h1 hLx hm hr
                  go_wp2_with (go_at_call 18; go_must (refine HLi.out.mono ?_); rintro e w3 ⟨rfl, t3⟩; have tA := t3.alloc (.cells #[.int .u64 (y0 : Int), .int .u64 (y1 : Int), .int .u64 (y2 : Int), .bool y3] 43); have HP4 := Lib.hid (HP.out.none_ tA); have HR4 := Lib.hid (HR.out.none_ tA); have ch4 := (tA.cell (p := ⟨B + 2, k, none⟩) hrl (fun e => e)).trans ch; have ch5 : (w3.alloc (.cells #[.int .u64 (y0 : Int), .int .u64 (y1 : Int), .int .u64 (y2 : Int), .bool y3] 43)).cell? ⟨B + 1 + 1, k, none⟩ = _ := ch4; have cm4 := (tA.cell (p := ⟨B + 1, k * 4, none⟩) (by show B + 1 < _; omega) (fun e => e)).trans cm; have cr4 := (tA.cell (p := ⟨B + 1, k * 4 + 2, none⟩) (by show B + 1 < _; omega) (fun e => e)).trans cr; clear t3 tA)
                  go_quiet (fail)
                  go_wp2_with fail
                  go_roundw
                  case rel => exact ⟨k + 1, by omega, by go_num, HP4.out.none_ ((Touch.refl _ _).drewN _), HR4.out.none_ ((Touch.refl _ _).drewN _)⟩
                  case measure => simp [intOf]; omega
            · obtain rfl : k = 7 := by omega
              go_wp2_with fail
              go_roundw
              case rel => exact ⟨j + 1, by omega, by go_num, t2, F2, HP.out, HOk2.out⟩
              case measure => simp [intOf]; omega
    · obtain rfl : j = l2.length := by omega
      go_wp2_with (go_at_call 13; go_must (refine (lives31_any _).mono ?_); rintro e w6 ⟨rfl, t6⟩; have HT6 := Lib.hid (HP.out.t.trans t6 (fun _ _ e => e)); clear t6)
      go_ret
      exact ⟨rfl, HT6.out.below⟩
end Go.Proofs.Ytpgakkpmpnebnaa
