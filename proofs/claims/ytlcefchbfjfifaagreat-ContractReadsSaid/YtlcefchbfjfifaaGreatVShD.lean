/- A shelf in memory; New, none. contract.copied; stores on a shelf. -/
import Derived.Test.YtlcefchbfjfifaaGreatVShB
import Derived.Test.YtlcefchbfjfifaaGreatVGMap
import Derived.Test.YtlcefchbfjfifaaGreatVCtE
section
namespace Go.Proofs.YtlcefchbfjfifaaGreat
open Go.RowKit Cal Go.Maps
set_option maxHeartbeats 4000000
set_option maxRecDepth 100000
set_option linter.unusedVariables false
attribute [local irreducible] wpPlan

theorem lawN : Keyed Tryz.prog 3 := int_keyed Tryz.underlying3
def inN (k : Int) : Prop := -9223372036854775808 ≤ k ∧ k ≤ 9223372036854775807
theorem keyN {k : Int} (h : inN k) : keyOf Tryz.prog 3 (.int .i64 k) = some (.int .i64 k) := keyOf_int_mk Tryz.underlying3 (WalkArith.wf_i64 h)
theorem keysN {kl : Lit} (h : KeysOf Tryz.prog 3 kl) : ∃ k : Int, inN k ∧ kl = .int .i64 k := by
  obtain ⟨v, hv⟩ := h
  obtain ⟨x, _, rfl, hw⟩ := Maps.keyOf_int_inv Tryz.underlying3 hv
  simp [Lit.wf, IntKind.min, IntKind.max, IntKind.signed, IntKind.bits] at hw
  exact ⟨x, hw, rfl⟩
def layA (c : Ca) (A B : Option Addr) (k m x : Nat) : Array Value := #[.int .i64 c.off, .slice A c.wk.length k, .slice B c.cl.length m, .pointer (some ⟨x, 0, none⟩)]
def layZ : Value := .agg #[.int .i64 0, .slice none 0 0, .slice none 0 0, .pointer none]
theorem zeroLay (w : World) : (zeroValue 113).run Tryz.prog w = .ok layZ w := by kernel_rfl
theorem zeroCon (w : World) : (zeroValue 24).run Tryz.prog w = .ok (.agg (conA conZ none 0)) w := by kernel_rfl
/-- What is laid down and signed. -/
structure Shl where
  cal : Int → Option Ca
  con : Int → Option Co
def Shl.nil : Shl := ⟨fun _ => none, fun _ => none⟩
def Shl.lay (S : Shl) (n : Int) (c : Ca) : Shl := { S with cal := fun i => if i = n then some c else S.cal i }
def Shl.sig (S : Shl) (n : Int) (c : Co) : Shl := { S with con := fun i => if i = n then some c else S.con i }
structure Shl.Ok (S : Shl) : Prop where
  cal : ∀ i c, S.cal i = some c → (0 ≤ i ∧ i < 8) ∧ checkE c = 0
  con : ∀ i c, S.con i = some c → (0 ≤ i ∧ i < 16) ∧ goodB c = true ∧ (S.cal c.cal).isSome = true
def key8 : List Lit := (List.range 8).map fun c => Lit.int .i64 (c : Nat)
def key16 : List Lit := (List.range 16).map fun c => Lit.int .i64 (c : Nat)
theorem mem_key8 {i : Int} (h : 0 ≤ i ∧ i < 8) : Lit.int .i64 i ∈ key8 := by
  simp only [key8, List.mem_map, List.mem_range]; exact ⟨i.toNat, by omega, by rw [Int.toNat_of_nonneg h.1]⟩
theorem mem_key16 {i : Int} (h : 0 ≤ i ∧ i < 16) : Lit.int .i64 i ∈ key16 := by
  simp only [key16, List.mem_map, List.mem_range]; exact ⟨i.toNat, by omega, by rw [Int.toNat_of_nonneg h.1]⟩
/-- The calendars' map says so; the lazy clock of n lies at x n. -/
def CalM (w : World) (b : Nat) (S : Shl) (x : Int → Nat) (R Y : Nat → Prop) : Prop :=
  ∃ f, MapV Tryz.prog 3 w b 8 f ∧ ∀ i, inN i → (S.cal i = none → f (.int .i64 i) = none) ∧ (∀ c, S.cal i = some c → ∃ A B k m, f (.int .i64 i) = some (.agg (layA c A B k m (x i))) ∧ CaR w R c A B ∧ LkAt w (x i) c R Y)
def ConM (w : World) (b : Nat) (S : Shl) (R : Nat → Prop) : Prop :=
  ∃ f, MapV Tryz.prog 3 w b 16 f ∧ ∀ i, inN i → (S.con i = none → f (.int .i64 i) = none) ∧ (∀ c, S.con i = some c → ∃ A n, f (.int .i64 i) = some (.agg (conA c A n)) ∧ SpR w R A c.lv.length c.lv)
/-- A shelf: its block g, its maps b1, b2; rows and boxes in R, the lazy clocks in X, their clocks' own lazy sums in Y. -/
structure ShAt (w : World) (g b1 b2 : Nat) (S : Shl) (x : Int → Nat) (R X Y : Nat → Prop) : Prop where
  blk : Blk w g 76 #[.map (some b1), .map (some b2)]
  m1 : CalM w b1 S x R Y
  m2 : ConM w b2 S R
  ok : S.Ok
  xX : ∀ i c, S.cal i = some c → X (x i)
  inj : ∀ i j c d, S.cal i = some c → S.cal j = some d → x i = x j → i = j
  lt : ∀ q, R q ∨ X q ∨ Y q → q < w.heap.size
  dXR : ∀ q, X q → ¬ R q
  dYR : ∀ q, Y q → ¬ R q
  dXY : ∀ q, X q → ¬ Y q
  og : ¬ (R g ∨ X g ∨ Y g)
  o1 : ¬ (R b1 ∨ X b1 ∨ Y b1)
  o2 : ¬ (R b2 ∨ X b2 ∨ Y b2)
  ne : g ≠ b1 ∧ g ≠ b2 ∧ b1 ≠ b2
section
variable {w w' : World} {g b1 b2 : Nat} {S : Shl} {x : Int → Nat} {R X Y T : Nat → Prop}
theorem CalM.lt (h : CalM w b1 S x R Y) : b1 < w.heap.size := by obtain ⟨f, hm, -⟩ := h; exact hm.lt
theorem ConM.lt (h : ConM w b2 S R) : b2 < w.heap.size := by obtain ⟨f, hm, -⟩ := h; exact hm.lt
theorem CalM.touch (h : CalM w b1 S x R Y) (t : Touch T w w') (hb : ¬ T b1) (hR : ∀ q, R q → ¬ T q) (hY : ∀ q, Y q → ¬ T q) (hx : ∀ i c, S.cal i = some c → ¬ T (x i)) : CalM w' b1 S x R Y := by
  obtain ⟨f, hm, hs⟩ := h
  refine ⟨f, hm.touch t hb, fun i hi => ⟨(hs i hi).1, fun c hc => ?_⟩⟩
  obtain ⟨A, B, k, m, h1, h2, h3⟩ := (hs i hi).2 c hc
  exact ⟨A, B, k, m, h1, h2.touch t hR, h3.touch t (hx i c hc) hR hY⟩
theorem ConM.touch (h : ConM w b2 S R) (t : Touch T w w') (hb : ¬ T b2) (hR : ∀ q, R q → ¬ T q) : ConM w' b2 S R := by
  obtain ⟨f, hm, hs⟩ := h
  refine ⟨f, hm.touch t hb, fun i hi => ⟨(hs i hi).1, fun c hc => ?_⟩⟩
  obtain ⟨A, n, h1, h2⟩ := (hs i hi).2 c hc
  exact ⟨A, n, h1, h2.touch t hR⟩
theorem ShAt.touch (h : ShAt w g b1 b2 S x R X Y) (t : Touch T w w') (hg : ¬ T g) (h1 : ¬ T b1) (h2 : ¬ T b2) (hT : ∀ q, R q ∨ X q ∨ Y q → ¬ T q) : ShAt w' g b1 b2 S x R X Y :=
  ⟨t.blk h.blk hg, h.m1.touch t h1 (fun q hq => hT q (.inl hq)) (fun q hq => hT q (.inr (.inr hq))) (fun i c hc => hT _ (.inr (.inl (h.xX i c hc)))), h.m2.touch t h2 (fun q hq => hT q (.inl hq)), h.ok, h.xX, h.inj, fun q hq => Nat.lt_of_lt_of_le (h.lt q hq) t.size, h.dXR, h.dYR, h.dXY, h.og, h.o1, h.o2, h.ne⟩
theorem ShAt.far (h : ShAt w g b1 b2 S x R X Y) (t : Touch (fun _ => False) w w') : ShAt w' g b1 b2 S x R X Y := h.touch t (fun e => e) (fun e => e) (fun e => e) (fun _ _ e => e)
theorem ShAt.gl (h : ShAt w g b1 b2 S x R X Y) : g < w.heap.size := h.blk.lt
theorem CalM.look (h : CalM w b1 S x R Y) {n : Int} (hn : inN n) (hc : S.cal n = none) :
    (Instr.lookup 73 (.map (some b1)) (.int .i64 n) true).run Tryz.prog w = .ok (.tuple #[layZ, .bool false]) w ∧ (Instr.lookup 73 (.map (some b1)) (.int .i64 n) false).run Tryz.prog w = .ok layZ w := by
  obtain ⟨f, hm, hs⟩ := h
  have hf := (hs n hn).1 hc
  have h1 := hm.lookOk lawN Tryz.underlying73 (zeroLay w) (keyN hn)
  have h2 := hm.look lawN Tryz.underlying73 (zeroLay w) (keyN hn)
  rw [hf] at h1 h2
  exact ⟨h1, h2⟩
theorem CalM.look1 (h : CalM w b1 S x R Y) {n : Int} (hn : inN n) {c : Ca} (hc : S.cal n = some c) :
    ∃ A B k m, CaR w R c A B ∧ LkAt w (x n) c R Y ∧ (Instr.lookup 73 (.map (some b1)) (.int .i64 n) true).run Tryz.prog w = .ok (.tuple #[.agg (layA c A B k m (x n)), .bool true]) w ∧ (Instr.lookup 73 (.map (some b1)) (.int .i64 n) false).run Tryz.prog w = .ok (.agg (layA c A B k m (x n))) w := by
  obtain ⟨f, hm, hs⟩ := h
  obtain ⟨A, B, k, m, hf, hr, hl⟩ := (hs n hn).2 c hc
  have h1 := hm.lookOk lawN Tryz.underlying73 (zeroLay w) (keyN hn)
  have h2 := hm.look lawN Tryz.underlying73 (zeroLay w) (keyN hn)
  rw [hf] at h1 h2
  exact ⟨A, B, k, m, hr, hl, h1, h2⟩
theorem ConM.look (h : ConM w b2 S R) {n : Int} (hn : inN n) (hc : S.con n = none) :
    (Instr.lookup 74 (.map (some b2)) (.int .i64 n) true).run Tryz.prog w = .ok (.tuple #[.agg (conA conZ none 0), .bool false]) w := by
  obtain ⟨f, hm, hs⟩ := h
  have hf := (hs n hn).1 hc
  have h1 := hm.lookOk lawN Tryz.underlying74 (zeroCon w) (keyN hn)
  rw [hf] at h1
  exact h1
theorem ConM.look1 (h : ConM w b2 S R) {n : Int} (hn : inN n) {c : Co} (hc : S.con n = some c) :
    ∃ A k, SpR w R A c.lv.length c.lv ∧ (Instr.lookup 74 (.map (some b2)) (.int .i64 n) true).run Tryz.prog w = .ok (.tuple #[.agg (conA c A k), .bool true]) w := by
  obtain ⟨f, hm, hs⟩ := h
  obtain ⟨A, k, hf, hr⟩ := (hs n hn).2 c hc
  have h1 := hm.lookOk lawN Tryz.underlying74 (zeroCon w) (keyN hn)
  rw [hf] at h1
  exact ⟨A, k, hr, h1⟩
end
theorem hnone_any {w : World} {g b1 b2 : Nat} {S : Shl} {x : Int → Nat} {R X Y : Nat → Prop} (h : ShAt w g b1 b2 S x R X Y) :
    Calls Tryz.prog 52 #[.pointer (some ⟨g, 0, none⟩)] w fun e w' => e = .returned (.bool false) ∧ w = w' := by
  have q0 := h.blk.cell 0
  simp at q0
  clear h
  have hbin : ∀ w, (binOp .eql 73 (.map (some b1)) (.map none)).run Tryz.prog w = .ok (.bool false) w := fun w => by first | rfl | simp [go_sem]
  go_enter Tryz.func52, Tryz.ntmps52
  go_wp2
  go_ret
  exact ⟨rfl, rfl⟩
theorem Shl.nil_ok : Shl.nil.Ok := ⟨(fun _ _ h => by cases h), (fun _ _ h => by cases h)⟩
def NewS (w : World) (e : Ending) (w' : World) : Prop := ∃ g b1 b2, e = .returned (.pointer (some ⟨g, 0, none⟩)) ∧ ShAt w' g b1 b2 Shl.nil (fun _ => 0) (fun _ => False) (fun _ => False) (fun _ => False) ∧ w.heap.size ≤ g ∧ w.heap.size ≤ b1 ∧ w.heap.size ≤ b2 ∧ Touch (fun _ => False) w w'
theorem hnew_any (w : World) : Calls Tryz.prog 23 #[] w (NewS w) := by
  have t1 := (Touch.refl (fun _ => False) w).alloc (.map #[] 0)
  have t2 := t1.alloc (.map #[] 0)
  have M1 := (MapV.new Tryz.prog 3 w).touch ((Touch.refl (fun _ => False) _).alloc (.map #[] 0)) (fun e => e)
  have M2 := MapV.new Tryz.prog 3 (w.alloc (.map #[] 0))
  have hB := Blk.new ((w.alloc (.map #[] 0)).alloc (.map #[] 0)) 76 #[.map (some w.heap.size), .map (some (w.heap.size + 1))]
  have t3 := (Touch.refl (fun _ => False) ((w.alloc (.map #[] 0)).alloc (.map #[] 0))).alloc (.cells #[.map (some w.heap.size), .map (some (w.heap.size + 1))] 76)
  have HS := Lib.hid (show ShAt (((w.alloc (.map #[] 0)).alloc (.map #[] 0)).alloc (.cells #[.map (some w.heap.size), .map (some (w.heap.size + 1))] 76)) (w.heap.size + 2) w.heap.size (w.heap.size + 1) Shl.nil (fun _ => 0) (fun _ => False) (fun _ => False) (fun _ => False) from by
    refine ⟨by simpa using hB, ⟨_, (M1.touch t3 (fun e => e)).mono (by omega), fun i hi => ⟨fun _ => rfl, (fun c e => by cases e)⟩⟩, ⟨_, ((by simpa using M2 : MapV Tryz.prog 3 _ (w.heap.size + 1) 0 _).touch t3 (fun e => e)).mono (by omega), fun i hi => ⟨fun _ => rfl, (fun c e => by cases e)⟩⟩, Shl.nil_ok, (fun _ _ e => by cases e), (fun _ _ _ _ e => by cases e), (fun q e => by rcases e with e | e | e <;> exact e.elim), (fun _ e => e.elim), (fun _ e => e.elim), (fun _ e => e.elim), (fun e => by rcases e with e | e | e <;> exact e), (fun e => by rcases e with e | e | e <;> exact e), (fun e => by rcases e with e | e | e <;> exact e), by omega, by omega, by omega⟩)
  have HT := Lib.hid (t2.trans t3 (fun _ _ e => e))
  clear t1 t2 M1 M2 hB t3
  have hmm := @run_makeMap Tryz.prog
  go_enter Tryz.func23, Tryz.ntmps23
  go_wp2
  go_ret
  refine ⟨w.heap.size + 2, w.heap.size, w.heap.size + 1, rfl, HS.out, ?_, ?_, ?_, HT.out⟩
  all_goals omega
end Go.Proofs.YtlcefchbfjfifaaGreat
end

section
namespace Go.Proofs.YtlcefchbfjfifaaGreat
open Go.RowKit Cal Go.Maps
set_option maxHeartbeats 4000000
set_option maxRecDepth 100000
set_option linter.unusedVariables false
attribute [local irreducible] wpPlan

/-- A calendar copied. -/
def CopC (c : Ca) (w : World) (e : Ending) (w' : World) : Prop :=
  ∃ A B k m, e = .returned (.agg (caA c A B k m)) ∧ CaR w' (fun q => w.heap.size ≤ q ∧ q < w'.heap.size) c A B ∧ Touch (fun _ => False) w w'
theorem ccopied_any (F : Nat → Prop) (A B : Option Addr) (k m : Nat) (c : Ca) (w : World) (hr : CaR w F c A B) (h1 : c.wk.length ≤ 1000000) (h2 : c.cl.length ≤ 1000000) : Calls Tryz.prog 54 #[.agg (caA c A B k m)] w (CopC c w) := by
  have HC := Lib.hid (fun w1 (t : Touch (fun _ => False) w w1) => sclone_any F A k c.wk w1 (hr.wk.touch t (fun _ _ e => e)) h1)
  have HD := Lib.hid (fun w1 (t : Touch (fun _ => False) w w1) => sclone_any F B m c.cl w1 (hr.cl.touch t (fun _ _ e => e)) h2)
  unfold NewSpan at HC HD
  obtain ⟨W0, hW0⟩ : ∃ W0, W0 = (w.alloc (.cells (caA c A B k m) 51)).alloc (.cells #[.int .i64 0, .slice none 0 0, .slice none 0 0] 51) := ⟨_, rfl⟩
  obtain ⟨W2, hW2⟩ : ∃ W2, W2 = W0.drew := ⟨_, rfl⟩
  have HT := Lib.hid (show Touch (fun _ => False) w W2 from hW2 ▸ hW0 ▸ (((Touch.refl _ w).alloc _).alloc _).drew)
  have HB := Lib.hid (show Blk W2 w.heap.size 51 (caA c A B k m) from hW2 ▸ hW0 ▸ (Touch.refl (fun _ => False) _).drew.blk ((Blk.new w _ _).alloc _) (fun e => e))
  have HZ := Lib.hid (show Blk W2 (w.heap.size + 1) 51 #[.int .i64 0, .slice none 0 0, .slice none 0 0] from hW2 ▸ hW0 ▸ (Touch.refl (fun _ => False) _).drew.blk (by simpa using Blk.new (w.alloc (.cells (caA c A B k m) 51)) 51 #[.int .i64 0, .slice none 0 0, .slice none 0 0]) (fun e => e))
  have HW0 := Lib.hid hW0
  have hz0 : w.heap.size + 2 ≤ W2.heap.size := by have := HZ.out.lt; omega
  have HK := Lib.hid (show (caA c A B k m)[1]? = some (.slice A c.wk.length k) ∧ (caA c A B k m)[2]? = some (.slice B c.cl.length m) from ⟨rfl, rfl⟩)
  have HE := Lib.hid (fun A1 k1 B1 m1 => (show ((caA c A B k m).setIfInBounds 1 (.slice A1 c.wk.length k1)).setIfInBounds 2 (.slice B1 c.cl.length m1) = caA c A1 B1 k1 m1 by simp [caA]))
  have HZn := Lib.hid (show (#[.int .i64 0, .slice none 0 0, .slice none 0 0] : Array Value).size = 3 from rfl)
  have HCn := Lib.hid (fun A1 B1 k1 m1 => (show (caA c A1 B1 k1 m1).size = 3 from rfl))
  have HC1 := Lib.hid (fun A1 B1 k1 m1 => caA_one c A1 B1 k1 m1)
  unfold CopC
  have q1 := HB.out.cell 1
  rw [HK.out.1] at q1
  obtain ⟨CA, hCA⟩ : ∃ CA : Option Addr → Option Addr → Nat → Nat → Array Value, CA = caA c := ⟨_, rfl⟩
  rw [← hCA] at HB HW0 HK HE HCn HC1 ⊢
  generalize CA A B k m = C0 at *
  generalize hl1 : c.wk.length = l1 at *
  generalize hl2 : c.cl.length = l2 at *
  have HL := Lib.hid (And.intro hl1 hl2)
  clear hr hCA hl1 hl2 hW0
  go_enter Tryz.func54, Tryz.ntmps54
  go_wp2_with fail
  rw [← HW0.out]
  refine wp_region_plan [(0, 0), (0, 1), (1, 3), (1, 4), (2, 2), (1, 6), (2, 5), (3, 7), (0, 8), (3, 9)] (fun _ => False) (by kernel_rfl) (by kernel_rfl) (fun c a d v w h => by cases d <;> exact h) ?_
  rw [← hW2]
  clear hW2
  iterate 2
    refine plan_s1 rfl (by rfl) (fun Kc hKc => ?_)
    go_simp
    first
      | (refine hKc _ ?_)
    clear hKc Kc
  iterate 1
    apply plan_h
    · rfl
    · rfl
    · intro wh hT
      go_simp
      try rfl
    go_frame
  iterate 1
    apply plan_h
    · rfl
    · rfl
    · intro wh hT
      have hf0 := show wh.cell? ⟨w.heap.size, 2, none⟩ = some (.slice B l2 m) from ((hT.blk HB.out (fun e => e)).cell 2).trans HK.out.2
      go_simp
      try rfl
    go_frame
  clear q1
  refine plan_a1 rfl (by rfl) (fun Kc hKc => ?_)
  go_simp
  refine (HC.out _ (by exact HT.out)).mono ?_
  rintro e w3 ⟨A1, k1, rfl, -, -, -, hs3, t3⟩
  refine hKc _ _ ⟨t3, ?_⟩
  clear hKc Kc
  have HS3 := Lib.hid hs3
  have HT3 := Lib.hid (HT.out.trans t3 (fun _ _ e => e))
  have HT23 := Lib.hid t3
  clear hs3 t3
  iterate 1
    apply plan_h
    · rfl
    · rfl
    · intro wh hT
      go_simp
      try rfl
    go_frame
  refine plan_a1 rfl (by rfl) (fun Kc hKc => ?_)
  go_simp
  refine (HD.out _ (by exact HT3.out)).mono ?_
  rintro e w4 ⟨B1, m1, rfl, -, -, -, hs4, t4⟩
  refine hKc _ _ ⟨t4, ?_⟩
  clear hKc Kc
  have HS4 := Lib.hid hs4
  have HT4 := Lib.hid (HT3.out.trans t4 (fun _ _ e => e))
  have HT34 := Lib.hid t4
  have hb4 := (HT23.out.trans t4 (fun _ _ e => e)).blk HB.out (fun e => e)
  have x1 := hb4.cell 1
  have x2 := hb4.cell 2
  have f1 := hb4.frozen 1
  have f2 := hb4.frozen 2
  rw [HK.out.1] at x1
  rw [HK.out.2] at x2
  have hbs := (hb4.set_ 1 (.slice A1 l1 k1)).set_ 2 (.slice B1 l2 m1)
  rw [HE.out] at hbs
  have ts := ((Touch.refl (fun q => q = w.heap.size) w4).set (b := w.heap.size) (o := 1) (fun _ => rfl) (.slice A1 l1 k1)).set (b := w.heap.size) (o := 2) (fun _ => rfl) (.slice B1 l2 m1)
  have HBs := Lib.hid hbs
  have HTs := Lib.hid ts
  have HZs := Lib.hid (ts.blk ((HT23.out.trans t4 (fun _ _ e => e)).blk HZ.out (fun e => e)) (by omega))
  have HN1 := Lib.hid (HCn.out A1 B1 k1 m1)
  have H11 := Lib.hid (HC1.out A1 B1 k1 m1)
  clear hs4 t4 hb4 hbs ts
  refine plan_b1 rfl (by rfl) (fun Kc hKc => ?_)
  go_simp
  refine hKc _ _ ?_
  clear hKc Kc
  iterate 1
    refine plan_s1 rfl (by rfl) (fun Kc hKc => ?_)
    go_simp
    first
      | (refine hKc _ ?_)
    clear hKc Kc
  refine plan_b1 rfl (by rfl) (fun Kc hKc => ?_)
  go_simp
  refine hKc _ _ ?_
  clear hKc Kc
  refine plan_done ?_
  clear x1 x2 f1 f2
  go_wp2_with (first
    | ((with_reducible apply HBs.out.ld rowCa HN1.out); exact rfl; exact rfl; exact rfl)
    | ((with_reducible apply HZs.out.st rowCa HZn.out HN1.out H11.out); exact rfl; exact rfl; exact rfl; exact rfl
       intro w5 hb5 t5
       have HB5 := Lib.hid hb5
       have HT5 := Lib.hid t5
       clear hb5 t5))
  refine bodyPost_ret (results_cell1 2 rowCa HN1.out (HB5.out.whole) rfl rfl) rfl ?_
  have tt := (HTs.out.mono (S' := fun q => q = w.heap.size ∨ q = w.heap.size + 1) (fun _ _ e => .inl e)).trans HT5.out (fun _ _ e => .inr e)
  have z3 := HT23.out.size
  have z4 := HT34.out.size
  obtain ⟨hl1, hl2⟩ := HL.out
  refine ⟨A1, B1, k1, m1, rfl, ⟨?_, ?_⟩, HT4.out.trans tt (fun q hq e => by omega)⟩
  · rw [hl1]
    exact (((HS3.out.near.touch HT34.out (fun _ _ e => e)).touch tt (fun q hq e => by have := hq.1; omega))).mono (fun q hq => ⟨by have := hq.1; omega, by have := hq.2; have := tt.size; omega⟩)
  · rw [hl2]
    exact (HS4.out.near.touch tt (fun q hq e => by have := hq.1; omega)).mono (fun q hq => ⟨by have := hq.1; omega, by have := hq.2; have := tt.size; omega⟩)
theorem CalM.store {w : World} {b1 : Nat} {S : Shl} {x : Int → Nat} {R Y : Nat → Prop} (h : CalM w b1 S x R Y) (ok : S.Ok) {n : Int} (hn : 0 ≤ n ∧ n < 8) (c : Ca) (A B : Option Addr) (k m xn : Nat) (R' : Nat → Prop) (hR : ∀ q, R q → R' q) (hRb : ∀ q, R' q → q ≠ b1) (hYb : ∀ q, Y q → q ≠ b1) (hxb : ∀ i c, S.cal i = some c → x i ≠ b1) (hd : ∀ q, Y q → ¬ R' q) (hr : CaR w R' c A B) (hl : LkAt w xn c R' Y) (hxn : xn ≠ b1) :
    ∃ w', (Instr.mapUpdate 73 (.map (some b1)) (.int .i64 n) (.agg (layA c A B k m xn))).run Tryz.prog w = .ok () w' ∧ CalM w' b1 (S.lay n c) (fun i => if i = n then xn else x i) R' Y ∧ Touch (fun q => q = b1) w w' := by
  obtain ⟨f, hm, hs⟩ := h
  obtain ⟨w', hrun, hm', ht⟩ := hm.store lawN Tryz.underlying73 (by omega) (keyN (show inN n by unfold inN; omega)) (.agg (layA c A B k m xn))
  refine ⟨w', hrun, ⟨setV f (.int .i64 n) (.agg (layA c A B k m xn)), ?_, fun i hi => ?_⟩, ht⟩
  · refine hm'.tight lawN key8 (fun kl hk hsm => ?_)
    obtain ⟨i, hi, rfl⟩ := keysN hk
    by_cases e : i = n
    · subst e; exact mem_key8 hn
    · have e' : ¬ (Lit.int .i64 i) = Lit.int .i64 n := fun e' => e (by injection e')
      simp only [setV, if_neg e'] at hsm
      cases hc : S.cal i with
      | none => rw [(hs i hi).1 hc] at hsm; cases hsm
      | some d => exact mem_key8 (ok.cal i d hc).1
  · by_cases e : i = n
    · subst e
      simp only [Shl.lay, setV, if_true]
      exact ⟨(fun h => by cases h), fun c' h => by injection h with h; subst h; exact ⟨A, B, k, m, rfl, hr.touch ht hRb, hl.touch ht hxn hRb hYb⟩⟩
    · have e' : ¬ (Lit.int .i64 i) = Lit.int .i64 n := fun e' => e (by injection e')
      simp only [Shl.lay, setV, if_neg e, if_neg e']
      refine ⟨(hs i hi).1, fun c' hc => ?_⟩
      obtain ⟨A', B', k', m', h1, h2, h3⟩ := (hs i hi).2 c' hc
      exact ⟨A', B', k', m', h1, CaR.touch ⟨h2.wk.mono hR, h2.cl.mono hR⟩ ht hRb, (h3.mono hR (fun _ h => h) hd).touch ht (hxb i c' hc) hRb hYb⟩
theorem ConM.store {w : World} {b2 : Nat} {S : Shl} {R : Nat → Prop} (h : ConM w b2 S R) (ok : S.Ok) {n : Int} (hn : 0 ≤ n ∧ n < 16) (c : Co) (A : Option Addr) (k : Nat) (R' : Nat → Prop) (hR : ∀ q, R q → R' q) (hRb : ∀ q, R' q → q ≠ b2) (hr : SpR w R' A c.lv.length c.lv) :
    ∃ w', (Instr.mapUpdate 74 (.map (some b2)) (.int .i64 n) (.agg (conA c A k))).run Tryz.prog w = .ok () w' ∧ ConM w' b2 (S.sig n c) R' ∧ Touch (fun q => q = b2) w w' := by
  obtain ⟨f, hm, hs⟩ := h
  obtain ⟨w', hrun, hm', ht⟩ := hm.store lawN Tryz.underlying74 (by omega) (keyN (show inN n by unfold inN; omega)) (.agg (conA c A k))
  refine ⟨w', hrun, ⟨setV f (.int .i64 n) (.agg (conA c A k)), ?_, fun i hi => ?_⟩, ht⟩
  · refine hm'.tight lawN key16 (fun kl hk hsm => ?_)
    obtain ⟨i, hi, rfl⟩ := keysN hk
    by_cases e : i = n
    · subst e; exact mem_key16 hn
    · have e' : ¬ (Lit.int .i64 i) = Lit.int .i64 n := fun e' => e (by injection e')
      simp only [setV, if_neg e'] at hsm
      cases hc : S.con i with
      | none => rw [(hs i hi).1 hc] at hsm; cases hsm
      | some d => exact mem_key16 (ok.con i d hc).1
  · by_cases e : i = n
    · subst e
      simp only [Shl.sig, setV, if_true]
      exact ⟨(fun h => by cases h), fun c' h => by injection h with h; subst h; exact ⟨A, k, rfl, hr.touch ht hRb⟩⟩
    · have e' : ¬ (Lit.int .i64 i) = Lit.int .i64 n := fun e' => e (by injection e')
      simp only [Shl.sig, setV, if_neg e, if_neg e']
      refine ⟨(hs i hi).1, fun c' hc => ?_⟩
      obtain ⟨A', k', h1, h2⟩ := (hs i hi).2 c' hc
      exact ⟨A', k', h1, (h2.mono hR).touch ht hRb⟩
end Go.Proofs.YtlcefchbfjfifaaGreat
end
