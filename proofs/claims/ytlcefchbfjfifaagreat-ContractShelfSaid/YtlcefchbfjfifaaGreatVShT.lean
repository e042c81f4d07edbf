/- contract.Shelf.Put; law14.bytes. (written by genst.py) -/
import Derived.Test.YtlcefchbfjfifaaGreatVShQ
import Derived.Test.YtlcefchbfjfifaaGreatVShP
import Derived.Test.YtlcefchbfjfifaaGreatVKmSb
namespace Go.Proofs.YtlcefchbfjfifaaGreat
open Go.RowKit Cal Go.Maps
set_option maxHeartbeats 4000000
set_option maxRecDepth 100000
set_option linter.unusedVariables false
attribute [local irreducible] wpPlan

theorem sortedZ_uniq : ∀ (a b : List Int), a.Pairwise (· < ·) → b.Pairwise (· < ·) → (∀ x, x ∈ a ↔ x ∈ b) → a = b
  | [], [], _, _, _ => rfl
  | [], y :: b, _, _, h => absurd ((h y).2 (by simp)) (by simp)
  | x :: a, [], _, _, h => absurd ((h x).1 (by simp)) (by simp)
  | x :: a, y :: b, ha, hb, h => by
    obtain ⟨h1, h2⟩ := List.pairwise_cons.1 ha
    obtain ⟨h3, h4⟩ := List.pairwise_cons.1 hb
    have hxy : x = y := by
      rcases List.mem_cons.1 ((h x).1 (by simp)) with e | e
      · exact e
      · rcases List.mem_cons.1 ((h y).2 (by simp)) with e' | e'
        · exact e'.symm
        · have := h1 y e'; have := h3 x e; omega
    subst hxy
    congr 1
    refine sortedZ_uniq a b h2 h4 fun z => ⟨fun hz => ?_, fun hz => ?_⟩
    · rcases List.mem_cons.1 ((h z).1 (List.mem_cons_of_mem _ hz)) with e | e
      · subst e; have := h1 z hz; omega
      · exact e
    · rcases List.mem_cons.1 ((h z).2 (List.mem_cons_of_mem _ hz)) with e | e
      · subst e; have := h3 z hz; omega
      · exact e
section
variable {α : Type}
/-- Who is there below k, rising. -/
def keysG (f : Int → Option α) (k : Nat) : List Int := ((List.range k).filter fun i : Nat => (f (i : Int)).isSome).map fun i : Nat => (i : Int)
theorem keysG_rows (enc : α → List UInt8) (f : Int → Option α) : ∀ k, rowsG enc f k = (keysG f k).flatMap (fun z => rowG enc f z.toNat) ∧ cntG f k = (keysG f k).length
  | 0 => ⟨rfl, rfl⟩
  | k + 1 => by
    obtain ⟨h1, h2⟩ := keysG_rows enc f k
    unfold keysG at h1 h2 ⊢
    rw [List.range_succ, List.filter_append, List.map_append, List.flatMap_append, List.length_append, rowsG, cntG, ← h1, ← h2]
    cases hs : (f (k : Int)).isSome
    · have hn : f (k : Int) = none := by cases hf : f (k : Int) with
        | none => rfl
        | some a => rw [hf] at hs; cases hs
      simp [hs, rowG, hn]
    · simp [hs]
theorem keysG_uniq {f : Int → Option α} {g : Lit → Option Value} {k : Nat} (hg : ∀ i, inI i → (g (.int .i64 i)).isSome = (f i).isSome) (hf : ∀ i a, f i = some a → 0 ≤ i ∧ i < (k : Int)) (hk : k ≤ 100) (zs : List Int) (h1 : zs.Pairwise (· ≤ ·)) (h2 : zs.Nodup) (h3 : ∀ i, i ∈ zs ↔ inI i ∧ (g (.int .i64 i)).isSome = true) : zs = keysG f k := by
  refine sortedZ_uniq _ _ ((h1.and h2).imp fun ⟨a, b⟩ => by omega) ?_ fun x => ?_
  · exact List.Pairwise.map _ (fun (a b : Nat) h => by omega) (List.pairwise_lt_range.filter _)
  · rw [h3, keysG, List.mem_map]
    constructor
    · rintro ⟨hi, hs⟩
      rw [hg x hi] at hs
      obtain ⟨y, hy⟩ := Option.isSome_iff_exists.1 hs
      have := hf x y hy
      refine ⟨x.toNat, List.mem_filter.2 ⟨List.mem_range.2 (by omega), ?_⟩, by omega⟩
      simp only [Int.toNat_of_nonneg this.1, hs]
    · rintro ⟨y, hy, rfl⟩
      obtain ⟨hr, hs⟩ := List.mem_filter.1 hy
      have := List.mem_range.1 hr
      have hi : inI (y : Int) := by unfold inI; omega
      exact ⟨hi, by rw [hg _ hi]; exact hs⟩
theorem keysG_mem {f : Int → Option α} {k : Nat} {z : Int} (h : z ∈ keysG f k) : ∃ i : Nat, z = (i : Int) ∧ i < k ∧ (f z).isSome = true := by
  obtain ⟨y, hy, rfl⟩ := List.mem_map.1 h
  obtain ⟨hr, hs⟩ := List.mem_filter.1 hy
  exact ⟨y, rfl, List.mem_range.1 hr, hs⟩
theorem keysG_len (f : Int → Option α) (k : Nat) : (keysG f k).length ≤ k := by
  rw [← (keysG_rows (fun _ => []) f k).2]; exact cntG_le f k
theorem keyL_cnt {f : Int → Option α} {g : Lit → Option Value} (hg : ∀ i, inI i → (g (.int .i64 i)).isSome = (f i).isSome) (k : Nat) (hk : k ≤ 100) : (((List.range k).map fun c => Lit.int .i64 ((c : Nat) : Int)).filter fun kl => (g kl).isSome).length = cntG f k := by
  rw [(keysG_rows (fun _ => []) f k).2, List.filter_map, List.length_map, keysG, List.length_map]
  congr 1
  refine List.filter_congr fun c hc => ?_
  have := List.mem_range.1 hc
  exact hg c (by unfold inI; omega)
theorem flat_lenZ {f : Int → List UInt8} {m : Nat} : ∀ zs : List Int, (∀ z ∈ zs, (f z).length ≤ m) → (zs.flatMap f).length ≤ zs.length * m
  | [], _ => by simp
  | z :: zs, h => by
    rw [List.flatMap_cons, List.length_append, List.length_cons]
    have h1 := h z (by simp)
    have h2 := flat_lenZ zs (fun x hx => h x (by simp [hx]))
    rw [Nat.succ_mul]; omega
end
theorem keyL_nodup (k : Nat) : ((List.range k).map fun c => Lit.int .i64 ((c : Nat) : Int)).Nodup := by
  unfold List.Nodup; rw [List.pairwise_map]; exact (List.nodup_range).imp (fun h e => h (by injection e; omega))
theorem keyL_keys {k : Nat} (hk : k ≤ 100) : ∀ kl ∈ ((List.range k).map fun c => Lit.int .i64 ((c : Nat) : Int)), KeysOf Tryz.prog 3 kl := by
  intro kl h
  obtain ⟨c, hc, rfl⟩ := List.mem_map.1 h
  have := List.mem_range.1 hc
  exact ⟨_, keyN (show inN (c : Int) by unfold inN; omega)⟩
theorem encCa_lenS {c : Ca} (h : checkE c = 0) : (encCa c).length ≤ 1200 := by
  have h1 := check_ok h
  have h2 := h1.wk.2.1
  have h3 := h1.cn
  have e1 := encRow_len c.wk; have e2 := encRow_len c.cl; have e3 := encIs_len [c.off]
  simp [encCa] at e3 ⊢; omega
/-- The shelf stays while a writer writes. -/
theorem WGo.shelf {w w1 : World} {gw : Nat} {r : Option Nat} {l : List UInt8} {g b1 b2 : Nat} {S : Shl} {x : Int → Nat} {R X Y : Nat → Prop} (h : WGo w gw r l w1) (hs : ShAt w g b1 b2 S x R X Y) (hn : gw ≠ g ∧ gw ≠ b1 ∧ gw ≠ b2 ∧ ¬ (R gw ∨ X gw ∨ Y gw)) (hr : ∀ k, r = some k → k ≠ g ∧ k ≠ b1 ∧ k ≠ b2 ∧ ¬ (R k ∨ X k ∨ Y k)) : ShAt w1 g b1 b2 S x R X Y := by
  obtain ⟨_, _, t, _⟩ := h
  exact hs.touch t (by rintro (e | e); exact hn.1 e.symm; exact (hr _ e).1 rfl) (by rintro (e | e); exact hn.2.1 e.symm; exact (hr _ e).2.1 rfl) (by rintro (e | e); exact hn.2.2.1 e.symm; exact (hr _ e).2.2.1 rfl) (fun q hq => by rintro (e | e); exact hn.2.2.2 (e ▸ hq); exact (hr _ e).2.2.2 hq)
theorem WGo.pre {w w1 w2 : World} {g : Nat} {r : Option Nat} {l : List UInt8} (t : Touch (fun _ => False) w w1) (h : WGo w1 g r l w2) : WGo w g r l w2 := by
  obtain ⟨r', h1, t1, hf⟩ := h
  refine ⟨r', h1, (t.mono (fun _ _ e => e.elim)).trans t1 (fun _ _ e => e), ?_⟩
  rcases hf with e | ⟨k, e, hk⟩
  · exact .inl e
  · exact .inr ⟨k, e, Nat.le_trans t.size hk⟩
theorem cput_go {w w1 : World} {g : Nat} {r : Option Nat} {l : List UInt8} (h : WGo w g r l w1) (c : Ca) (hc : checkE c = 0) (F : Nat → Prop) (A B : Option Addr) (k m : Nat) (hr : CaR w1 F c A B) (hF : ∀ q, F q → q ≠ g ∧ r ≠ some q ∧ q < w.heap.size) (hsm : l.length ≤ 50000) :
    Calls Tryz.prog 89 #[.pointer (some ⟨g, 0, none⟩), .agg (caA c A B k m)] w1 fun e w2 => e = .returned (.tuple #[]) ∧ WGo w g r (l ++ encCa c) w2 := by
  obtain ⟨r1, hw1, t1, hf1⟩ := h
  have h1 := check_ok hc
  have hl := checkE_len hc
  refine (cput_any g r1 l c F A B k m _ hw1 hr (fun q hq => ⟨(hF q hq).1, fun e => ?_⟩) (fun s hs => ?_) (by have := h1.off; omega) hl.1 hl.2 hsm).mono ?_
  · rcases hf1 with e' | ⟨q', e', hq'⟩
    · exact (hF q hq).2.1 (e'.symm.trans e)
    · rw [e'] at e; injection e with e; have := (hF q hq).2.2; omega
  · rcases List.mem_append.1 hs with hs | hs
    · have := row_sp (Int.le_refl 0) h1.wk.1 s hs; omega
    · have := row_sp (Int.le_refl 0) h1.cl s hs; omega
  · rintro e w2 ⟨rfl, h2⟩
    exact ⟨rfl, WGo.next t1 hf1 h2⟩
theorem kput_go {w w1 : World} {g : Nat} {r : Option Nat} {l : List UInt8} (h : WGo w g r l w1) (c : Co) (hc : goodB c = true) (F : Nat → Prop) (A : Option Addr) (k : Nat) (hr : SpR w1 F A c.lv.length c.lv) (hF : ∀ q, F q → q ≠ g ∧ r ≠ some q ∧ q < w.heap.size) (hsm : l.length ≤ 50000) :
    Calls Tryz.prog 14 #[.pointer (some ⟨g, 0, none⟩), .agg (conA c A k)] w1 fun e w2 => e = .returned (.tuple #[]) ∧ WGo w g r (l ++ encK c) w2 := by
  obtain ⟨r1, hw1, t1, hf1⟩ := h
  refine (kput_any g r1 l c F A k _ hw1 hr (fun q hq => ⟨(hF q hq).1, fun e => ?_⟩) hc hsm).mono ?_
  · rcases hf1 with e' | ⟨q', e', hq'⟩
    · exact (hF q hq).2.1 (e'.symm.trans e)
    · rw [e'] at e; injection e with e; have := (hF q hq).2.2; omega
  · rintro e w2 ⟨rfl, h2⟩
    exact ⟨rfl, WGo.next t1 hf1 h2⟩
theorem CalM.ff {w : World} {b : Nat} {S : Shl} {x : Int → Nat} {R Y : Nat → Prop} (h : CalM w b S x R Y) : ∃ f, MapV Tryz.prog 3 w b 8 f ∧ ∀ i, inI i → (f (.int .i64 i)).isSome = (S.cal i).isSome := by
  obtain ⟨f, hm, hs⟩ := h
  refine ⟨f, hm, fun i hi => ?_⟩
  cases hc : S.cal i with
  | none => rw [(hs i hi).1 hc]; rfl
  | some c => obtain ⟨A, B, k, m, hf, -⟩ := (hs i hi).2 c hc; rw [hf]; rfl
theorem ConM.ff {w : World} {b : Nat} {S : Shl} {R : Nat → Prop} (h : ConM w b S R) : ∃ f, MapV Tryz.prog 3 w b 16 f ∧ ∀ i, inI i → (f (.int .i64 i)).isSome = (S.con i).isSome := by
  obtain ⟨f, hm, hs⟩ := h
  refine ⟨f, hm, fun i hi => ?_⟩
  cases hc : S.con i with
  | none => rw [(hs i hi).1 hc]; rfl
  | some c => obtain ⟨A, k, hf, -⟩ := (hs i hi).2 c hc; rw [hf]; rfl
theorem CalM.len {w : World} {b : Nat} {S : Shl} {x : Int → Nat} {R Y : Nat → Prop} (h : CalM w b S x R Y) (ok : S.Ok) (ty : TypeId) : (Builtin.len_ #[73] ty #[.map (some b)]).run Tryz.prog w = .ok (.int .i64 ((cntG S.cal 8 : Nat) : Int)) w := by
  obtain ⟨f, hm, hs⟩ := h.ff
  have := hm.size lawN ((List.range 8).map fun c => Lit.int .i64 ((c : Nat) : Int)) (keyL_nodup 8) (fun kl hk hsm => by
    obtain ⟨i, hi, rfl⟩ := keysN hk
    rw [hs i hi] at hsm
    obtain ⟨c, hc⟩ := Option.isSome_iff_exists.1 hsm
    have := (ok.cal i c hc).1
    exact List.mem_map.2 ⟨i.toNat, List.mem_range.2 (by omega), by rw [Int.toNat_of_nonneg this.1]⟩) (keyL_keys (by omega)) Tryz.underlying73 ty
  rw [keyL_cnt hs 8 (by omega)] at this
  exact this
theorem ConM.len {w : World} {b : Nat} {S : Shl} {R : Nat → Prop} (h : ConM w b S R) (ok : S.Ok) (ty : TypeId) : (Builtin.len_ #[74] ty #[.map (some b)]).run Tryz.prog w = .ok (.int .i64 ((cntG S.con 16 : Nat) : Int)) w := by
  obtain ⟨f, hm, hs⟩ := h.ff
  have := hm.size lawN ((List.range 16).map fun c => Lit.int .i64 ((c : Nat) : Int)) (keyL_nodup 16) (fun kl hk hsm => by
    obtain ⟨i, hi, rfl⟩ := keysN hk
    rw [hs i hi] at hsm
    obtain ⟨c, hc⟩ := Option.isSome_iff_exists.1 hsm
    have := (ok.con i c hc).1
    exact List.mem_map.2 ⟨i.toNat, List.mem_range.2 (by omega), by rw [Int.toNat_of_nonneg this.1]⟩) (keyL_keys (by omega)) Tryz.underlying74 ty
  rw [keyL_cnt hs 16 (by omega)] at this
  exact this
/-- maps.Keys, slices.Sorted at a shelf's maps. -/
def SrtP {α : Type} (f : Int → Option α) (k : Nat) (w : World) (e : Ending) (w' : World) : Prop := ∃ (A : Option Addr) (c : Nat), e = .returned (.slice A (keysG f k).length c) ∧ Rd w' (fun j => w.heap.size ≤ j) A (keysG f k).length ((keysG f k).map I64) ∧ Touch (fun _ => False) w w'
theorem calKeys {w w1 : World} {b : Nat} {S : Shl} {x : Int → Nat} {R Y : Nat → Prop} (h : CalM w b S x R Y) (ok : S.Ok) (p : Nat) (hp : w.heap.size = p) (hw1 : w1 = w.alloc (.cells #[.map (some b)] 73)) :
    Calls Tryz.prog 87 #[.func (.func 116) #[] #[.pointer (some ⟨p, 0, none⟩)]] w1 (SrtP S.cal 8 w1) := by
  subst hp hw1
  obtain ⟨f, hm, hs⟩ := h.ff
  refine (sortedSa_any _ b 8 f _ (by simp) (by simp) (hm.touch ((Touch.refl (fun _ => False) w).alloc _) (fun e => e)) (by omega)).mono ?_
  rintro e w' ⟨A, c, zs, rfl, z1, z2, z3, z4, z5, z6, z7⟩
  obtain rfl := keysG_uniq (k := 8) hs (fun i a hi => (ok.cal i a hi).1) (by decide) zs z1 z2 z3
  exact ⟨A, c, rfl, z6, z7⟩
theorem conKeys {w w1 : World} {b : Nat} {S : Shl} {R : Nat → Prop} (h : ConM w b S R) (ok : S.Ok) (p : Nat) (hp : w.heap.size = p) (hw1 : w1 = w.alloc (.cells #[.map (some b)] 74)) :
    Calls Tryz.prog 87 #[.func (.func 118) #[] #[.pointer (some ⟨p, 0, none⟩)]] w1 (SrtP S.con 16 w1) := by
  subst hp hw1
  obtain ⟨f, hm, hs⟩ := h.ff
  refine (sortedSb_any _ b 16 f _ (by simp) (by simp) (hm.touch ((Touch.refl (fun _ => False) w).alloc _) (fun e => e)) (by omega)).mono ?_
  rintro e w' ⟨A, c, zs, rfl, z1, z2, z3, z4, z5, z6, z7⟩
  obtain rfl := keysG_uniq (k := 16) hs (fun i a hi => (ok.con i a hi).1) (by decide) zs z1 z2 z3
  exact ⟨A, c, rfl, z6, z7⟩
end Go.Proofs.YtlcefchbfjfifaaGreat
