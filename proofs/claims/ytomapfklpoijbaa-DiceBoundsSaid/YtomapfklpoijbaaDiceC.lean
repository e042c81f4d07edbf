/- dice.Order: the swap. -/
import Derived.Test.YtomapfklpoijbaaDiceB
import Derived.Test.YtomapfklpoijbaaMetE
namespace Go.Proofs.Ytomapfklpoijbaa
open Go.RowKit
set_option maxHeartbeats 4000000
set_option maxRecDepth 100000
set_option linter.unusedVariables false

/-- The captured slice at block gl: its row is the call's own, at block r. -/
def LAt (w : World) (gl r : Nat) (ys : List Int) : Prop :=
  gl ≠ r ∧ ∃ cap, Blk w gl 48 #[.slice (some ⟨r, 0, none⟩) ys.length cap] ∧ Own w 3 1 (.slice (some ⟨r, 0, none⟩) ys.length cap) (some r) ys.length (ys.map I64)
theorem LAt.touch {w w' : World} {gl r : Nat} {ys : List Int} {S : Nat → Prop} (h : LAt w gl r ys) (ht : Touch S w w') (h1 : ¬ S gl) (h2 : ¬ S r) : LAt w' gl r ys := by
  obtain ⟨hne, cap, hb, ho⟩ := h
  exact ⟨hne, cap, ht.blk hb h1, ho.touch ht (fun g e => by injection e with e; subst e; exact h2)⟩
def swapL (ys : List Int) (i k : Nat) : List Int := (ys.set i (ys.getD k 0)).set k (ys.getD i 0)
theorem Own.frozen {w : World} {e : TypeId} {g n : Nat} {v : Value} {xs : List Value} (h : Own w e 1 v (some g) n xs) (k : Nat) : w.frozen? ⟨g, k, none⟩ = false := by
  rcases h.2 with ⟨_, _, hr⟩ | ⟨g', cap, cur, hr, hv, hb, _⟩
  · cases hr
  · injection hr with hr; subst hr; exact hb.frozen k

theorem swap_any (gl r i k : Nat) (ys : List Int) (w : World) (h : LAt w gl r ys) (hi : i < ys.length) (hk : k < ys.length) (hsm : ys.length ≤ 1000) :
    Calls Try.prog 64 #[.int .i64 i, .int .i64 k, .pointer (some ⟨gl, 0, none⟩)] w fun e w' => e = .returned (.tuple #[]) ∧ LAt w' gl r (swapL ys i k) ∧ Touch (fun q => q = r) w w' := by
  obtain ⟨hne, cap, hb, ho⟩ := h
  have h0 := hb.cell 0
  simp at h0
  have hci := ho.cellAt i (by simpa using hi)
  have hck := ho.cellAt k (by simpa using hk)
  rw [get_I64 hi] at hci
  rw [get_I64 hk] at hck
  simp only [I64] at hci hck
  have hfi := ho.frozen i
  have hfk := ho.frozen k
  have hgll := hb.lt
  have HW := Lib.hid (show swapL ys i k = (ys.set i (ys.getD k 0)).set k (ys.getD i 0) from rfl)
  have HB := Lib.hid hb
  have HO := Lib.hid ho
  clear hb ho
  generalize hx : ys.getD i 0 = x at *
  generalize hy : ys.getD k 0 = y at *
  have HO1 := Lib.hid ((HO.out.storeAt i hi (I64 y)).touch ((Touch.refl (fun _ => False) _).drew) (fun _ _ e => e))
  have hfk1 := HO1.out.frozen k
  have hck1 := HO1.out.cellAt k (by simpa using hk)
  simp only [I64] at hfk1 hck1
  clear hx hy
  go_enter Try.func64, Try.ntmps64
  go_wp2_with fail
  refine wp_region_plan [(0, 0), (0, 1), (0, 4), (0, 5), (0, 6), (0, 7), (0, 8), (0, 9), (0, 10), (0, 11), (0, 12), (1, 2), (1, 3), (2, 13), (0, 14), (2, 15)] (fun q => q = r) (by kernel_rfl) (by kernel_rfl) (fun c a d v w h => by cases d <;> exact h) ?_
  iterate 11
    first
      | (refine plan_s1 rfl (by rfl) (fun Kc hKc => ?_)
         go_simp
         first
           | (refine hKc _ ?_)
         clear hKc Kc)
      | (refine plan_s0 rfl (by rfl) ?_; go_frame)
  iterate 2
    first
      | (apply plan_h
         · rfl
         · rfl
         · intro wh hT
           have hf0 := (hT.cell (p := ⟨gl, 0, none⟩) hgll hne).trans h0
           go_simp
           try rfl
         go_frame)
      | (refine plan_hn rfl (by rfl) ?_; go_frame)
  refine plan_a1 rfl (by rfl) (fun Kc hKc => ?_)
  go_simp
  refine hKc _ _ ⟨(show Touch (fun q => q = r) w.drew (w.setCell ⟨r, i, none⟩ (.int .i64 y)).drew from (Touch.refl (fun q => q = r) w.drew).set (fun _ => rfl) _), ?_⟩
  clear hKc Kc
  iterate 1
    first
      | (refine plan_s1 rfl (by rfl) (fun Kc hKc => ?_)
         go_simp
         first
           | (refine hKc _ ?_)
         clear hKc Kc)
      | (refine plan_s0 rfl (by rfl) ?_; go_frame)
  refine plan_a1 rfl (by rfl) (fun Kc hKc => ?_)
  go_simp
  refine hKc _ _ ⟨(show Touch (fun q => q = r) (w.setCell ⟨r, i, none⟩ (.int .i64 y)).drew ((w.setCell ⟨r, i, none⟩ (.int .i64 y)).setCell ⟨r, k, none⟩ (.int .i64 x)).drew from (Touch.refl (fun q => q = r) (w.setCell ⟨r, i, none⟩ (.int .i64 y)).drew).set (fun _ => rfl) _), ?_⟩
  clear hKc Kc
  refine plan_done ?_
  go_wp2
  go_end0
  have t2 : Touch (fun q => q = r) w ((w.setCell ⟨r, i, none⟩ (.int .i64 y)).setCell ⟨r, k, none⟩ (.int .i64 x)).drew := (((Touch.refl (fun q => q = r) w).set (fun _ => rfl) _).set (fun _ => rfl) _).drew
  refine ⟨rfl, ⟨hne, cap, ?_, ?_⟩, t2⟩
  · have hb2 := t2.blk HB.out hne
    rw [HW.out]
    simpa using hb2
  · have ho2 := ((HO.out.storeAt i hi (I64 y)).storeAt k hk (I64 x)).touch ((Touch.refl (fun _ => False) _).drew) (fun _ _ e => e)
    rw [HW.out]
    show Own ((w.setCell ⟨r, i, none⟩ (I64 y)).setCell ⟨r, k, none⟩ (I64 x)).drew _ _ _ _ _ _
    simpa [List.map_set] using ho2
end Go.Proofs.Ytomapfklpoijbaa
