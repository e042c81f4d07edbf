/- The reference's table of lines as one row of 35 cells. No program in sight. -/
import Derived.Test.YtpgakkpmpnebnaaMem
import Derived.Test.YtpgakkpmpnebnaaVPrB
namespace Go.Proofs.Ytpgakkpmpnebnaa
open Go.RowKit Prg
set_option maxHeartbeats 2000000
set_option maxRecDepth 100000
set_option linter.unusedVariables false
/-- seven truths, then seven lines of four cells. -/
def refA (h : Nat → Bool) (l : Nat → Ln) : Array Value :=
  #[.bool (h 0), .bool (h 1), .bool (h 2), .bool (h 3), .bool (h 4), .bool (h 5), .bool (h 6),
    .int .u64 (l 0).m, .int .u64 (l 0).n, .int .u64 (l 0).r, .bool (l 0).a,
    .int .u64 (l 1).m, .int .u64 (l 1).n, .int .u64 (l 1).r, .bool (l 1).a,
    .int .u64 (l 2).m, .int .u64 (l 2).n, .int .u64 (l 2).r, .bool (l 2).a,
    .int .u64 (l 3).m, .int .u64 (l 3).n, .int .u64 (l 3).r, .bool (l 3).a,
    .int .u64 (l 4).m, .int .u64 (l 4).n, .int .u64 (l 4).r, .bool (l 4).a,
    .int .u64 (l 5).m, .int .u64 (l 5).n, .int .u64 (l 5).r, .bool (l 5).a,
    .int .u64 (l 6).m, .int .u64 (l 6).n, .int .u64 (l 6).r, .bool (l 6).a]
def updB (h : Nat → Bool) (n : Nat) (b : Bool) : Nat → Bool := fun i => if i = n then b else h i
def updL (l : Nat → Ln) (n : Nat) (x : Ln) : Nat → Ln := fun i => if i = n then x else l i
theorem refA_size (h : Nat → Bool) (l : Nat → Ln) : (refA h l).size = 35 := rfl
theorem refA_one (h : Nat → Bool) (l : Nat → Ln) : (refA h l).all (·.oneCell') = true := by simp [refA, Value.oneCell']
theorem lt7 {n : Nat} (h : n < 7) : n = 0 ∨ n = 1 ∨ n = 2 ∨ n = 3 ∨ n = 4 ∨ n = 5 ∨ n = 6 := by omega
theorem refA_h (h : Nat → Bool) (l : Nat → Ln) {n : Nat} (hn : n < 7) : (refA h l)[n]? = some (.bool (h n)) := by
  rcases lt7 hn with rfl | rfl | rfl | rfl | rfl | rfl | rfl <;> rfl
theorem refA_m (h : Nat → Bool) (l : Nat → Ln) {n : Nat} (hn : n < 7) : (refA h l)[7 + n * 4]? = some (.int .u64 (l n).m) := by
  rcases lt7 hn with rfl | rfl | rfl | rfl | rfl | rfl | rfl <;> rfl
theorem refA_n (h : Nat → Bool) (l : Nat → Ln) {n : Nat} (hn : n < 7) : (refA h l)[7 + n * 4 + 1]? = some (.int .u64 (l n).n) := by
  rcases lt7 hn with rfl | rfl | rfl | rfl | rfl | rfl | rfl <;> rfl
theorem refA_r (h : Nat → Bool) (l : Nat → Ln) {n : Nat} (hn : n < 7) : (refA h l)[7 + n * 4 + 2]? = some (.int .u64 (l n).r) := by
  rcases lt7 hn with rfl | rfl | rfl | rfl | rfl | rfl | rfl <;> rfl
theorem refA_a (h : Nat → Bool) (l : Nat → Ln) {n : Nat} (hn : n < 7) : (refA h l)[7 + n * 4 + 3]? = some (.bool (l n).a) := by
  rcases lt7 hn with rfl | rfl | rfl | rfl | rfl | rfl | rfl <;> rfl
theorem refA_seth (h : Nat → Bool) (l : Nat → Ln) {n : Nat} (hn : n < 7) (b : Bool) : (refA h l).setIfInBounds n (.bool b) = refA (updB h n b) l := by
  rcases lt7 hn with rfl | rfl | rfl | rfl | rfl | rfl | rfl <;> rfl
theorem refA_setm (h : Nat → Bool) (l : Nat → Ln) {n : Nat} (hn : n < 7) (v : Nat) : (refA h l).setIfInBounds (7 + n * 4) (.int .u64 v) = refA h (updL l n { l n with m := v }) := by
  rcases lt7 hn with rfl | rfl | rfl | rfl | rfl | rfl | rfl <;> rfl
theorem refA_setn (h : Nat → Bool) (l : Nat → Ln) {n : Nat} (hn : n < 7) (v : Nat) : (refA h l).setIfInBounds (7 + n * 4 + 1) (.int .u64 v) = refA h (updL l n { l n with n := v }) := by
  rcases lt7 hn with rfl | rfl | rfl | rfl | rfl | rfl | rfl <;> rfl
theorem refA_setr (h : Nat → Bool) (l : Nat → Ln) {n : Nat} (hn : n < 7) (v : Nat) : (refA h l).setIfInBounds (7 + n * 4 + 2) (.int .u64 v) = refA h (updL l n { l n with r := v }) := by
  rcases lt7 hn with rfl | rfl | rfl | rfl | rfl | rfl | rfl <;> rfl
theorem refA_seta (h : Nat → Bool) (l : Nat → Ln) {n : Nat} (hn : n < 7) (v : Bool) : (refA h l).setIfInBounds (7 + n * 4 + 3) (.bool v) = refA h (updL l n { l n with a := v }) := by
  rcases lt7 hn with rfl | rfl | rfl | rfl | rfl | rfl | rfl <;> rfl
theorem refA_congr {h h' : Nat → Bool} {l l' : Nat → Ln} (hh : ∀ i, i < 7 → h i = h' i) (hl : ∀ i, i < 7 → l i = l' i) : refA h l = refA h' l' := by
  simp only [refA, hh 0 (by omega), hh 1 (by omega), hh 2 (by omega), hh 3 (by omega), hh 4 (by omega), hh 5 (by omega), hh 6 (by omega), hl 0 (by omega), hl 1 (by omega), hl 2 (by omega), hl 3 (by omega), hl 4 (by omega), hl 5 (by omega), hl 6 (by omega)]
theorem updL_self (l : Nat → Ln) (n : Nat) (x : Ln) : updL l n x n = x := by simp [updL]
theorem updL_twice (l : Nat → Ln) (n : Nat) (x y : Ln) : updL (updL l n x) n y = updL l n y := by funext i; simp only [updL]; split <;> rfl
/-- The document's table of these lines. -/
def hasN (t : Tb) : Nat → Bool := fun i => (t (i : Int)).isSome
def linN (t : Tb) : Nat → Ln := fun i => (t (i : Int)).getD Ln.z
def refT (t : Tb) : Array Value := refA (hasN t) (linN t)
theorem refT_put {t : Tb} {n : Nat} {x : Ln} (hx : (t n).isSome = true) : refA (hasN t) (updL (linN t) n x) = refT (putT t n x) := by
  refine refA_congr (fun i _ => ?_) (fun i _ => ?_)
  · simp only [hasN, putT]
    by_cases e : (i : Int) = n
    · rw [if_pos e, e, hx]; rfl
    · rw [if_neg e]
  · simp only [linN, putT, updL]
    by_cases e : i = n
    · subst e; simp
    · rw [if_neg e, if_neg (by omega)]
end Go.Proofs.Ytpgakkpmpnebnaa
