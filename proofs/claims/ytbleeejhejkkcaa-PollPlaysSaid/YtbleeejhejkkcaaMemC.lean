/- What the reference's Row does; With and Without. -/
import Derived.Test.YtbleeejhejkkcaaMemB
namespace Go.Proofs.Ytbleeejhejkkcaa
open Go.RowKit
set_option maxHeartbeats 2000000
set_option maxRecDepth 100000
set_option linter.unusedVariables false

def rowB (l : List Int) (less more : Int) (i : Nat) : Bool := decide ((i : Int) = more) || (!decide ((i : Int) = less) && l.contains (i : Int))
theorem rrow_any (F : Nat → Prop) (A : Option Addr) (c : Nat) (l : List Int) (less more : Int) (w : World) (hr : Rd w F A l.length (l.map I64)) (hsm : l.length ≤ 1000000) :
    Calls Try.prog 42 #[.slice A l.length c, .int .i64 less, .int .i64 more] w (NewSl w ((Row.rowOf (rowB l less more)).map I64)) := by
  obtain ⟨i0, hi, hz0, hz1, hz2⟩ := info_parts infoI
  have Hr := Lib.hid hr
  clear hr
  go_enter Try.func42, Try.ntmps42
  go_wp2_with fail
  go_loopw [7, 8] (fun v i wr => ∃ j : Nat, j ≤ 7 ∧ i = .int .i64 j ∧ (∃ r, Own wr 3 1 v r (Row.rowK (rowB l less more) j).length ((Row.rowK (rowB l less more) j).map I64) ∧ ∀ k, r = some k → w.heap.size ≤ k) ∧ Touch (fun _ => False) w wr) (fun _ i _ => 7 - (intOf i).toNat)
  case atStart => exact ⟨0, by omega, rfl, ⟨none, Own.nil _ _ _, fun k e => by cases e⟩, Touch.refl _ _⟩
  case round =>
    obtain ⟨j, hj, rfl, hM, hT⟩ := hrel
    have HM := Lib.hid hM
    have HT := Lib.hid hT
    obtain ⟨r, ho, hrk⟩ := hM
    obtain ⟨A0, c0, rfl, -, -⟩ := ho.form
    have HO := Lib.hid ho
    have HR := Lib.hid hrk
    clear ho hT HM hrk
    by_cases hjk : j < 7
    · have HU := Lib.hid (Row.rowK_succ (rowB l less more) j)
      have HH := Lib.hid (rhas_any F A c l (j : Int) wr (Hr.out.touch HT.out (fun _ _ e => e)) (by omega))
      have hol := Row.rowK_len (rowB l less more) j
      have HBd := Lib.hid (show rowB l less more j = (decide ((j : Int) = more) || (!decide ((j : Int) = less) && l.contains (j : Int))) from rfl)
      generalize Row.rowK (rowB l less more) j = L at *
      generalize rowB l less more j = b at *
      generalize l.contains (j : Int) = hs at *
      have HTl := Lib.hid ((Touch.refl (fun _ => False) wr).alloc (.cells #[.int .i64 (j : Int)] 3))
      have HB := Lib.hid (Blk.new wr 3 #[.int .i64 (j : Int)])
      by_cases h1 : (j : Int) = more
      · obtain rfl : b = true := by rw [HBd.out]; simp [h1]
        rw [if_pos rfl] at HU
        subst h1
        go_wp2_with (first
          | (at_builtin
             go_must (refine wpList_own_append rfl _ _ 22 22 rfl 3 i0 (.int .i64 0) 1 8 Try.underlying22 hi hz0 hz1 hz2 rfl _ r L.length (L.map I64) rfl (by exact HO.out.touch HTl.out (fun _ _ e => e)) _ 1 [.int .i64 (j : Int)] rfl (by exact Src.lit Try.underlying22 wr.heap.size 1 1 3 #[.int .i64 (j : Int)] HB.out rfl (fun u hu => by simp at hu; subst hu; rfl)) (by simp only [maxLen]; omega) (by omega) ?_)
             intro v1 r1 w1 ho1 ht1 hr1
             have HR1 := Lib.hid (And.intro ho1 (And.intro ht1 hr1))
             clear ho1 ht1 hr1)
          | (go_at_call 41; go_must (refine HH.out.mono ?_); rintro e w1 ⟨rfl, rfl⟩))
        go_roundw
        case rel =>
          obtain ⟨ho1, ht1, hr1⟩ := HR1.out
          have hs := HT.out.size
          refine ⟨j + 1, by omega, by go_num, ⟨r1, ?_, ?_⟩, (HT.out.trans HTl.out (fun _ _ e => e)).trans ht1 (fun q hq e => by have := HR.out q e; omega)⟩
          · rw [HU.out, List.length_append, List.map_append]; exact ho1
          · intro k e
            rcases hr1 with e' | ⟨q, e', hq⟩
            · exact HR.out k (e'.symm.trans e)
            · rw [e'] at e; injection e with e; simp at hq; omega
        case measure => simp [intOf]; omega
      · by_cases h2 : (j : Int) = less
        · obtain rfl : b = false := by rw [HBd.out, decide_eq_false h1, decide_eq_true h2]; rfl
          rw [if_neg (by simp)] at HU
          subst h2
          go_wp2_with (go_at_call 41; go_must (refine HH.out.mono ?_); rintro e w1 ⟨rfl, rfl⟩)
          go_roundw
          case rel => exact ⟨j + 1, by omega, by go_num, ⟨r, by rw [HU.out, List.append_nil]; exact HO.out, HR.out⟩, HT.out⟩
          case measure => simp [intOf]; omega
        · have hx : ((j : Int) == more) = false := by simp [h1]
          have hy : ((j : Int) != less) = true := by simp [h2]
          cases hs
          · obtain rfl : b = false := by rw [HBd.out]; simp [h1]
            rw [if_neg (by simp)] at HU
            go_wp2_with (go_at_call 41; go_must (refine HH.out.mono ?_); rintro e w1 ⟨rfl, rfl⟩)
            go_roundw
            case rel => exact ⟨j + 1, by omega, by go_num, ⟨r, by rw [HU.out, List.append_nil]; exact HO.out, HR.out⟩, HT.out⟩
            case measure => simp [intOf]; omega
          · obtain rfl : b = true := by rw [HBd.out]; simp [h2]
            rw [if_pos rfl] at HU
            go_wp2_with (first
              | (at_builtin
                 go_must (refine wpList_own_append rfl _ _ 22 22 rfl 3 i0 (.int .i64 0) 1 8 Try.underlying22 hi hz0 hz1 hz2 rfl _ r L.length (L.map I64) rfl (by exact HO.out.touch HTl.out (fun _ _ e => e)) _ 1 [.int .i64 (j : Int)] rfl (by exact Src.lit Try.underlying22 wr.heap.size 1 1 3 #[.int .i64 (j : Int)] HB.out rfl (fun u hu => by simp at hu; subst hu; rfl)) (by simp only [maxLen]; omega) (by omega) ?_)
                 intro v1 r1 w1 ho1 ht1 hr1
                 have HR1 := Lib.hid (And.intro ho1 (And.intro ht1 hr1))
                 clear ho1 ht1 hr1)
              | (go_at_call 41; go_must (refine HH.out.mono ?_); rintro e w1 ⟨rfl, rfl⟩))
            go_roundw
            case rel =>
              obtain ⟨ho1, ht1, hr1⟩ := HR1.out
              have hs := HT.out.size
              refine ⟨j + 1, by omega, by go_num, ⟨r1, ?_, ?_⟩, (HT.out.trans HTl.out (fun _ _ e => e)).trans ht1 (fun q hq e => by have := HR.out q e; omega)⟩
              · rw [HU.out, List.length_append, List.map_append]; exact ho1
              · intro k e
                rcases hr1 with e' | ⟨q, e', hq⟩
                · exact HR.out k (e'.symm.trans e)
                · rw [e'] at e; injection e with e; simp at hq; omega
            case measure => simp [intOf]; omega
    · obtain rfl : j = 7 := by omega
      go_wp2
      go_ret
      obtain ⟨A1, c1, hv, hc1, hc2, _, hr⟩ := HO.out.rd
      injection hv with hv1 hv2 hv3
      subst hv1 hv3
      rw [Row.rowK_7] at hc1 hr
      exact ⟨A0, c0, by rw [List.length_map]; rfl, by simpa using hc1, hc2, by rw [List.length_map]; exact hr.mono fun k hk => HR.out k hk, HT.out⟩

/-- Two results: a slice that reads as xs, or none, and a number. -/
def NewTwo (w : World) (xs : List Value) (v : Value) (e : Ending) (w' : World) : Prop :=
  ∃ A c, e = .returned (.tuple #[.slice A xs.length c, v]) ∧ xs.length ≤ c ∧ c ≤ maxLen ∧ Rd w' (fun k => w.heap.size ≤ k) A xs.length xs ∧ Touch (fun _ => False) w w'
theorem NewTwo.none {w w' : World} {v : Value} (t : Touch (fun _ => False) w w') : NewTwo w [] v (.returned (.tuple #[.slice none 0 0, v])) w' := ⟨Option.none, 0, rfl, Nat.le_refl _, by simp, Rd.nil _ _ _, t⟩
theorem NewTwo.of {w w1 w2 : World} {xs : List Value} {v : Value} {A : Option Addr} {c : Nat} {e : Ending} (t1 : Touch (fun _ => False) w w1) (he : e = .returned (.tuple #[.slice A xs.length c, v])) (h1 : xs.length ≤ c) (h2 : c ≤ maxLen) (hr : Rd w2 (fun k => w1.heap.size ≤ k) A xs.length xs) (t2 : Touch (fun _ => False) w1 w2) : NewTwo w xs v e w2 :=
  ⟨A, c, he, h1, h2, hr.mono (fun _ hk => Nat.le_trans t1.size hk), t1.trans t2 (fun _ _ e => e)⟩

/-- With, Without: the answer's row and number. -/
def withL (l : List Int) (n : Int) : List Int := if Row.soundB l = true ∧ (0 ≤ n ∧ n < 7) ∧ l.contains n = false then Row.rowOf (rowB l (-1) n) else []
def withE (l : List Int) (n : Int) : Int := if Row.soundB l = true ∧ (0 ≤ n ∧ n < 7) then if l.contains n = true then 32 else 0 else 2
def lessL (l : List Int) (n : Int) : List Int := if Row.soundB l = true ∧ (0 ≤ n ∧ n < 7) ∧ l.contains n = true ∧ l.length ≠ 1 then Row.rowOf (rowB l n (-1)) else []
def lessE (l : List Int) (n : Int) : Int := if Row.soundB l = true ∧ (0 ≤ n ∧ n < 7) then if l.contains n = true then if l.length = 1 then 33 else 0 else 31 else 2
end Go.Proofs.Ytbleeejhejkkcaa
