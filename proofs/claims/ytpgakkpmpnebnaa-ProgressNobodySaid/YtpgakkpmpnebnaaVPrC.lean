/- Progress: a table in memory; one line. -/
import Derived.Test.YtpgakkpmpnebnaaGMapR
import Derived.Test.YtpgakkpmpnebnaaVPrB
import Derived.Test.YtpgakkpmpnebnaaVMemA
namespace Go.Proofs.Ytpgakkpmpnebnaa
open Go.RowKit Go.Maps Prg
set_option maxHeartbeats 4000000
set_option maxRecDepth 100000
set_option linter.unusedVariables false

theorem lawI : Keyed Try.prog 3 := int_keyed Try.underlying3
def inI (k : Int) : Prop := -9223372036854775808 ≤ k ∧ k ≤ 9223372036854775807
theorem keyI {k : Int} (h : inI k) : keyOf Try.prog 3 (.int .i64 k) = some (.int .i64 k) := keyOf_int_mk Try.underlying3 (WalkArith.wf_i64 h)
theorem keysI {kl : Lit} (h : KeysOf Try.prog 3 kl) : ∃ k : Int, inI k ∧ kl = .int .i64 k := by
  obtain ⟨v, hv⟩ := h
  obtain ⟨x, _, rfl, hw⟩ := Maps.keyOf_int_inv Try.underlying3 hv
  simp [Lit.wf, IntKind.min, IntKind.max, IntKind.signed, IntKind.bits] at hw
  exact ⟨x, hw, rfl⟩
theorem zeroPL (w : World) : (zeroValue 111).run Try.prog w = .ok (.pointer none) w := by kernel_rfl
abbrev lnC (x : Ln) : Array Value := #[.int .u64 x.m, .int .u64 x.n, .int .u64 x.r, .bool x.a]
def lnP (t : Tb) (p : Int → Nat) : Lit → Option Value
  | .int .i64 i => (t i).map fun _ => .pointer (some ⟨p i, 0, none⟩)
  | _ => none
theorem lnP_at (t : Tb) (p : Int → Nat) (i : Int) : lnP t p (.int .i64 i) = (t i).map fun _ => .pointer (some ⟨p i, 0, none⟩) := rfl
def nodes7 : List Lit := (List.range 7).map fun c => Lit.int .i64 (c : Nat)
/-- A table at block g, its map at b; line i at block p i. -/
structure PgP (w : World) (g b : Nat) (t : Tb) (p : Int → Nat) (F : Nat → Prop) : Prop where
  blk : Blk w g 54 #[.map (some b)]
  map : MapV Try.prog 3 w b 7 (lnP t p)
  ok : t.Ok
  ln : ∀ i x, t i = some x → Blk w (p i) 43 (lnC x)
  inj : ∀ i j x y, t i = some x → t j = some y → p i = p j → i = j
  fb : F b
  fl : ∀ i x, t i = some x → F (p i)
  nb : ∀ i x, t i = some x → p i ≠ b
  ng : ¬ F g
  lt : ∀ k, F k → k < w.heap.size
def PgAt (w : World) (g b : Nat) (t : Tb) (F : Nat → Prop) : Prop := ∃ p, PgP w g b t p F
section
variable {w w' : World} {g b : Nat} {t : Tb} {p : Int → Nat} {F S : Nat → Prop}
theorem PgP.touch (h : PgP w g b t p F) (tt : Touch S w w') (hg : ¬ S g) (hF : ∀ k, F k → ¬ S k) : PgP w' g b t p F :=
  ⟨tt.blk h.blk hg, h.map.touch tt (hF b h.fb), h.ok, fun i x hx => tt.blk (h.ln i x hx) (hF _ (h.fl i x hx)), h.inj, h.fb, h.fl, h.nb, h.ng, fun k hk => Nat.lt_of_lt_of_le (h.lt k hk) tt.size⟩
theorem PgAt.touch (h : PgAt w g b t F) (tt : Touch S w w') (hg : ¬ S g) (hF : ∀ k, F k → ¬ S k) : PgAt w' g b t F := by
  obtain ⟨p, h⟩ := h; exact ⟨p, h.touch tt hg hF⟩
theorem PgAt.none_ (h : PgAt w g b t F) (tt : Touch (fun _ => False) w w') : PgAt w' g b t F := h.touch tt (fun e => e) (fun _ _ e => e)
theorem PgAt.ok (h : PgAt w g b t F) : t.Ok := by obtain ⟨p, h⟩ := h; exact h.ok
theorem PgAt.ng (h : PgAt w g b t F) : ¬ F g := by obtain ⟨p, h⟩ := h; exact h.ng
theorem PgAt.lt (h : PgAt w g b t F) : ∀ k, F k → k < w.heap.size := by obtain ⟨p, h⟩ := h; exact h.lt
theorem PgAt.gl (h : PgAt w g b t F) : g < w.heap.size := by obtain ⟨p, h⟩ := h; exact h.blk.lt
theorem PgAt.blk (h : PgAt w g b t F) : Blk w g 54 #[.map (some b)] := by obtain ⟨p, h⟩ := h; exact h.blk
theorem PgP.look (h : PgP w g b t p F) {n : Int} (hn : inI n) :
    (Instr.lookup 52 (.map (some b)) (.int .i64 n) false).run Try.prog w = .ok (((t n).map fun _ => Value.pointer (some ⟨p n, 0, none⟩)).getD (.pointer none)) w :=
  h.map.look lawI Try.underlying52 (zeroPL w) (keyI hn)
theorem PgP.inN (h : PgP w g b t p F) : ∀ kl, KeysOf Try.prog 3 kl → (lnP t p kl).isSome = true → kl ∈ nodes7 := by
  intro kl hk hs
  obtain ⟨k, hk, rfl⟩ := keysI hk
  rw [lnP_at, Option.isSome_map] at hs
  obtain ⟨x, hx⟩ := Option.isSome_iff_exists.1 hs
  have := h.ok k x hx
  simp only [nodes7, List.mem_map, List.mem_range]
  exact ⟨k.toNat, by omega, by rw [Int.toNat_of_nonneg this.1]⟩
/-- A line that is written anew. -/
theorem PgP.line (h : PgP w g b t p F) {n : Int} {x y : Ln} (hx : t n = some x) (hy : y.Ok) (tt : Touch (fun q => q = p n) w w') (hb : Blk w' (p n) 43 (lnC y)) : PgP w' g b (putT t n y) p F := by
  have hk := h.ok n x hx
  refine ⟨tt.blk h.blk (fun e => h.ng (e ▸ h.fl n x hx)), ?_, putT_ok h.ok ⟨hk.1, hk.2.1⟩ hy, fun i z hz => ?_, fun i j x' y' hi hj e => ?_, h.fb, fun i z hz => ?_, fun i z hz => ?_, h.ng, fun k hk => Nat.lt_of_lt_of_le (h.lt k hk) tt.size⟩
  · refine (h.map.touch tt (fun e => h.nb n x hx e.symm)).congr fun kl hkl => ?_
    obtain ⟨k, hk, rfl⟩ := keysI hkl
    rw [lnP_at, lnP_at]
    unfold putT
    split
    · rename_i e; subst e; rw [hx]; rfl
    · rfl
  · unfold putT at hz
    split at hz
    · rename_i e; subst e; injection hz with hz; subst hz; exact hb
    · rename_i e; exact tt.blk (h.ln i z hz) (fun e' => e (h.inj i n z x hz hx e'))
  · have key : ∀ i z, putT t n y i = some z → ∃ z', t i = some z' := by
      intro i z hz
      unfold putT at hz
      split at hz
      · rename_i e; subst e; exact ⟨x, hx⟩
      · exact ⟨z, hz⟩
    obtain ⟨a, ha⟩ := key i x' hi
    obtain ⟨c, hc⟩ := key j y' hj
    exact h.inj i j a c ha hc e
  · unfold putT at hz
    split at hz
    · rename_i e; subst e; exact h.fl i x hx
    · exact h.fl i z hz
  · unfold putT at hz
    split at hz
    · rename_i e; subst e; exact h.nb i x hx
    · exact h.nb i z hz
end
theorem pline_no (g b : Nat) (t : Tb) (F : Nat → Prop) (n : Int) (w : World) (h : PgAt w g b t F) (hn : inI n) (ht : t n = none) :
    Calls Try.prog 60 #[.pointer (some ⟨g, 0, none⟩), .int .i64 n] w fun e w' => e = .returned (.pointer none) ∧ w = w' := by
  obtain ⟨p, h⟩ := h
  have hl := h.look hn
  rw [ht] at hl
  simp only [Option.map_none, Option.getD_none] at hl
  have q0 := h.blk.cell 0
  simp at q0
  clear h ht hn
  go_enter Try.func60, Try.ntmps60
  go_wp2
  go_ret
  exact ⟨rfl, rfl⟩
theorem pline_yes (g b : Nat) (t : Tb) (p : Int → Nat) (F : Nat → Prop) (n : Int) (x : Ln) (w : World) (h : PgP w g b t p F) (hn : inI n) (ht : t n = some x) :
    Calls Try.prog 60 #[.pointer (some ⟨g, 0, none⟩), .int .i64 n] w fun e w' => e = .returned (.pointer (some ⟨p n, 0, none⟩)) ∧ w = w' := by
  have hl := h.look hn
  rw [ht] at hl
  simp only [Option.map_some, Option.getD_some] at hl
  have q0 := h.blk.cell 0
  simp at q0
  clear h ht hn
  go_enter Try.func60, Try.ntmps60
  go_wp2
  go_ret
  exact ⟨rfl, rfl⟩
def lineV (t : Tb) (n : Int) : Ln := (t n).getD Ln.z
theorem pLine_any (g b : Nat) (t : Tb) (F : Nat → Prop) (n : Int) (w : World) (h : PgAt w g b t F) (hn : inI n) :
    Calls Try.prog 18 #[.pointer (some ⟨g, 0, none⟩), .int .i64 n] w fun e w' => e = .returned (.tuple #[.agg (lnC (lineV t n)), .bool (t n).isSome]) ∧ Touch (fun _ => False) w w' := by
  have HT := Lib.hid ((Touch.refl (fun _ => False) w).alloc (.cells (lnC Ln.z) 43))
  cases ht : t n with
  | none =>
    have HV := Lib.hid (show lineV t n = Ln.z by rw [lineV, ht]; rfl)
    have HN := Lib.hid (fun w1 (h1 : PgAt w1 g b t F) => pline_no g b t F n w1 h1 hn ht)
    have HH := Lib.hid h
    clear h
    go_enter Try.func18, Try.ntmps18
    go_wp2_with (go_at_call 60; go_must (refine (HN.out _ (by exact HH.out.none_ ((Touch.refl _ _).alloc _))).mono ?_); rintro e w1 ⟨rfl, rfl⟩)
    refine bodyPost_ret (v := .tuple #[.agg #[.int .u64 0, .int .u64 0, .int .u64 0, .bool false], .bool false]) (by simp [results, Try.results18, go_sem]) rfl ⟨by rw [HV.out]; rfl, HT.out⟩
  | some x =>
    have HV := Lib.hid (show lineV t n = x by rw [lineV, ht]; rfl)
    obtain ⟨p, h⟩ := h
    have hb := (h.ln n x ht).alloc (.cells #[.int .u64 0, .int .u64 0, .int .u64 0, .bool false] 43)
    have HN := Lib.hid (fun w1 (h1 : PgP w1 g b t p F) => pline_yes g b t p F n x w1 h1 hn ht)
    have HH := Lib.hid h
    have hpl := (h.ln n x ht).lt
    clear h ht
    obtain ⟨P, hP⟩ : ∃ P, P = p n := ⟨_, rfl⟩
    rw [← hP] at HN hb hpl
    clear hP
    obtain ⟨m, q, r, a⟩ := x
    have c0 := hb.cell 0; have c1 := hb.cell 1; have c2 := hb.cell 2; have c3 := hb.cell 3
    simp at c0 c1 c2 c3
    clear hb
    go_enter Try.func18, Try.ntmps18
    go_wp2_with (go_at_call 60; go_must (refine (HN.out _ (by exact HH.out.touch ((Touch.refl (fun _ => False) _).alloc _) (fun e => e) (fun _ _ e => e))).mono ?_); rintro e w1 ⟨rfl, rfl⟩)
    refine bodyPost_ret (v := .tuple #[.agg #[.int .u64 m, .int .u64 q, .int .u64 r, .bool a], .bool true]) (by simp [results, Try.results18, go_sem]) rfl ⟨by rw [HV.out]; rfl, (Touch.refl (fun _ => False) w).alloc _⟩
end Go.Proofs.Ytpgakkpmpnebnaa
