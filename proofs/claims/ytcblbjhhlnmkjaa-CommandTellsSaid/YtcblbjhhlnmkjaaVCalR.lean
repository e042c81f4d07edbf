/- Package lazy: Do, Get; a plan and its lazy cell. Package week: none, at, Open, Row. Package week: Open, Row, Total. -/
import Derived.Test.YtcblbjhhlnmkjaaVCalO
import Derived.Test.YtcblbjhhlnmkjaaCalI
import Derived.Lib.Walk
section
namespace Go.Proofs.Ytcblbjhhlnmkjaa
open Go.RowKit Cal
set_option maxHeartbeats 4000000
set_option maxRecDepth 100000
set_option linter.unusedVariables false

theorem do_first (b g : Nat) (sm ak : Int) (wk : List Sp) (A : Option Addr) (k : Nat) (F : Nat → Prop) (w : World) (hb : Blk w b 210 (lzC 0 0 sm 0 ak (sumsF g) (.slice none 0 0))) (h : PlAt w g wk A k b F) (hgb : g ≠ b) (hF : ∀ q, F q → q ≠ b) (hw : Week wk) :
    Calls Try.prog 151 #[.pointer (some ⟨b, 0, none⟩), .func (.func 152) #[.pointer (some ⟨b, 0, none⟩)] #[]] w (FillP b 1 0 sm ak (sumsN wk wk.length) w) := by
  have q0 := hb.cell 0
  simp [lzC] at q0
  have HS := Lib.hid (slow_any b g sm ak wk A k F w hb h hgb hF hw)
  generalize sumsN wk wk.length = L at *
  have hnot : ∀ (x : Bool) (w : World), (Op.unary .not (.bool x)).run Try.prog w = .ok (.bool (!x)) w := fun _ _ => rfl
  clear h hw hb hF
  go_enter Try.func151, Try.ntmps151
  go_wp2_with (first
    | (go_at_call 161; go_must (refine (bload_any _ 0 _ q0).mono ?_); rintro e w1 ⟨rfl, rfl⟩)
    | (go_at_call 162; go_must (refine HS.out.mono ?_); rintro e w2 ⟨A2, c2, rfl, h2, r2, t2⟩; have HQ := Lib.hid (And.intro h2 (And.intro r2 t2)); clear h2 r2 t2))
  go_end0
  obtain ⟨h2, r2, t2⟩ := HQ.out
  exact ⟨A2, c2, rfl, h2, r2, t2⟩
theorem do_done (a : Addr) (fv : Value) (w : World) (h0 : w.cell? a = some (.int .u32 1)) :
    Calls Try.prog 151 #[.pointer (some a), fv] w fun e w' => e = .returned (.tuple #[]) ∧ w' = w := by
  have hnot : ∀ (x : Bool) (w : World), (Op.unary .not (.bool x)).run Try.prog w = .ok (.bool (!x)) w := fun _ _ => rfl
  go_enter Try.func151, Try.ntmps151
  go_wp2_with (go_at_call 161; go_must (refine (bload_any _ 1 _ h0).mono ?_); rintro e w1 ⟨rfl, rfl⟩)
  go_end0
  exact ⟨rfl, rfl⟩
/-- What a lazy cell holds. -/
def LzAt (w : World) (b g : Nat) (wk : List Sp) (G : Nat → Prop) : Prop :=
  (∃ sm ak, Blk w b 210 (lzC 0 0 sm 0 ak (sumsF g) (.slice none 0 0))) ∨
  (∃ sm ak A c, Blk w b 210 (lzC 1 0 sm 1 ak .nilFunc (.slice A (wk.length + 1) c)) ∧ Rd w G A (wk.length + 1) ((sumsN wk wk.length).map V64))
/-- A plan at block g, its lazy cell at block b; all the rest lies in G. -/
structure PnAt (w : World) (g : Nat) (wk : List Sp) (b : Nat) (G : Nat → Prop) : Prop where
  pl : ∃ A k, PlAt w g wk A k b G
  lz : LzAt w b g wk G
  gG : G g
  nb : ¬ G b
  wk : Week wk
theorem LzAt.lt {w : World} {b g : Nat} {wk : List Sp} {G : Nat → Prop} (h : LzAt w b g wk G) : b < w.heap.size := by
  rcases h with ⟨sm, ak, hb⟩ | ⟨sm, ak, A, c, hb, _⟩ <;> exact hb.lt
theorem LzAt.touch {w w' : World} {b g : Nat} {wk : List Sp} {G S : Nat → Prop} (h : LzAt w b g wk G) (ht : Touch S w w') (hb : ¬ S b) (hG : ∀ q, G q → ¬ S q) : LzAt w' b g wk G := by
  rcases h with ⟨sm, ak, h1⟩ | ⟨sm, ak, A, c, h1, h2⟩
  · exact .inl ⟨sm, ak, ht.blk h1 hb⟩
  · exact .inr ⟨sm, ak, A, c, ht.blk h1 hb, h2.touch ht hG⟩
theorem LzAt.mono {w : World} {b g : Nat} {wk : List Sp} {G G' : Nat → Prop} (h : LzAt w b g wk G) (hG : ∀ q, G q → G' q) : LzAt w b g wk G' := by
  rcases h with ⟨sm, ak, h1⟩ | ⟨sm, ak, A, c, h1, h2⟩
  · exact .inl ⟨sm, ak, h1⟩
  · exact .inr ⟨sm, ak, A, c, h1, h2.mono hG⟩
theorem PnAt.touch {w w' : World} {g : Nat} {wk : List Sp} {b : Nat} {G S : Nat → Prop} (h : PnAt w g wk b G) (ht : Touch S w w') (hb : ¬ S b) (hG : ∀ q, G q → ¬ S q) : PnAt w' g wk b G := by
  obtain ⟨A, k, hp⟩ := h.pl
  exact ⟨⟨A, k, hp.touch ht (hG g h.gG) hG⟩, h.lz.touch ht hb hG, h.gG, h.nb, h.wk⟩
theorem PlAt.mono {w : World} {g : Nat} {wk : List Sp} {A : Option Addr} {k b : Nat} {F F' : Nat → Prop} (h : PlAt w g wk A k b F) (hF : ∀ q, F q → F' q) : PlAt w g wk A k b F' := ⟨h.blk, h.row.mono hF⟩
/-- The blocks that grow behind a Get. -/
def More (G : Nat → Prop) (w w' : World) : Nat → Prop := fun q => G q ∨ (w.heap.size ≤ q ∧ q < w'.heap.size)
theorem PnAt.more {w w' : World} {g : Nat} {wk : List Sp} {b : Nat} {G S : Nat → Prop} (h : PnAt w g wk b G) (ht : Touch S w w') (hb : ¬ S b) (hG : ∀ q, G q → ¬ S q) : PnAt w' g wk b (More G w w') := by
  have h' := h.touch ht hb hG
  obtain ⟨A, k, hp⟩ := h'.pl
  have hbl := h.lz.lt
  exact ⟨⟨A, k, hp.mono (fun q hq => .inl hq)⟩, h'.lz.mono (fun q hq => .inl hq), .inl h'.gG, (fun e => by rcases e with e | e; exact h.nb e; omega), h.wk⟩
theorem more_trans {G : Nat → Prop} {w w1 w2 : World} (h1 : w.heap.size ≤ w1.heap.size) (h2 : w1.heap.size ≤ w2.heap.size) : ∀ q, More (More G w w1) w1 w2 q → More G w w2 q := by
  intro q hq
  rcases hq with (hq | hq) | hq
  · exact .inl hq
  · exact .inr (by omega)
  · exact .inr (by omega)
theorem PnAt.grow {w : World} {g : Nat} {wk : List Sp} {b : Nat} {G G' : Nat → Prop} (h : PnAt w g wk b G) (hG : ∀ q, G q → G' q) (hb : ¬ G' b) : PnAt w g wk b G' := by
  obtain ⟨A, k, hp⟩ := h.pl
  exact ⟨⟨A, k, hp.mono hG⟩, h.lz.mono hG, hG _ h.gG, hb, h.wk⟩
def GetP (g : Nat) (wk : List Sp) (b : Nat) (G : Nat → Prop) (w : World) (e : Ending) (w' : World) : Prop :=
  ∃ A c, e = .returned (.slice A (wk.length + 1) c) ∧ Rd w' (More G w w') A (wk.length + 1) ((sumsN wk wk.length).map V64) ∧ PnAt w' g wk b (More G w w') ∧ Touch (fun q => q = b) w w'
theorem Rd.near_ {w : World} {F : Nat → Prop} {A : Option Addr} {n : Nat} {xs : List Value} (h : Rd w F A n xs) : Rd w (fun k => F k ∧ k < w.heap.size) A n xs :=
  ⟨h.1, fun hn => by obtain ⟨g, off, e, hl, hf, hc⟩ := h.2 hn; exact ⟨g, off, e, hl, ⟨hf, hl⟩, hc⟩⟩
theorem GetP.mk {g : Nat} {wk : List Sp} {b : Nat} {G : Nat → Prop} {w w' : World} (h : PnAt w g wk b G) (ht : Touch (fun q => q = b) w w') (sm ak : Int) (A : Option Addr) (c n : Nat) (hn : n = wk.length + 1)
    (hb : Blk w' b 210 (lzC 1 0 sm 1 ak .nilFunc (.slice A n c))) (hr : Rd w' (More G w w') A n ((sumsN wk wk.length).map V64)) : GetP g wk b G w (.returned (.slice A n c)) w' := by
  subst hn
  have hGb : ∀ q, G q → ¬ q = b := fun q hq e => by subst e; exact h.nb hq
  obtain ⟨A1, k1, hp⟩ := h.pl
  have hbl := h.lz.lt
  exact ⟨A, c, rfl, hr, ⟨⟨A1, k1, (hp.touch ht (hGb g h.gG) hGb).mono (fun q hq => .inl hq)⟩, .inr ⟨sm, ak, A, c, hb, hr⟩, .inl h.gG, (fun e => by rcases e with e | e; exact h.nb e; omega), h.wk⟩, ht⟩
theorem get_any (g : Nat) (wk : List Sp) (b : Nat) (G : Nat → Prop) (w : World) (h : PnAt w g wk b G) :
    Calls Try.prog 141 #[.pointer (some ⟨b, 0, none⟩)] w (GetP g wk b G w) := by
  obtain ⟨A, k, hp⟩ := h.pl
  have hbl := h.lz.lt
  have HH := Lib.hid h
  have hGb : ∀ q, G q → ¬ q = b := fun q hq e => by subst e; exact h.nb hq
  have hgb : g ≠ b := hGb g h.gG
  have hw := h.wk
  have hmf : ∀ (fn : Fn) (first cap : Array Value) (w : World), (Instr.makeFunc fn first cap).run Try.prog w = .ok (.func fn first cap) w := fun _ _ _ _ => rfl
  rcases h.lz with ⟨sm, ak, hb⟩ | ⟨sm, ak, A0, c0, hb, hr⟩
  · have q4 := hb.cell 4
    simp [lzC] at q4
    have z4 := hb.frozen 4
    have HT1 := Lib.hid (fun s : Int => (Touch.refl (fun q => q = b) w).set (b := b) (o := 4) (fun _ => rfl) (.int .i64 s))
    have HF := Lib.hid (fun s : Int => do_first b g sm s wk A k G (w.setCell ⟨b, 4, none⟩ (.int .i64 s)) (by simpa [lzC] using hb.set_ 4 (.int .i64 s)) (hp.touch (HT1.out s) hgb hGb) hgb hGb hw)
    have HL := Lib.hid (sumsN_len wk wk.length)
    generalize hLL : sumsN wk wk.length = L at *
    have HLL := Lib.hid hLL
    have HG := Lib.hid hGb
    clear hp hw hb h hGb hLL
    go_enter Try.func141, Try.ntmps141
    go_wp2_with (first
      | (go_at_call 150; go_must (refine (iadd_any _ ak 1 _ q4 z4).mono ?_); rintro e w1 ⟨rfl, rfl⟩; generalize IntKind.i64.wrap (ak + 1) = s)
      | (go_at_call 151; go_must (refine (HF.out s).mono ?_); rintro e w2 ⟨A2, c2, rfl, h2, r2, t2⟩; have HQ := Lib.hid (And.intro h2 (And.intro r2 t2)); have q6 := h2.cell 6; simp [lzC] at q6; clear h2 r2 t2))
    go_ret
    obtain ⟨h2, r2, t2⟩ := HQ.out
    have ht := (HT1.out s).trans t2 (fun _ _ e => e)
    have s1 := (HT1.out s).size
    refine GetP.mk HH.out ht sm s A2 c2 L.length HL.out h2 (by rw [HLL.out]; exact r2.near_.mono (fun q hq => .inr ⟨by have := hq.1; omega, hq.2⟩))
  · have q4 := hb.cell 4
    simp [lzC] at q4
    have z4 := hb.frozen 4
    have HT1 := Lib.hid (fun s : Int => (Touch.refl (fun q => q = b) w).set (b := b) (o := 4) (fun _ => rfl) (.int .i64 s))
    have HB1 := Lib.hid (fun s : Int => (show Blk (w.setCell ⟨b, 4, none⟩ (.int .i64 s)) b 210 (lzC 1 0 sm 1 s .nilFunc (.slice A0 (wk.length + 1) c0)) by simpa [lzC] using hb.set_ 4 (.int .i64 s)))
    have HG := Lib.hid hGb
    have HR := Lib.hid hr
    clear hp hw hb h hGb hr
    go_enter Try.func141, Try.ntmps141
    go_wp2_with (first
      | (go_at_call 150; go_must (refine (iadd_any _ ak 1 _ q4 z4).mono ?_); rintro e w1 ⟨rfl, rfl⟩; generalize IntKind.i64.wrap (ak + 1) = s; have q6 := (HB1.out s).cell 6; simp [lzC] at q6)
      | (go_at_call 151; go_must (refine (do_done _ _ _ (by exact ((HB1.out s).cell 0).trans (by simp [lzC]))).mono ?_); rintro e w2 ⟨rfl, rfl⟩))
    go_ret
    exact GetP.mk HH.out (HT1.out s) sm s A0 c0 _ rfl (HB1.out s) ((HR.out.touch (HT1.out s) HG.out).mono (fun q hq => .inl hq))
end Go.Proofs.Ytcblbjhhlnmkjaa
end

section
namespace Go.Proofs.Ytcblbjhhlnmkjaa
open Go.RowKit Cal
set_option maxHeartbeats 4000000
set_option maxRecDepth 100000
set_option linter.unusedVariables false
attribute [local irreducible] wpPlan

theorem wnone_any (g : Nat) (wk : List Sp) (A : Option Addr) (k b : Nat) (F : Nat → Prop) (w : World) (h : PlAt w g wk A k b F) :
    Calls Try.prog 140 #[.pointer (some ⟨g, 0, none⟩)] w fun e w' => e = .returned (.bool false) ∧ w = w' := by
  have q := h.blk.cell 1
  simp at q
  clear h
  go_enter Try.func140, Try.ntmps140
  go_wp2
  go_ret
  exact ⟨rfl, rfl⟩
def sgn (b : Bool) : Int := if b then -1 else 1
theorem at_fn (f t x : Int) (w : World) : Calls Try.prog 158 #[.agg #[.int .i64 f, .int .i64 t], .int .i64 x] w fun e w' => e = .returned (.int .i64 (sgn (decide (t ≤ x)))) ∧ Touch (fun _ => False) w w' := by
  have HT := Lib.hid ((Touch.refl (fun _ => False) w).alloc (.cells #[.int .i64 f, .int .i64 t] 165))
  by_cases h : t ≤ x
  · go_enter Try.func158, Try.ntmps158
    go_wp2
    go_ret
    exact ⟨ret_int (by rw [decide_eq_true h]; rfl), HT.out⟩
  · go_enter Try.func158, Try.ntmps158
    go_wp2
    go_ret
    exact ⟨ret_int (by rw [decide_eq_false (by omega)]; rfl), HT.out⟩
def BsP (l : List Sp) (x : Int) (w : World) (e : Ending) (w' : World) : Prop := ∃ i : Nat, AtP l x i ∧ e = .returned (.tuple #[.int .i64 i, .bool false]) ∧ Touch (fun _ => False) w w'
theorem bsf_any (F : Nat → Prop) (A : Option Addr) (c : Nat) (l : List Sp) (x : Int) (w : World) (hr : SpR w F A l.length l) (hrow : Row 0 l) (hn : l.length ≤ 1000000) :
    Calls Try.prog 157 #[.slice A l.length c, .int .i64 x, .func (.func 158) #[] #[]] w (BsP l x w) := by
  have HR := Lib.hid hr
  have HS := Lib.hid (fun (i j : Nat) (s s' : Sp) (h1 : l[i]? = some s) (h2 : l[j]? = some s') (h3 : i < j) => Row.sorted hrow h1 h2 h3)
  have HE := Lib.hid (fun (i : Nat) (s : Sp) (h1 : l[i]? = some s) => Row.getE hrow h1)
  clear hr hrow
  go_enter Try.func157, Try.ntmps157
  go_wp2_with fail
  go_loopw [9, 10] (fun lo hi wr => ∃ i j : Nat, lo = .int .i64 i ∧ hi = .int .i64 j ∧ i ≤ j ∧ j ≤ l.length ∧ (∀ q s, l[q]? = some s → q < i → s.t ≤ x) ∧ (∀ q s, l[q]? = some s → j ≤ q → ¬ s.t ≤ x) ∧ Touch (fun _ => False) w wr) (fun lo hi _ => (intOf hi - intOf lo).toNat)
  case atStart => exact ⟨0, l.length, rfl, rfl, by omega, by omega, (fun q s h1 h2 => by omega), (fun q s h1 h2 => by have := (List.getElem?_eq_some_iff.1 h1).1; omega), Touch.refl _ _⟩
  case round =>
    obtain ⟨i, j, rfl, rfl, hij, hj, h1, h2, hT⟩ := hrel
    have H1 := Lib.hid h1
    have H2 := Lib.hid h2
    have HT := Lib.hid hT
    clear h1 h2 hT
    by_cases hlt : i < j
    · have hml : (i + j) / 2 < l.length := by omega
      have ha : l[(i + j) / 2]? = some (l[(i + j) / 2]'hml) := List.getElem?_eq_getElem _
      obtain ⟨g, off, rfl, hg, -, hc0, hc1⟩ := (HR.out.touch HT.out (fun _ _ e => e)).at_ ha
      have HA := Lib.hid ha
      generalize l[(i + j) / 2]'hml = s at *
      obtain ⟨f, t⟩ := s
      simp only at hc0 hc1
      clear ha
      by_cases htx : t ≤ x
      · go_wp2_with (go_at_call 158; go_must (refine (at_fn f t x _).mono ?_); rintro e w1 ⟨rfl, t1⟩; rw [show sgn (decide (t ≤ x)) = -1 by rw [decide_eq_true htx]; rfl]; have HT1 := Lib.hid (HT.out.trans t1 (fun _ _ e => e)); clear t1)
        go_roundw
        case rel =>
          refine ⟨(i + j) / 2 + 1, j, by rw [show ((i : Int) + (j : Int)) / 2 + 1 = (((i + j) / 2 + 1 : Nat) : Int) by omega], rfl, by omega, hj, fun q s hq hqi => ?_, ?_, HT1.out⟩
          · rcases Nat.lt_or_ge q ((i + j) / 2) with hlt' | hge
            · have := HS.out q _ s _ hq HA.out hlt'
              have := HE.out _ _ HA.out
              simp only at *
              omega
            · have : q = (i + j) / 2 := by omega
              subst this
              have := HA.out
              rw [hq] at this
              injection this with this
              subst this
              exact htx
          · intro q s hq hqj
            have := H2.out q s hq hqj
            omega
        case measure => simp [intOf]; omega
      · go_wp2_with (go_at_call 158; go_must (refine (at_fn f t x _).mono ?_); rintro e w1 ⟨rfl, t1⟩; rw [show sgn (decide (t ≤ x)) = 1 by rw [decide_eq_false (by omega)]; rfl]; have HT1 := Lib.hid (HT.out.trans t1 (fun _ _ e => e)); clear t1)
        go_roundw
        case rel =>
          refine ⟨i, (i + j) / 2, rfl, by rw [show ((i : Int) + (j : Int)) / 2 = (((i + j) / 2 : Nat) : Int) by omega], by omega, by omega, H1.out, fun q s hq hqj => ?_, HT1.out⟩
          rcases Nat.lt_or_ge ((i + j) / 2) q with hlt' | hge
          · have := HS.out _ q _ s HA.out hq hlt'
            have := HE.out _ _ hq
            simp only at *
            omega
          · have : q = (i + j) / 2 := by omega
            subst this
            have := HA.out
            rw [hq] at this
            injection this with this
            subst this
            simp only
            omega
        case measure => simp [intOf]; omega
    · obtain rfl : j = i := by omega
      have HP := Lib.hid (show AtP l x j from ⟨hj, fun q s hq => ⟨H1.out q s hq, fun h => by
        rcases Nat.lt_or_ge q j with h' | h'
        · exact h'
        · have := H2.out q s hq h'; omega⟩⟩)
      by_cases hjl : j < l.length
      · have ha : l[j]? = some (l[j]'hjl) := List.getElem?_eq_getElem _
        obtain ⟨g, off, rfl, hg, -, hc0, hc1⟩ := (HR.out.touch HT.out (fun _ _ e => e)).at_ ha
        have hv := HP.out.2 j _ ha
        generalize l[j]'hjl = s at *
        obtain ⟨f, t⟩ := s
        simp only at hc0 hc1 hv
        have htx : ¬ t ≤ x := fun h => by have := hv.2 h; omega
        clear ha hv
        go_wp2_with (go_at_call 158; go_must (refine (at_fn f t x _).mono ?_); rintro e w1 ⟨rfl, t1⟩; rw [show sgn (decide (t ≤ x)) = 1 by rw [decide_eq_false (by omega)]; rfl]; have HT1 := Lib.hid (HT.out.trans t1 (fun _ _ e => e)); clear t1)
        go_ret2
        exact ⟨j, HP.out, rfl, HT1.out⟩
      · obtain rfl : j = l.length := by omega
        go_wp2
        go_ret2
        exact ⟨l.length, HP.out, rfl, HT.out⟩
theorem at_any (g : Nat) (wk : List Sp) (A : Option Addr) (k b : Nat) (F : Nat → Prop) (x : Int) (w : World) (h : PlAt w g wk A k b F) (hw : Week wk) :
    Calls Try.prog 145 #[.pointer (some ⟨g, 0, none⟩), .int .i64 x] w fun e w' => ∃ i : Nat, AtP wk x i ∧ e = .returned (.int .i64 i) ∧ Touch (fun _ => False) w w' := by
  have q := h.blk.cell 0
  simp at q
  have HB := Lib.hid (bsf_any F A k wk x w h.row hw.1 (by have := hw.2.1; omega))
  clear h hw
  go_enter Try.func145, Try.ntmps145
  go_wp2_with (go_at_call 157; go_must (refine HB.out.mono ?_); rintro e w1 ⟨i, hi, rfl, t1⟩; have HI := Lib.hid hi; have HT1 := Lib.hid t1; clear hi t1)
  go_ret
  exact ⟨i, HI.out, rfl, HT1.out⟩
end Go.Proofs.Ytcblbjhhlnmkjaa
end

section
namespace Go.Proofs.Ytcblbjhhlnmkjaa
open Go.RowKit Cal
set_option maxHeartbeats 4000000
set_option maxRecDepth 100000
set_option linter.unusedVariables false
attribute [local irreducible] wpPlan

theorem SpR.at_or {w : World} {F : Nat → Prop} {A : Option Addr} {n : Nat} {l : List Sp} (h : SpR w F A n l) (i : Nat) :
    (∃ g off f t, A = some ⟨g, off, none⟩ ∧ l[i]? = some ⟨f, t⟩ ∧ i < n ∧ w.cell? ⟨g, off + i * 2, none⟩ = some (.int .i64 f) ∧ w.cell? ⟨g, off + i * 2 + 1, none⟩ = some (.int .i64 t)) ∨ (¬ i < n ∧ l[i]? = none) := by
  by_cases hl : i < l.length
  · obtain ⟨g, off, e, -, -, h0, h1⟩ := h.at_ (List.getElem?_eq_getElem hl)
    exact .inl ⟨g, off, l[i].f, l[i].t, e, List.getElem?_eq_getElem hl, by rw [← h.1]; exact hl, h0, h1⟩
  · exact .inr ⟨by rw [← h.1]; exact hl, List.getElem?_eq_none (by omega)⟩
theorem Rd.sum {w : World} {F : Nat → Prop} {A : Option Addr} {n : Nat} {wk : List Sp} (h : Rd w F A n ((sumsN wk wk.length).map V64)) {i : Nat} (hi : i ≤ wk.length) :
    ∃ g off, A = some ⟨g, off, none⟩ ∧ g < w.heap.size ∧ w.cell? ⟨g, off + i, none⟩ = some (.int .i64 (longS (wk.take i))) := by
  have hn : n = wk.length + 1 := by have := h.1; rw [List.length_map, sumsN_len] at this; omega
  obtain ⟨g, off, e, hg, -, hc⟩ := h.2 (by omega)
  refine ⟨g, off, e, hg, hc i _ ?_⟩
  rw [List.getElem?_map, sumsN_get wk wk.length i hi]; rfl
/-- What a call that may fill the lazy cell leaves. -/
def PnInt (g : Nat) (wk : List Sp) (b : Nat) (G : Nat → Prop) (v : Int) (w : World) (e : Ending) (w' : World) : Prop :=
  e = .returned (.int .i64 v) ∧ PnAt w' g wk b (More G w w') ∧ Touch (fun q => q = b) w w'
theorem total_any (g : Nat) (wk : List Sp) (b : Nat) (G : Nat → Prop) (w : World) (h : PnAt w g wk b G) :
    Calls Try.prog 130 #[.pointer (some ⟨g, 0, none⟩)] w (PnInt g wk b G (len wk) w) := by
  obtain ⟨A, k, hp⟩ := h.pl
  have HN := Lib.hid (wnone_any g wk A k b G w hp)
  have q0 := hp.blk.cell 0; have q1 := hp.blk.cell 1
  simp at q0 q1
  have hgl := hp.blk.lt
  have hgb : g ≠ b := fun e => h.nb (e ▸ h.gG)
  have HG := Lib.hid (fun w1 (hh : PnAt w1 g wk b G) => get_any g wk b G w1 hh)
  have HH := Lib.hid h
  have HL := Lib.hid (len_sums h.wk)
  clear h hp
  go_enter Try.func130, Try.ntmps130
  go_wp2_with (go_at_call 140; go_must (refine HN.out.mono ?_); rintro e w0 ⟨rfl, rfl⟩)
  refine wp_region_plan [(0, 0), (0, 1), (0, 2), (0, 3), (1, 5), (1, 6), (1, 7), (1, 8), (1, 9), (2, 4), (0, 10), (0, 11), (0, 12)] (fun q => q = b) (by kernel_rfl) (by kernel_rfl) (fun c a d v w h => by cases d <;> exact h) ?_
  iterate 4
    refine plan_s1 rfl (by rfl) (fun Kc hKc => ?_)
    go_simp
    first
      | (refine hKc _ ?_)
    clear hKc Kc
  iterate 5
    first
      | (apply plan_h
         · rfl
         · rfl
         · intro wh hT
           have hf0 := (hT.cell (p := ⟨g, 0, none⟩) hgl hgb).trans q0
           go_simp
           try rfl
         go_frame)
      | (refine plan_hn rfl (by rfl) ?_; go_frame)
  refine plan_a1 rfl (by rfl) (fun Kc hKc => ?_)
  go_simp
  refine (HG.out _ (by exact HH.out.touch ((Touch.refl (fun _ => False) _).drew) (fun e => e) (fun _ _ e => e))).mono ?_
  rintro e w1 ⟨A1, c1, rfl, r1, p1, t1⟩
  refine hKc _ _ ⟨t1, ?_⟩
  clear hKc Kc
  obtain ⟨g1, o1, rfl, -, hx⟩ := r1.sum (i := wk.length) (by omega)
  rw [HL.out] at hx
  have HP1 := Lib.hid p1
  have HT1 := Lib.hid t1
  clear r1 p1 t1
  have hlt : (wk.length : Int) < (wk.length : Int) + 1 := by omega
  have hl0 : (0 : Int) ≤ (wk.length : Int) := by omega
  iterate 3
    refine plan_s1 rfl (by rfl) (fun Kc hKc => ?_)
    go_simp
    first
      | (refine hKc _ ?_)
    clear hKc Kc
  refine plan_done ?_
  clear hlt
  go_wp2
  go_ret
  exact ⟨rfl, HP1.out, (Touch.refl _ w).drew.trans HT1.out (fun _ _ e => e)⟩
end Go.Proofs.Ytcblbjhhlnmkjaa
end
