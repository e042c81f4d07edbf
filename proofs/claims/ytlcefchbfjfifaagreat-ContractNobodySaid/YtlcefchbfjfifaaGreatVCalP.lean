/- Package lazy: Do, Get; a plan and its lazy cell. -/
import Derived.Test.YtlcefchbfjfifaaGreatVCalO
namespace Go.Proofs.YtlcefchbfjfifaaGreat
open Go.RowKit Cal
set_option maxHeartbeats 4000000
set_option maxRecDepth 100000
set_option linter.unusedVariables false

theorem do_first (b g : Nat) (sm ak : Int) (wk : List Sp) (A : Option Addr) (k : Nat) (F : Nat → Prop) (w : World) (hb : Blk w b 217 (lzC 0 0 sm 0 ak (sumsF g) (.slice none 0 0))) (h : PlAt w g wk A k b F) (hgb : g ≠ b) (hF : ∀ q, F q → q ≠ b) (hw : Week wk) :
    Calls Tryz.prog 94 #[.pointer (some ⟨b, 0, none⟩), .func (.func 124) #[.pointer (some ⟨b, 0, none⟩)] #[]] w (FillP b 1 0 sm ak (sumsN wk wk.length) w) := by
  have q0 := hb.cell 0
  simp [lzC] at q0
  have HS := Lib.hid (slow_any b g sm ak wk A k F w hb h hgb hF hw)
  generalize sumsN wk wk.length = L at *
  have hnot : ∀ (x : Bool) (w : World), (Op.unary .not (.bool x)).run Tryz.prog w = .ok (.bool (!x)) w := fun _ _ => rfl
  clear h hw hb hF
  go_enter Tryz.func94, Tryz.ntmps94
  go_wp2_with (first
    | (go_at_call 120; go_must (refine (bload_any _ 0 _ q0).mono ?_); rintro e w1 ⟨rfl, rfl⟩)
    | (go_at_call 121; go_must (refine HS.out.mono ?_); rintro e w2 ⟨A2, c2, rfl, h2, r2, t2⟩; have HQ := Lib.hid (And.intro h2 (And.intro r2 t2)); clear h2 r2 t2))
  go_end0
  obtain ⟨h2, r2, t2⟩ := HQ.out
  exact ⟨A2, c2, rfl, h2, r2, t2⟩
theorem do_done (a : Addr) (fv : Value) (w : World) (h0 : w.cell? a = some (.int .u32 1)) :
    Calls Tryz.prog 94 #[.pointer (some a), fv] w fun e w' => e = .returned (.tuple #[]) ∧ w' = w := by
  have hnot : ∀ (x : Bool) (w : World), (Op.unary .not (.bool x)).run Tryz.prog w = .ok (.bool (!x)) w := fun _ _ => rfl
  go_enter Tryz.func94, Tryz.ntmps94
  go_wp2_with (go_at_call 120; go_must (refine (bload_any _ 1 _ h0).mono ?_); rintro e w1 ⟨rfl, rfl⟩)
  go_end0
  exact ⟨rfl, rfl⟩
/-- What a lazy cell holds. -/
def LzAt (w : World) (b g : Nat) (wk : List Sp) (G : Nat → Prop) : Prop :=
  (∃ sm ak, Blk w b 217 (lzC 0 0 sm 0 ak (sumsF g) (.slice none 0 0))) ∨
  (∃ sm ak A c, Blk w b 217 (lzC 1 0 sm 1 ak .nilFunc (.slice A (wk.length + 1) c)) ∧ Rd w G A (wk.length + 1) ((sumsN wk wk.length).map V64))
/-- A plan at block g, its lazy cell at block b; all the rest lies in G. -/
structure PnAt (w : World) (g : Nat) (wk : List Sp) (b : Nat) (G : Nat → Prop) : Prop where
  pl : ∃ A k, PlAt w g wk A k b G
  lz : LzAt w b g wk G
  gG : G g
  nb : ¬ G b
  wk : Week wk
theorem LzAt.lt {w : World} {b g : Nat} {wk : List Sp} {G : Nat → Prop} (h : LzAt w b g wk G) : b < w.heap.size := by
  rcases h with ⟨sm, ak, hb⟩ | ⟨sm, ak, A, c, hb, _⟩ <;> exact hb.lt
theorem LzAt.touch {w w' : World} {b g : Nat} {wk : List Sp} {G S : Nat → Prop} (h : LzAt w b g wk G) (ht : Touch S w w') (hb : ¬ S b) (hG : ∀ q, G q → ¬ S q) : LzAt w' b g wk G := by
  rcases h with ⟨sm, ak, h1⟩ | ⟨sm, ak, A, c, h1, h2⟩
  · exact .inl ⟨sm, ak, ht.blk h1 hb⟩
  · exact .inr ⟨sm, ak, A, c, ht.blk h1 hb, h2.touch ht hG⟩
theorem LzAt.mono {w : World} {b g : Nat} {wk : List Sp} {G G' : Nat → Prop} (h : LzAt w b g wk G) (hG : ∀ q, G q → G' q) : LzAt w b g wk G' := by
  rcases h with ⟨sm, ak, h1⟩ | ⟨sm, ak, A, c, h1, h2⟩
  · exact .inl ⟨sm, ak, h1⟩
  · exact .inr ⟨sm, ak, A, c, h1, h2.mono hG⟩
theorem PnAt.touch {w w' : World} {g : Nat} {wk : List Sp} {b : Nat} {G S : Nat → Prop} (h : PnAt w g wk b G) (ht : Touch S w w') (hb : ¬ S b) (hG : ∀ q, G q → ¬ S q) : PnAt w' g wk b G := by
  obtain ⟨A, k, hp⟩ := h.pl
  exact ⟨⟨A, k, hp.touch ht (hG g h.gG) hG⟩, h.lz.touch ht hb hG, h.gG, h.nb, h.wk⟩
theorem PlAt.mono {w : World} {g : Nat} {wk : List Sp} {A : Option Addr} {k b : Nat} {F F' : Nat → Prop} (h : PlAt w g wk A k b F) (hF : ∀ q, F q → F' q) : PlAt w g wk A k b F' := ⟨h.blk, h.row.mono hF⟩
/-- The blocks that grow behind a Get. -/
def More (G : Nat → Prop) (w w' : World) : Nat → Prop := fun q => G q ∨ (w.heap.size ≤ q ∧ q < w'.heap.size)
theorem PnAt.more {w w' : World} {g : Nat} {wk : List Sp} {b : Nat} {G S : Nat → Prop} (h : PnAt w g wk b G) (ht : Touch S w w') (hb : ¬ S b) (hG : ∀ q, G q → ¬ S q) : PnAt w' g wk b (More G w w') := by
  have h' := h.touch ht hb hG
  obtain ⟨A, k, hp⟩ := h'.pl
  have hbl := h.lz.lt
  exact ⟨⟨A, k, hp.mono (fun q hq => .inl hq)⟩, h'.lz.mono (fun q hq => .inl hq), .inl h'.gG, (fun e => by rcases e with e | e; exact h.nb e; omega), h.wk⟩
theorem more_trans {G : Nat → Prop} {w w1 w2 : World} (h1 : w.heap.size ≤ w1.heap.size) (h2 : w1.heap.size ≤ w2.heap.size) : ∀ q, More (More G w w1) w1 w2 q → More G w w2 q := by
  intro q hq
  rcases hq with (hq | hq) | hq
  · exact .inl hq
  · exact .inr (by omega)
  · exact .inr (by omega)
theorem PnAt.grow {w : World} {g : Nat} {wk : List Sp} {b : Nat} {G G' : Nat → Prop} (h : PnAt w g wk b G) (hG : ∀ q, G q → G' q) (hb : ¬ G' b) : PnAt w g wk b G' := by
  obtain ⟨A, k, hp⟩ := h.pl
  exact ⟨⟨A, k, hp.mono hG⟩, h.lz.mono hG, hG _ h.gG, hb, h.wk⟩
def GetP (g : Nat) (wk : List Sp) (b : Nat) (G : Nat → Prop) (w : World) (e : Ending) (w' : World) : Prop :=
  ∃ A c, e = .returned (.slice A (wk.length + 1) c) ∧ Rd w' (More G w w') A (wk.length + 1) ((sumsN wk wk.length).map V64) ∧ PnAt w' g wk b (More G w w') ∧ Touch (fun q => q = b) w w'
theorem Rd.near_ {w : World} {F : Nat → Prop} {A : Option Addr} {n : Nat} {xs : List Value} (h : Rd w F A n xs) : Rd w (fun k => F k ∧ k < w.heap.size) A n xs :=
  ⟨h.1, fun hn => by obtain ⟨g, off, e, hl, hf, hc⟩ := h.2 hn; exact ⟨g, off, e, hl, ⟨hf, hl⟩, hc⟩⟩
theorem GetP.mk {g : Nat} {wk : List Sp} {b : Nat} {G : Nat → Prop} {w w' : World} (h : PnAt w g wk b G) (ht : Touch (fun q => q = b) w w') (sm ak : Int) (A : Option Addr) (c n : Nat) (hn : n = wk.length + 1)
    (hb : Blk w' b 217 (lzC 1 0 sm 1 ak .nilFunc (.slice A n c))) (hr : Rd w' (More G w w') A n ((sumsN wk wk.length).map V64)) : GetP g wk b G w (.returned (.slice A n c)) w' := by
  subst hn
  have hGb : ∀ q, G q → ¬ q = b := fun q hq e => by subst e; exact h.nb hq
  obtain ⟨A1, k1, hp⟩ := h.pl
  have hbl := h.lz.lt
  exact ⟨A, c, rfl, hr, ⟨⟨A1, k1, (hp.touch ht (hGb g h.gG) hGb).mono (fun q hq => .inl hq)⟩, .inr ⟨sm, ak, A, c, hb, hr⟩, .inl h.gG, (fun e => by rcases e with e | e; exact h.nb e; omega), h.wk⟩, ht⟩
theorem get_any (g : Nat) (wk : List Sp) (b : Nat) (G : Nat → Prop) (w : World) (h : PnAt w g wk b G) :
    Calls Tryz.prog 103 #[.pointer (some ⟨b, 0, none⟩)] w (GetP g wk b G w) := by
  obtain ⟨A, k, hp⟩ := h.pl
  have hbl := h.lz.lt
  have HH := Lib.hid h
  have hGb : ∀ q, G q → ¬ q = b := fun q hq e => by subst e; exact h.nb hq
  have hgb : g ≠ b := hGb g h.gG
  have hw := h.wk
  have hmf : ∀ (fn : Fn) (first cap : Array Value) (w : World), (Instr.makeFunc fn first cap).run Tryz.prog w = .ok (.func fn first cap) w := fun _ _ _ _ => rfl
  rcases h.lz with ⟨sm, ak, hb⟩ | ⟨sm, ak, A0, c0, hb, hr⟩
  · have q4 := hb.cell 4
    simp [lzC] at q4
    have z4 := hb.frozen 4
    have HT1 := Lib.hid (fun s : Int => (Touch.refl (fun q => q = b) w).set (b := b) (o := 4) (fun _ => rfl) (.int .i64 s))
    have HF := Lib.hid (fun s : Int => do_first b g sm s wk A k G (w.setCell ⟨b, 4, none⟩ (.int .i64 s)) (by simpa [lzC] using hb.set_ 4 (.int .i64 s)) (hp.touch (HT1.out s) hgb hGb) hgb hGb hw)
    have HL := Lib.hid (sumsN_len wk wk.length)
    generalize hLL : sumsN wk wk.length = L at *
    have HLL := Lib.hid hLL
    have HG := Lib.hid hGb
    clear hp hw hb h hGb hLL
    go_enter Tryz.func103, Tryz.ntmps103
    go_wp2_with (first
      | (go_at_call 93; go_must (refine (iadd_any _ ak 1 _ q4 z4).mono ?_); rintro e w1 ⟨rfl, rfl⟩; generalize IntKind.i64.wrap (ak + 1) = s)
      | (go_at_call 94; go_must (refine (HF.out s).mono ?_); rintro e w2 ⟨A2, c2, rfl, h2, r2, t2⟩; have HQ := Lib.hid (And.intro h2 (And.intro r2 t2)); have q6 := h2.cell 6; simp [lzC] at q6; clear h2 r2 t2))
    go_ret
    obtain ⟨h2, r2, t2⟩ := HQ.out
    have ht := (HT1.out s).trans t2 (fun _ _ e => e)
    have s1 := (HT1.out s).size
    refine GetP.mk HH.out ht sm s A2 c2 L.length HL.out h2 (by rw [HLL.out]; exact r2.near_.mono (fun q hq => .inr ⟨by have := hq.1; omega, hq.2⟩))
  · have q4 := hb.cell 4
    simp [lzC] at q4
    have z4 := hb.frozen 4
    have HT1 := Lib.hid (fun s : Int => (Touch.refl (fun q => q = b) w).set (b := b) (o := 4) (fun _ => rfl) (.int .i64 s))
    have HB1 := Lib.hid (fun s : Int => (show Blk (w.setCell ⟨b, 4, none⟩ (.int .i64 s)) b 217 (lzC 1 0 sm 1 s .nilFunc (.slice A0 (wk.length + 1) c0)) by simpa [lzC] using hb.set_ 4 (.int .i64 s)))
    have HG := Lib.hid hGb
    have HR := Lib.hid hr
    clear hp hw hb h hGb hr
    go_enter Tryz.func103, Tryz.ntmps103
    go_wp2_with (first
      | (go_at_call 93; go_must (refine (iadd_any _ ak 1 _ q4 z4).mono ?_); rintro e w1 ⟨rfl, rfl⟩; generalize IntKind.i64.wrap (ak + 1) = s; have q6 := (HB1.out s).cell 6; simp [lzC] at q6)
      | (go_at_call 94; go_must (refine (do_done _ _ _ (by exact ((HB1.out s).cell 0).trans (by simp [lzC]))).mono ?_); rintro e w2 ⟨rfl, rfl⟩))
    go_ret
    exact GetP.mk HH.out (HT1.out s) sm s A0 c0 _ rfl (HB1.out s) ((HR.out.touch (HT1.out s) HG.out).mono (fun q hq => .inl hq))
end Go.Proofs.YtlcefchbfjfifaaGreat
