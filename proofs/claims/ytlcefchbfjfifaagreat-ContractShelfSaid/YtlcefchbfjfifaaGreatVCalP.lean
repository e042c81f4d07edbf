/- sync.Once, sync/atomic and the lock, at the cells of a lazy cell. Package lazy: fill, Get. Package lazy: Do, Get; a plan and its lazy cell. -/
import Derived.Test.YtlcefchbfjfifaaGreatVCalK
import Derived.Tactics
import Derived.Tactics2
import Derived.Defers
import Derived.Laws.Pointers
import Derived.Laws.LoneSync
import Derived.RegionTactic
import Derived.RegionCalls
import Derived.Laws.EntriesVeiled
section
namespace Go.Proofs.YtlcefchbfjfifaaGreat
open Go.RowKit Cal
set_option maxHeartbeats 4000000
set_option maxRecDepth 100000
set_option linter.unusedVariables false

theorem disable (w : World) : (callFunc 161 #[]).run Tryz.prog w = .ok (.value (.tuple #[])) w := run_call_mark0 Tryz.func161 (by kernel_rfl) (by kernel_rfl) (by kernel_rfl) .disable (by kernel_rfl) w
theorem enable (w : World) : (callFunc 163 #[]).run Tryz.prog w = .ok (.value (.tuple #[])) w := run_call_mark0 Tryz.func163 (by kernel_rfl) (by kernel_rfl) (by kernel_rfl) .enable (by kernel_rfl) w
theorem acquire (a : Addr) (w : World) : (callFunc 164 #[.pointer (some a)]).run Tryz.prog w = .ok (.value (.tuple #[])) w := run_call_marked Tryz.func164 (by kernel_rfl) (by kernel_rfl) (by kernel_rfl) .acquire (by kernel_rfl) a w
theorem releaseMerge (a : Addr) (w : World) : (callFunc 166 #[.pointer (some a)]).run Tryz.prog w = .ok (.value (.tuple #[])) w := run_call_marked Tryz.func166 (by kernel_rfl) (by kernel_rfl) (by kernel_rfl) .releaseMerge (by kernel_rfl) a w

/-- '(*sync/atomic.Bool).Store(true)', entered as a deferred call. -/
theorem store_deferred (a : Addr) (x : Value) (u : FrameMode) (w : World) (hc : w.cell? a = some x) (hz : w.frozen? a = false) :
    CallsD Tryz.prog 122 #[.pointer (some a), .bool true] u w fun e u' w' => u' = u ∧ (e = .returned (.tuple #[]) ∧ w' = w.drew.setCell a (.int .u32 1)) := by
  have hc' : w.drew.cell? a = some x := by go_simp
  have hz' : w.drew.frozen? a = false := by go_simp
  have hst := run_call_store (P := Tryz.prog) Tryz.func139 (by kernel_rfl) (by kernel_rfl) (by kernel_rfl) (by kernel_rfl) (k := .u32) (y := 1) hc' hz'
  go_enter_d Tryz.func122, Tryz.ntmps122
  go_wp2
  go_region_calls
  all_goals (go_end0; exact ⟨rfl, rfl⟩)
theorem bstore_any (a : Addr) (x : Value) (w : World) (hc : w.cell? a = some x) (hz : w.frozen? a = false) :
    Calls Tryz.prog 122 #[.pointer (some a), .bool true] w fun e w' => e = .returned (.tuple #[]) ∧ w' = w.drew.setCell a (.int .u32 1) := by
  have hc' : w.drew.cell? a = some x := by go_simp
  have hz' : w.drew.frozen? a = false := by go_simp
  have hst := run_call_store (P := Tryz.prog) Tryz.func139 (by kernel_rfl) (by kernel_rfl) (by kernel_rfl) (by kernel_rfl) (k := .u32) (y := 1) hc' hz'
  go_enter Tryz.func122, Tryz.ntmps122
  go_wp2
  go_region_calls
  all_goals (go_end0; exact ⟨rfl, rfl⟩)
theorem bload_any (a : Addr) (d : Int) (w : World) (hc : w.cell? a = some (.int .u32 d)) :
    Calls Tryz.prog 120 #[.pointer (some a)] w fun e w' => e = .returned (.bool (d != 0)) ∧ w = w' := by
  have hl := run_call_load (P := Tryz.prog) Tryz.func136 (by kernel_rfl) (by kernel_rfl) (by kernel_rfl) .u32 (by kernel_rfl) hc
  go_enter Tryz.func120, Tryz.ntmps120
  go_wp2
  go_ret
  exact ⟨rfl, rfl⟩
theorem iadd_any (a : Addr) (x y : Int) (w : World) (hc : w.cell? a = some (.int .i64 x)) (hz : w.frozen? a = false) :
    Calls Tryz.prog 93 #[.pointer (some a), .int .i64 y] w fun e w' => e = .returned (.int .i64 (IntKind.i64.wrap (x + y))) ∧ w' = w.setCell a (.int .i64 (IntKind.i64.wrap (x + y))) := by
  have hadd := run_call_add (P := Tryz.prog) Tryz.func119 (by kernel_rfl) (by kernel_rfl) (by kernel_rfl) .i64 (by kernel_rfl) (y := y) (s := IntKind.i64.wrap (x + y)) hc hz (by simp [go_sem])
  generalize IntKind.i64.wrap (x + y) = s at *
  go_enter Tryz.func93, Tryz.ntmps93
  go_wp2
  go_ret
  exact ⟨rfl, rfl⟩
/-- The inner lock, free: it is taken. -/
theorem ilock_free (a : Addr) (w : World) (hc : w.cell? a = some (.int .i32 0)) (hz : w.frozen? a = false) :
    Calls Tryz.prog 153 #[.pointer (some a)] w fun e w' => e = .returned (.tuple #[]) ∧ w' = w.setCell a (.int .i32 1) := by
  have hd := disable
  have he := enable
  have ha := acquire
  have hcas := run_call_cas_hit (P := Tryz.prog) Tryz.func162 (by kernel_rfl) (by kernel_rfl) (by kernel_rfl) .i32 (by kernel_rfl) (y := 1) hc hz
  have hc' : (w.setCell a (.int .i32 1)).cell? a = some (.int .i32 1) := World.cell?_setCell_same w a _ hc
  have hcv := run_convert_to_unsafe (P := Tryz.prog) (src := 247) (dst := 251) Tryz.underlying247 Tryz.underlying251 (by kernel_rfl) hc'
  go_enter Tryz.func153, Tryz.ntmps153
  go_wp2
  first | go_end0 | (simp only [Exit.inBlock, Exit.then]; refine bodyPost_ret (results_none rfl _ _ _) rfl ?_) | refine bodyPost_ret (results_none rfl _ _ _) rfl ?_
  exact ⟨rfl, rfl⟩
theorem lock_free (a : Addr) (w : World) (hc : w.cell? a = some (.int .i32 0)) (hz : w.frozen? a = false) :
    Calls Tryz.prog 137 #[.pointer (some a)] w fun e w' => e = .returned (.tuple #[]) ∧ w' = w.setCell a (.int .i32 1) := by
  go_enter Tryz.func137, Tryz.ntmps137
  go_wp2_with (go_at_call 153; go_must (refine (ilock_free _ _ hc hz).mono ?_); rintro e w1 ⟨rfl, rfl⟩)
  go_end0
  exact ⟨rfl, rfl⟩
theorem iunlock_free (a : Addr) (w : World) (hc : w.cell? a = some (.int .i32 1)) (hz : w.frozen? a = false) :
    Calls Tryz.prog 154 #[.pointer (some a)] w fun e w' => e = .returned (.tuple #[]) ∧ w' = w.setCell a (.int .i32 0) := by
  have hd := disable
  have he := enable
  have hr := releaseMerge
  have hadd := run_call_add (P := Tryz.prog) Tryz.func167 (by kernel_rfl) (by kernel_rfl) (by kernel_rfl) .i32 (by kernel_rfl) (y := -1) (s := 0) hc hz (by simp [go_sem]; rfl)
  have hcv := run_convert_to_unsafe (P := Tryz.prog) (src := 247) (dst := 251) Tryz.underlying247 Tryz.underlying251 (by kernel_rfl) hc
  go_enter Tryz.func154, Tryz.ntmps154
  go_wp2
  go_end0
  exact ⟨rfl, rfl⟩
theorem unlock_deferred (a : Addr) (u : FrameMode) (w : World) (hc : w.cell? a = some (.int .i32 1)) (hz : w.frozen? a = false) :
    CallsD Tryz.prog 138 #[.pointer (some a)] u w fun e u' w' => u' = u ∧ (e = .returned (.tuple #[]) ∧ w' = w.setCell a (.int .i32 0)) := by
  go_enter_d Tryz.func138, Tryz.ntmps138
  go_wp2_with (go_at_call 154; go_must (refine (iunlock_free _ _ hc hz).mono ?_); rintro e w1 ⟨rfl, rfl⟩)
  go_end0
  exact ⟨rfl, rfl⟩
end Go.Proofs.YtlcefchbfjfifaaGreat
end

section
namespace Go.Proofs.YtlcefchbfjfifaaGreat
open Go.RowKit Cal
set_option maxHeartbeats 4000000
set_option maxRecDepth 100000
set_option linter.unusedVariables false

/-- The cells of a lazy cell. -/
def lzC (d st sm md : Int) (ak : Int) (bd v : Value) : Array Value := #[.int .u32 d, .int .i32 st, .int .u32 sm, .int .u32 md, .int .i64 ak, bd, v]
def sumsF (g : Nat) : Value := .func (.func 113) #[.pointer (some ⟨g, 0, none⟩)] #[]
def FillP (b : Nat) (d st sm : Int) (ak : Int) (l : List Int) (w : World) (e : Ending) (w' : World) : Prop :=
  ∃ A c, e = .returned (.tuple #[]) ∧ Blk w' b 217 (lzC d st sm 1 ak .nilFunc (.slice A l.length c)) ∧ Rd w' (fun k => w.heap.size ≤ k) A l.length (l.map V64) ∧ Touch (fun q => q = b) w w'
theorem fill_any (b g : Nat) (d st sm ak : Int) (wk : List Sp) (A : Option Addr) (k : Nat) (F : Nat → Prop) (w : World) (hb : Blk w b 217 (lzC d st sm 0 ak (sumsF g) (.slice none 0 0))) (h : PlAt w g wk A k b F) (hw : Week wk) :
    Calls Tryz.prog 124 #[.pointer (some ⟨b, 0, none⟩)] w (FillP b d st sm ak (sumsN wk wk.length) w) := by
  have HS := Lib.hid (sums_any g wk A k b F w h hw)
  generalize sumsN wk wk.length = L at *
  have HB := Lib.hid hb
  have q5 := hb.cell 5
  simp [lzC, sumsF] at q5
  have hbl := hb.lt
  have hfn : ∀ w, (binOp .neq 195 (.func (.func 113) #[.pointer (some ⟨g, 0, none⟩)] #[]) .nilFunc).run Tryz.prog w = .ok (.bool true) w := fun w => by first | rfl | simp [go_sem]
  clear h hw hb
  go_enter Tryz.func124, Tryz.ntmps124
  go_wp2_with (first
    | (go_at_call 113; go_must (refine HS.out.mono ?_); rintro e w1 ⟨A1, c1, rfl, h1, h2, h3, t1⟩; have HQ := Lib.hid (And.intro h3 t1); have HB1 := Lib.hid (t1.blk HB.out (fun e => e)); have p3 := HB1.out.cell 3; have p5 := HB1.out.cell 5; have p6 := HB1.out.cell 6; simp [lzC] at p3 p5 p6; have z3 := HB1.out.frozen 3; have z5 := HB1.out.frozen 5; have z6 := HB1.out.frozen 6; have HB2 := Lib.hid ((HB1.out.set_ 6 (.slice A1 L.length c1)).set_ 5 .nilFunc); clear h1 h2 h3 t1)
    | (go_at_call 122; go_must (refine (bstore_any _ (.int .u32 0) _ (by exact (HB2.out.cell 3).trans (by simp [lzC])) (by exact HB2.out.frozen 3)).mono ?_); rintro e w2 ⟨rfl, rfl⟩))
  go_end0
  obtain ⟨h3, t1⟩ := HQ.out
  have hb3 := HB2.out.set_ 3 (.int .u32 1)
  simp [lzC] at hb3
  have hs : ∀ k, w.heap.size ≤ k → ¬ k = b := fun k hk e => by omega
  refine ⟨A1, c1, rfl, hb3, h3.touch (S := fun q => q = b) ((((Touch.refl (fun q => q = b) w1).set (fun _ => rfl) _).set (fun _ => rfl) _).set (fun _ => rfl) _).drew hs, ?_⟩
  exact ((((t1.mono (S' := fun q => q = b) (fun _ _ e => e.elim)).set (fun _ => rfl) _).set (fun _ => rfl) _).set (fun _ => rfl) _).drew
/-- doSlow, the first time: the function is called. -/
theorem slow_any (b g : Nat) (sm ak : Int) (wk : List Sp) (A : Option Addr) (k : Nat) (F : Nat → Prop) (w : World) (hb : Blk w b 217 (lzC 0 0 sm 0 ak (sumsF g) (.slice none 0 0))) (h : PlAt w g wk A k b F) (hgb : g ≠ b) (hF : ∀ q, F q → q ≠ b) (hw : Week wk) :
    Calls Tryz.prog 121 #[.pointer (some ⟨b, 0, none⟩), .func (.func 124) #[.pointer (some ⟨b, 0, none⟩)] #[]] w (FillP b 1 0 sm ak (sumsN wk wk.length) w) := by
  have HB := Lib.hid hb
  have q0 := hb.cell 0; have q1 := hb.cell 1
  simp [lzC] at q0 q1
  have z1 := hb.frozen 1
  have hb1 := hb.set_ 1 (.int .i32 1)
  have HB1 := Lib.hid (show Blk (w.setCell ⟨b, 1, none⟩ (.int .i32 1)) b 217 (lzC 0 1 sm 0 ak (sumsF g) (.slice none 0 0)) by simpa [lzC] using hb1)
  have ht1 : Touch (fun q => q = b) w (w.setCell ⟨b, 1, none⟩ (.int .i32 1)) := (Touch.refl (fun q => q = b) w).set (fun _ => rfl) _
  have HT1 := Lib.hid ht1
  have HFi := Lib.hid (fill_any b g 0 1 sm ak wk A k F _ HB1.out (h.touch ht1 (fun e => hgb e) hF) hw)
  have p0 := HB1.out.cell 0
  simp [lzC] at p0
  generalize sumsN wk wk.length = L at *
  have hnot : ∀ (x : Bool) (w : World), (Op.unary .not (.bool x)).run Tryz.prog w = .ok (.bool (!x)) w := fun _ _ => rfl
  clear h hw hb hb1 ht1 hF
  go_enter_defers Tryz.func121, Tryz.ntmps121
  go_wp2_with (first
    | (go_at_call 137; go_must (refine (lock_free _ _ q1 z1).mono ?_); rintro e w1 ⟨rfl, rfl⟩)
    | (go_at_call 120; go_must (refine (bload_any _ 0 _ p0).mono ?_); rintro e w1 ⟨rfl, rfl⟩)
    | (go_at_call 124; go_must (refine HFi.out.mono ?_); rintro e w2 ⟨A2, c2, rfl, h2, r2, t2⟩; have HQ := Lib.hid (And.intro h2 (And.intro r2 t2)); clear h2 r2 t2))
  obtain ⟨h2, r2, t2⟩ := HQ.out
  have z0 := h2.frozen 0
  have o0 := h2.cell 0
  simp [lzC] at o0
  have h3 := (show Blk (World.drew w2) b 217 _ from h2).set_ 0 (.int .u32 1)
  have o1 := h3.cell 1
  have y1 := h3.frozen 1
  simp [lzC] at o1
  refine leaves_cons (f := 122) (args := #[.pointer (some ⟨b, 0, none⟩), .bool true]) (by simp) (by simp [go_sem]) ?_
  refine (store_deferred ⟨b, 0, none⟩ (.int .u32 0) .returning _ o0 z0).mono ?_
  rintro e u' w'' ⟨rfl, rfl, rfl⟩
  refine leaves_cons (f := 138) (args := #[.pointer (some ⟨b, 1, none⟩)]) (by simp [settle]) (by simp [go_sem]) ?_
  refine (unlock_deferred ⟨b, 1, none⟩ _ _ o1 y1).mono ?_
  rintro e u' w'' ⟨rfl, rfl, rfl⟩
  have h4 := h3.set_ 1 (.int .i32 0)
  simp [lzC] at h4
  have hs : ∀ q, w.heap.size ≤ q → ¬ q = b := fun q hq e => by have := HB.out.lt; omega
  have tt : Touch (fun q => q = b) w2 ((w2.drew.setCell ⟨b, 0, none⟩ (.int .u32 1)).setCell ⟨b, 1, none⟩ (.int .i32 0)) := ((Touch.refl (fun q => q = b) w2).drew.set (fun _ => rfl) _).set (fun _ => rfl) _
  have fin : FillP b 1 0 sm ak L w (.returned (.tuple #[])) ((w2.drew.setCell ⟨b, 0, none⟩ (.int .u32 1)).setCell ⟨b, 1, none⟩ (.int .i32 0)) :=
    ⟨A2, c2, rfl, h4, (r2.mono (fun q hq => by simpa using hq)).touch tt hs, (HT1.out.trans t2 (fun _ _ e => e)).trans tt (fun _ _ e => e)⟩
  simp [Leaves, settle, results, Tryz.results121]
  exact fin
end Go.Proofs.YtlcefchbfjfifaaGreat
end

section
namespace Go.Proofs.YtlcefchbfjfifaaGreat
open Go.RowKit Cal
set_option maxHeartbeats 4000000
set_option maxRecDepth 100000
set_option linter.unusedVariables false

theorem do_first (b g : Nat) (sm ak : Int) (wk : List Sp) (A : Option Addr) (k : Nat) (F : Nat → Prop) (w : World) (hb : Blk w b 217 (lzC 0 0 sm 0 ak (sumsF g) (.slice none 0 0))) (h : PlAt w g wk A k b F) (hgb : g ≠ b) (hF : ∀ q, F q → q ≠ b) (hw : Week wk) :
    Calls Tryz.prog 94 #[.pointer (some ⟨b, 0, none⟩), .func (.func 124) #[.pointer (some ⟨b, 0, none⟩)] #[]] w (FillP b 1 0 sm ak (sumsN wk wk.length) w) := by
  have q0 := hb.cell 0
  simp [lzC] at q0
  have HS := Lib.hid (slow_any b g sm ak wk A k F w hb h hgb hF hw)
  generalize sumsN wk wk.length = L at *
  have hnot : ∀ (x : Bool) (w : World), (Op.unary .not (.bool x)).run Tryz.prog w = .ok (.bool (!x)) w := fun _ _ => rfl
  clear h hw hb hF
  go_enter Tryz.func94, Tryz.ntmps94
  go_wp2_with (first
    | (go_at_call 120; go_must (refine (bload_any _ 0 _ q0).mono ?_); rintro e w1 ⟨rfl, rfl⟩)
    | (go_at_call 121; go_must (refine HS.out.mono ?_); rintro e w2 ⟨A2, c2, rfl, h2, r2, t2⟩; have HQ := Lib.hid (And.intro h2 (And.intro r2 t2)); clear h2 r2 t2))
  go_end0
  obtain ⟨h2, r2, t2⟩ := HQ.out
  exact ⟨A2, c2, rfl, h2, r2, t2⟩
theorem do_done (a : Addr) (fv : Value) (w : World) (h0 : w.cell? a = some (.int .u32 1)) :
    Calls Tryz.prog 94 #[.pointer (some a), fv] w fun e w' => e = .returned (.tuple #[]) ∧ w' = w := by
  have hnot : ∀ (x : Bool) (w : World), (Op.unary .not (.bool x)).run Tryz.prog w = .ok (.bool (!x)) w := fun _ _ => rfl
  go_enter Tryz.func94, Tryz.ntmps94
  go_wp2_with (go_at_call 120; go_must (refine (bload_any _ 1 _ h0).mono ?_); rintro e w1 ⟨rfl, rfl⟩)
  go_end0
  exact ⟨rfl, rfl⟩
/-- What a lazy cell holds. -/
def LzAt (w : World) (b g : Nat) (wk : List Sp) (G : Nat → Prop) : Prop :=
  (∃ sm ak, Blk w b 217 (lzC 0 0 sm 0 ak (sumsF g) (.slice none 0 0))) ∨
  (∃ sm ak A c, Blk w b 217 (lzC 1 0 sm 1 ak .nilFunc (.slice A (wk.length + 1) c)) ∧ Rd w G A (wk.length + 1) ((sumsN wk wk.length).map V64))
/-- A plan at block g, its lazy cell at block b; all the rest lies in G. -/
structure PnAt (w : World) (g : Nat) (wk : List Sp) (b : Nat) (G : Nat → Prop) : Prop where
  pl : ∃ A k, PlAt w g wk A k b G
  lz : LzAt w b g wk G
  gG : G g
  nb : ¬ G b
  wk : Week wk
theorem LzAt.lt {w : World} {b g : Nat} {wk : List Sp} {G : Nat → Prop} (h : LzAt w b g wk G) : b < w.heap.size := by
  rcases h with ⟨sm, ak, hb⟩ | ⟨sm, ak, A, c, hb, _⟩ <;> exact hb.lt
theorem LzAt.touch {w w' : World} {b g : Nat} {wk : List Sp} {G S : Nat → Prop} (h : LzAt w b g wk G) (ht : Touch S w w') (hb : ¬ S b) (hG : ∀ q, G q → ¬ S q) : LzAt w' b g wk G := by
  rcases h with ⟨sm, ak, h1⟩ | ⟨sm, ak, A, c, h1, h2⟩
  · exact .inl ⟨sm, ak, ht.blk h1 hb⟩
  · exact .inr ⟨sm, ak, A, c, ht.blk h1 hb, h2.touch ht hG⟩
theorem LzAt.mono {w : World} {b g : Nat} {wk : List Sp} {G G' : Nat → Prop} (h : LzAt w b g wk G) (hG : ∀ q, G q → G' q) : LzAt w b g wk G' := by
  rcases h with ⟨sm, ak, h1⟩ | ⟨sm, ak, A, c, h1, h2⟩
  · exact .inl ⟨sm, ak, h1⟩
  · exact .inr ⟨sm, ak, A, c, h1, h2.mono hG⟩
theorem PnAt.touch {w w' : World} {g : Nat} {wk : List Sp} {b : Nat} {G S : Nat → Prop} (h : PnAt w g wk b G) (ht : Touch S w w') (hb : ¬ S b) (hG : ∀ q, G q → ¬ S q) : PnAt w' g wk b G := by
  obtain ⟨A, k, hp⟩ := h.pl
  exact ⟨⟨A, k, hp.touch ht (hG g h.gG) hG⟩, h.lz.touch ht hb hG, h.gG, h.nb, h.wk⟩
theorem PlAt.mono {w : World} {g : Nat} {wk : List Sp} {A : Option Addr} {k b : Nat} {F F' : Nat → Prop} (h : PlAt w g wk A k b F) (hF : ∀ q, F q → F' q) : PlAt w g wk A k b F' := ⟨h.blk, h.row.mono hF⟩
/-- The blocks that grow behind a Get. -/
def More (G : Nat → Prop) (w w' : World) : Nat → Prop := fun q => G q ∨ (w.heap.size ≤ q ∧ q < w'.heap.size)
theorem PnAt.more {w w' : World} {g : Nat} {wk : List Sp} {b : Nat} {G S : Nat → Prop} (h : PnAt w g wk b G) (ht : Touch S w w') (hb : ¬ S b) (hG : ∀ q, G q → ¬ S q) : PnAt w' g wk b (More G w w') := by
  have h' := h.touch ht hb hG
  obtain ⟨A, k, hp⟩ := h'.pl
  have hbl := h.lz.lt
  exact ⟨⟨A, k, hp.mono (fun q hq => .inl hq)⟩, h'.lz.mono (fun q hq => .inl hq), .inl h'.gG, (fun e => by rcases e with e | e; exact h.nb e; omega), h.wk⟩
theorem more_trans {G : Nat → Prop} {w w1 w2 : World} (h1 : w.heap.size ≤ w1.heap.size) (h2 : w1.heap.size ≤ w2.heap.size) : ∀ q, More (More G w w1) w1 w2 q → More G w w2 q := by
  intro q hq
  rcases hq with (hq | hq) | hq
  · exact .inl hq
  · exact .inr (by omega)
  · exact .inr (by omega)
theorem PnAt.grow {w : World} {g : Nat} {wk : List Sp} {b : Nat} {G G' : Nat → Prop} (h : PnAt w g wk b G) (hG : ∀ q, G q → G' q) (hb : ¬ G' b) : PnAt w g wk b G' := by
  obtain ⟨A, k, hp⟩ := h.pl
  exact ⟨⟨A, k, hp.mono hG⟩, h.lz.mono hG, hG _ h.gG, hb, h.wk⟩
def GetP (g : Nat) (wk : List Sp) (b : Nat) (G : Nat → Prop) (w : World) (e : Ending) (w' : World) : Prop :=
  ∃ A c, e = .returned (.slice A (wk.length + 1) c) ∧ Rd w' (More G w w') A (wk.length + 1) ((sumsN wk wk.length).map V64) ∧ PnAt w' g wk b (More G w w') ∧ Touch (fun q => q = b) w w'
theorem Rd.near_ {w : World} {F : Nat → Prop} {A : Option Addr} {n : Nat} {xs : List Value} (h : Rd w F A n xs) : Rd w (fun k => F k ∧ k < w.heap.size) A n xs :=
  ⟨h.1, fun hn => by obtain ⟨g, off, e, hl, hf, hc⟩ := h.2 hn; exact ⟨g, off, e, hl, ⟨hf, hl⟩, hc⟩⟩
theorem GetP.mk {g : Nat} {wk : List Sp} {b : Nat} {G : Nat → Prop} {w w' : World} (h : PnAt w g wk b G) (ht : Touch (fun q => q = b) w w') (sm ak : Int) (A : Option Addr) (c n : Nat) (hn : n = wk.length + 1)
    (hb : Blk w' b 217 (lzC 1 0 sm 1 ak .nilFunc (.slice A n c))) (hr : Rd w' (More G w w') A n ((sumsN wk wk.length).map V64)) : GetP g wk b G w (.returned (.slice A n c)) w' := by
  subst hn
  have hGb : ∀ q, G q → ¬ q = b := fun q hq e => by subst e; exact h.nb hq
  obtain ⟨A1, k1, hp⟩ := h.pl
  have hbl := h.lz.lt
  exact ⟨A, c, rfl, hr, ⟨⟨A1, k1, (hp.touch ht (hGb g h.gG) hGb).mono (fun q hq => .inl hq)⟩, .inr ⟨sm, ak, A, c, hb, hr⟩, .inl h.gG, (fun e => by rcases e with e | e; exact h.nb e; omega), h.wk⟩, ht⟩
theorem get_any (g : Nat) (wk : List Sp) (b : Nat) (G : Nat → Prop) (w : World) (h : PnAt w g wk b G) :
    Calls Tryz.prog 103 #[.pointer (some ⟨b, 0, none⟩)] w (GetP g wk b G w) := by
  obtain ⟨A, k, hp⟩ := h.pl
  have hbl := h.lz.lt
  have HH := Lib.hid h
  have hGb : ∀ q, G q → ¬ q = b := fun q hq e => by subst e; exact h.nb hq
  have hgb : g ≠ b := hGb g h.gG
  have hw := h.wk
  have hmf : ∀ (fn : Fn) (first cap : Array Value) (w : World), (Instr.makeFunc fn first cap).run Tryz.prog w = .ok (.func fn first cap) w := fun _ _ _ _ => rfl
  rcases h.lz with ⟨sm, ak, hb⟩ | ⟨sm, ak, A0, c0, hb, hr⟩
  · have q4 := hb.cell 4
    simp [lzC] at q4
    have z4 := hb.frozen 4
    have HT1 := Lib.hid (fun s : Int => (Touch.refl (fun q => q = b) w).set (b := b) (o := 4) (fun _ => rfl) (.int .i64 s))
    have HF := Lib.hid (fun s : Int => do_first b g sm s wk A k G (w.setCell ⟨b, 4, none⟩ (.int .i64 s)) (by simpa [lzC] using hb.set_ 4 (.int .i64 s)) (hp.touch (HT1.out s) hgb hGb) hgb hGb hw)
    have HL := Lib.hid (sumsN_len wk wk.length)
    generalize hLL : sumsN wk wk.length = L at *
    have HLL := Lib.hid hLL
    have HG := Lib.hid hGb
    clear hp hw hb h hGb hLL
    go_enter Tryz.func103, Tryz.ntmps103
    go_wp2_with (first
      | (go_at_call 93; go_must (refine (iadd_any _ ak 1 _ q4 z4).mono ?_); rintro e w1 ⟨rfl, rfl⟩; generalize IntKind.i64.wrap (ak + 1) = s)
      | (go_at_call 94; go_must (refine (HF.out s).mono ?_); rintro e w2 ⟨A2, c2, rfl, h2, r2, t2⟩; have HQ := Lib.hid (And.intro h2 (And.intro r2 t2)); have q6 := h2.cell 6; simp [lzC] at q6; clear h2 r2 t2))
    go_ret
    obtain ⟨h2, r2, t2⟩ := HQ.out
    have ht := (HT1.out s).trans t2 (fun _ _ e => e)
    have s1 := (HT1.out s).size
    refine GetP.mk HH.out ht sm s A2 c2 L.length HL.out h2 (by rw [HLL.out]; exact r2.near_.mono (fun q hq => .inr ⟨by have := hq.1; omega, hq.2⟩))
  · have q4 := hb.cell 4
    simp [lzC] at q4
    have z4 := hb.frozen 4
    have HT1 := Lib.hid (fun s : Int => (Touch.refl (fun q => q = b) w).set (b := b) (o := 4) (fun _ => rfl) (.int .i64 s))
    have HB1 := Lib.hid (fun s : Int => (show Blk (w.setCell ⟨b, 4, none⟩ (.int .i64 s)) b 217 (lzC 1 0 sm 1 s .nilFunc (.slice A0 (wk.length + 1) c0)) by simpa [lzC] using hb.set_ 4 (.int .i64 s)))
    have HG := Lib.hid hGb
    have HR := Lib.hid hr
    clear hp hw hb h hGb hr
    go_enter Tryz.func103, Tryz.ntmps103
    go_wp2_with (first
      | (go_at_call 93; go_must (refine (iadd_any _ ak 1 _ q4 z4).mono ?_); rintro e w1 ⟨rfl, rfl⟩; generalize IntKind.i64.wrap (ak + 1) = s; have q6 := (HB1.out s).cell 6; simp [lzC] at q6)
      | (go_at_call 94; go_must (refine (do_done _ _ _ (by exact ((HB1.out s).cell 0).trans (by simp [lzC]))).mono ?_); rintro e w2 ⟨rfl, rfl⟩))
    go_ret
    exact GetP.mk HH.out (HT1.out s) sm s A0 c0 _ rfl (HB1.out s) ((HR.out.touch (HT1.out s) HG.out).mono (fun q hq => .inl hq))
end Go.Proofs.YtlcefchbfjfifaaGreat
end
