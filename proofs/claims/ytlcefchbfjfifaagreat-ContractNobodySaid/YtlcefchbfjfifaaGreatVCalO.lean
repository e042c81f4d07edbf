/- sync.Once, sync/atomic and the lock, at the cells of a lazy cell. Package lazy: fill, Get. -/
import Derived.Test.YtlcefchbfjfifaaGreatVCalK
import Derived.Tactics
import Derived.Tactics2
import Derived.Defers
import Derived.Laws.Pointers
import Derived.Laws.LoneSync
import Derived.RegionTactic
import Derived.RegionCalls
import Derived.Laws.EntriesVeiled
section
namespace Go.Proofs.YtlcefchbfjfifaaGreat
open Go.RowKit Cal
set_option maxHeartbeats 4000000
set_option maxRecDepth 100000
set_option linter.unusedVariables false

theorem disable (w : World) : (callFunc 161 #[]).run Tryz.prog w = .ok (.value (.tuple #[])) w := run_call_mark0 Tryz.func161 (by kernel_rfl) (by kernel_rfl) (by kernel_rfl) .disable (by kernel_rfl) w
theorem enable (w : World) : (callFunc 163 #[]).run Tryz.prog w = .ok (.value (.tuple #[])) w := run_call_mark0 Tryz.func163 (by kernel_rfl) (by kernel_rfl) (by kernel_rfl) .enable (by kernel_rfl) w
theorem acquire (a : Addr) (w : World) : (callFunc 164 #[.pointer (some a)]).run Tryz.prog w = .ok (.value (.tuple #[])) w := run_call_marked Tryz.func164 (by kernel_rfl) (by kernel_rfl) (by kernel_rfl) .acquire (by kernel_rfl) a w
theorem releaseMerge (a : Addr) (w : World) : (callFunc 166 #[.pointer (some a)]).run Tryz.prog w = .ok (.value (.tuple #[])) w := run_call_marked Tryz.func166 (by kernel_rfl) (by kernel_rfl) (by kernel_rfl) .releaseMerge (by kernel_rfl) a w

/-- '(*sync/atomic.Bool).Store(true)', entered as a deferred call. -/
theorem store_deferred (a : Addr) (x : Value) (u : FrameMode) (w : World) (hc : w.cell? a = some x) (hz : w.frozen? a = false) :
    CallsD Tryz.prog 122 #[.pointer (some a), .bool true] u w fun e u' w' => u' = u ∧ (e = .returned (.tuple #[]) ∧ w' = w.drew.setCell a (.int .u32 1)) := by
  have hc' : w.drew.cell? a = some x := by go_simp
  have hz' : w.drew.frozen? a = false := by go_simp
  have hst := run_call_store (P := Tryz.prog) Tryz.func139 (by kernel_rfl) (by kernel_rfl) (by kernel_rfl) (by kernel_rfl) (k := .u32) (y := 1) hc' hz'
  go_enter_d Tryz.func122, Tryz.ntmps122
  go_wp2
  go_region_calls
  all_goals (go_end0; exact ⟨rfl, rfl⟩)
theorem bstore_any (a : Addr) (x : Value) (w : World) (hc : w.cell? a = some x) (hz : w.frozen? a = false) :
    Calls Tryz.prog 122 #[.pointer (some a), .bool true] w fun e w' => e = .returned (.tuple #[]) ∧ w' = w.drew.setCell a (.int .u32 1) := by
  have hc' : w.drew.cell? a = some x := by go_simp
  have hz' : w.drew.frozen? a = false := by go_simp
  have hst := run_call_store (P := Tryz.prog) Tryz.func139 (by kernel_rfl) (by kernel_rfl) (by kernel_rfl) (by kernel_rfl) (k := .u32) (y := 1) hc' hz'
  go_enter Tryz.func122, Tryz.ntmps122
  go_wp2
  go_region_calls
  all_goals (go_end0; exact ⟨rfl, rfl⟩)
theorem bload_any (a : Addr) (d : Int) (w : World) (hc : w.cell? a = some (.int .u32 d)) :
    Calls Tryz.prog 120 #[.pointer (some a)] w fun e w' => e = .returned (.bool (d != 0)) ∧ w = w' := by
  have hl := run_call_load (P := Tryz.prog) Tryz.func136 (by kernel_rfl) (by kernel_rfl) (by kernel_rfl) .u32 (by kernel_rfl) hc
  go_enter Tryz.func120, Tryz.ntmps120
  go_wp2
  go_ret
  exact ⟨rfl, rfl⟩
theorem iadd_any (a : Addr) (x y : Int) (w : World) (hc : w.cell? a = some (.int .i64 x)) (hz : w.frozen? a = false) :
    Calls Tryz.prog 93 #[.pointer (some a), .int .i64 y] w fun e w' => e = .returned (.int .i64 (IntKind.i64.wrap (x + y))) ∧ w' = w.setCell a (.int .i64 (IntKind.i64.wrap (x + y))) := by
  have hadd := run_call_add (P := Tryz.prog) Tryz.func119 (by kernel_rfl) (by kernel_rfl) (by kernel_rfl) .i64 (by kernel_rfl) (y := y) (s := IntKind.i64.wrap (x + y)) hc hz (by simp [go_sem])
  generalize IntKind.i64.wrap (x + y) = s at *
  go_enter Tryz.func93, Tryz.ntmps93
  go_wp2
  go_ret
  exact ⟨rfl, rfl⟩
/-- The inner lock, free: it is taken. -/
theorem ilock_free (a : Addr) (w : World) (hc : w.cell? a = some (.int .i32 0)) (hz : w.frozen? a = false) :
    Calls Tryz.prog 153 #[.pointer (some a)] w fun e w' => e = .returned (.tuple #[]) ∧ w' = w.setCell a (.int .i32 1) := by
  have hd := disable
  have he := enable
  have ha := acquire
  have hcas := run_call_cas_hit (P := Tryz.prog) Tryz.func162 (by kernel_rfl) (by kernel_rfl) (by kernel_rfl) .i32 (by kernel_rfl) (y := 1) hc hz
  have hc' : (w.setCell a (.int .i32 1)).cell? a = some (.int .i32 1) := World.cell?_setCell_same w a _ hc
  have hcv := run_convert_to_unsafe (P := Tryz.prog) (src := 247) (dst := 251) Tryz.underlying247 Tryz.underlying251 (by kernel_rfl) hc'
  go_enter Tryz.func153, Tryz.ntmps153
  go_wp2
  first | go_end0 | (simp only [Exit.inBlock, Exit.then]; refine bodyPost_ret (results_none rfl _ _ _) rfl ?_) | refine bodyPost_ret (results_none rfl _ _ _) rfl ?_
  exact ⟨rfl, rfl⟩
theorem lock_free (a : Addr) (w : World) (hc : w.cell? a = some (.int .i32 0)) (hz : w.frozen? a = false) :
    Calls Tryz.prog 137 #[.pointer (some a)] w fun e w' => e = .returned (.tuple #[]) ∧ w' = w.setCell a (.int .i32 1) := by
  go_enter Tryz.func137, Tryz.ntmps137
  go_wp2_with (go_at_call 153; go_must (refine (ilock_free _ _ hc hz).mono ?_); rintro e w1 ⟨rfl, rfl⟩)
  go_end0
  exact ⟨rfl, rfl⟩
theorem iunlock_free (a : Addr) (w : World) (hc : w.cell? a = some (.int .i32 1)) (hz : w.frozen? a = false) :
    Calls Tryz.prog 154 #[.pointer (some a)] w fun e w' => e = .returned (.tuple #[]) ∧ w' = w.setCell a (.int .i32 0) := by
  have hd := disable
  have he := enable
  have hr := releaseMerge
  have hadd := run_call_add (P := Tryz.prog) Tryz.func167 (by kernel_rfl) (by kernel_rfl) (by kernel_rfl) .i32 (by kernel_rfl) (y := -1) (s := 0) hc hz (by simp [go_sem]; rfl)
  have hcv := run_convert_to_unsafe (P := Tryz.prog) (src := 247) (dst := 251) Tryz.underlying247 Tryz.underlying251 (by kernel_rfl) hc
  go_enter Tryz.func154, Tryz.ntmps154
  go_wp2
  go_end0
  exact ⟨rfl, rfl⟩
theorem unlock_deferred (a : Addr) (u : FrameMode) (w : World) (hc : w.cell? a = some (.int .i32 1)) (hz : w.frozen? a = false) :
    CallsD Tryz.prog 138 #[.pointer (some a)] u w fun e u' w' => u' = u ∧ (e = .returned (.tuple #[]) ∧ w' = w.setCell a (.int .i32 0)) := by
  go_enter_d Tryz.func138, Tryz.ntmps138
  go_wp2_with (go_at_call 154; go_must (refine (iunlock_free _ _ hc hz).mono ?_); rintro e w1 ⟨rfl, rfl⟩)
  go_end0
  exact ⟨rfl, rfl⟩
end Go.Proofs.YtlcefchbfjfifaaGreat
end

section
namespace Go.Proofs.YtlcefchbfjfifaaGreat
open Go.RowKit Cal
set_option maxHeartbeats 4000000
set_option maxRecDepth 100000
set_option linter.unusedVariables false

/-- The cells of a lazy cell. -/
def lzC (d st sm md : Int) (ak : Int) (bd v : Value) : Array Value := #[.int .u32 d, .int .i32 st, .int .u32 sm, .int .u32 md, .int .i64 ak, bd, v]
def sumsF (g : Nat) : Value := .func (.func 113) #[.pointer (some ⟨g, 0, none⟩)] #[]
def FillP (b : Nat) (d st sm : Int) (ak : Int) (l : List Int) (w : World) (e : Ending) (w' : World) : Prop :=
  ∃ A c, e = .returned (.tuple #[]) ∧ Blk w' b 217 (lzC d st sm 1 ak .nilFunc (.slice A l.length c)) ∧ Rd w' (fun k => w.heap.size ≤ k) A l.length (l.map V64) ∧ Touch (fun q => q = b) w w'
theorem fill_any (b g : Nat) (d st sm ak : Int) (wk : List Sp) (A : Option Addr) (k : Nat) (F : Nat → Prop) (w : World) (hb : Blk w b 217 (lzC d st sm 0 ak (sumsF g) (.slice none 0 0))) (h : PlAt w g wk A k b F) (hw : Week wk) :
    Calls Tryz.prog 124 #[.pointer (some ⟨b, 0, none⟩)] w (FillP b d st sm ak (sumsN wk wk.length) w) := by
  have HS := Lib.hid (sums_any g wk A k b F w h hw)
  generalize sumsN wk wk.length = L at *
  have HB := Lib.hid hb
  have q5 := hb.cell 5
  simp [lzC, sumsF] at q5
  have hbl := hb.lt
  have hfn : ∀ w, (binOp .neq 195 (.func (.func 113) #[.pointer (some ⟨g, 0, none⟩)] #[]) .nilFunc).run Tryz.prog w = .ok (.bool true) w := fun w => by first | rfl | simp [go_sem]
  clear h hw hb
  go_enter Tryz.func124, Tryz.ntmps124
  go_wp2_with (first
    | (go_at_call 113; go_must (refine HS.out.mono ?_); rintro e w1 ⟨A1, c1, rfl, h1, h2, h3, t1⟩; have HQ := Lib.hid (And.intro h3 t1); have HB1 := Lib.hid (t1.blk HB.out (fun e => e)); have p3 := HB1.out.cell 3; have p5 := HB1.out.cell 5; have p6 := HB1.out.cell 6; simp [lzC] at p3 p5 p6; have z3 := HB1.out.frozen 3; have z5 := HB1.out.frozen 5; have z6 := HB1.out.frozen 6; have HB2 := Lib.hid ((HB1.out.set_ 6 (.slice A1 L.length c1)).set_ 5 .nilFunc); clear h1 h2 h3 t1)
    | (go_at_call 122; go_must (refine (bstore_any _ (.int .u32 0) _ (by exact (HB2.out.cell 3).trans (by simp [lzC])) (by exact HB2.out.frozen 3)).mono ?_); rintro e w2 ⟨rfl, rfl⟩))
  go_end0
  obtain ⟨h3, t1⟩ := HQ.out
  have hb3 := HB2.out.set_ 3 (.int .u32 1)
  simp [lzC] at hb3
  have hs : ∀ k, w.heap.size ≤ k → ¬ k = b := fun k hk e => by omega
  refine ⟨A1, c1, rfl, hb3, h3.touch (S := fun q => q = b) ((((Touch.refl (fun q => q = b) w1).set (fun _ => rfl) _).set (fun _ => rfl) _).set (fun _ => rfl) _).drew hs, ?_⟩
  exact ((((t1.mono (S' := fun q => q = b) (fun _ _ e => e.elim)).set (fun _ => rfl) _).set (fun _ => rfl) _).set (fun _ => rfl) _).drew
/-- doSlow, the first time: the function is called. -/
theorem slow_any (b g : Nat) (sm ak : Int) (wk : List Sp) (A : Option Addr) (k : Nat) (F : Nat → Prop) (w : World) (hb : Blk w b 217 (lzC 0 0 sm 0 ak (sumsF g) (.slice none 0 0))) (h : PlAt w g wk A k b F) (hgb : g ≠ b) (hF : ∀ q, F q → q ≠ b) (hw : Week wk) :
    Calls Tryz.prog 121 #[.pointer (some ⟨b, 0, none⟩), .func (.func 124) #[.pointer (some ⟨b, 0, none⟩)] #[]] w (FillP b 1 0 sm ak (sumsN wk wk.length) w) := by
  have HB := Lib.hid hb
  have q0 := hb.cell 0; have q1 := hb.cell 1
  simp [lzC] at q0 q1
  have z1 := hb.frozen 1
  have hb1 := hb.set_ 1 (.int .i32 1)
  have HB1 := Lib.hid (show Blk (w.setCell ⟨b, 1, none⟩ (.int .i32 1)) b 217 (lzC 0 1 sm 0 ak (sumsF g) (.slice none 0 0)) by simpa [lzC] using hb1)
  have ht1 : Touch (fun q => q = b) w (w.setCell ⟨b, 1, none⟩ (.int .i32 1)) := (Touch.refl (fun q => q = b) w).set (fun _ => rfl) _
  have HT1 := Lib.hid ht1
  have HFi := Lib.hid (fill_any b g 0 1 sm ak wk A k F _ HB1.out (h.touch ht1 (fun e => hgb e) hF) hw)
  have p0 := HB1.out.cell 0
  simp [lzC] at p0
  generalize sumsN wk wk.length = L at *
  have hnot : ∀ (x : Bool) (w : World), (Op.unary .not (.bool x)).run Tryz.prog w = .ok (.bool (!x)) w := fun _ _ => rfl
  clear h hw hb hb1 ht1 hF
  go_enter_defers Tryz.func121, Tryz.ntmps121
  go_wp2_with (first
    | (go_at_call 137; go_must (refine (lock_free _ _ q1 z1).mono ?_); rintro e w1 ⟨rfl, rfl⟩)
    | (go_at_call 120; go_must (refine (bload_any _ 0 _ p0).mono ?_); rintro e w1 ⟨rfl, rfl⟩)
    | (go_at_call 124; go_must (refine HFi.out.mono ?_); rintro e w2 ⟨A2, c2, rfl, h2, r2, t2⟩; have HQ := Lib.hid (And.intro h2 (And.intro r2 t2)); clear h2 r2 t2))
  obtain ⟨h2, r2, t2⟩ := HQ.out
  have z0 := h2.frozen 0
  have o0 := h2.cell 0
  simp [lzC] at o0
  have h3 := (show Blk (World.drew w2) b 217 _ from h2).set_ 0 (.int .u32 1)
  have o1 := h3.cell 1
  have y1 := h3.frozen 1
  simp [lzC] at o1
  refine leaves_cons (f := 122) (args := #[.pointer (some ⟨b, 0, none⟩), .bool true]) (by simp) (by simp [go_sem]) ?_
  refine (store_deferred ⟨b, 0, none⟩ (.int .u32 0) .returning _ o0 z0).mono ?_
  rintro e u' w'' ⟨rfl, rfl, rfl⟩
  refine leaves_cons (f := 138) (args := #[.pointer (some ⟨b, 1, none⟩)]) (by simp [settle]) (by simp [go_sem]) ?_
  refine (unlock_deferred ⟨b, 1, none⟩ _ _ o1 y1).mono ?_
  rintro e u' w'' ⟨rfl, rfl, rfl⟩
  have h4 := h3.set_ 1 (.int .i32 0)
  simp [lzC] at h4
  have hs : ∀ q, w.heap.size ≤ q → ¬ q = b := fun q hq e => by have := HB.out.lt; omega
  have tt : Touch (fun q => q = b) w2 ((w2.drew.setCell ⟨b, 0, none⟩ (.int .u32 1)).setCell ⟨b, 1, none⟩ (.int .i32 0)) := ((Touch.refl (fun q => q = b) w2).drew.set (fun _ => rfl) _).set (fun _ => rfl) _
  have fin : FillP b 1 0 sm ak L w (.returned (.tuple #[])) ((w2.drew.setCell ⟨b, 0, none⟩ (.int .u32 1)).setCell ⟨b, 1, none⟩ (.int .i32 0)) :=
    ⟨A2, c2, rfl, h4, (r2.mono (fun q hq => by simpa using hq)).touch tt hs, (HT1.out.trans t2 (fun _ _ e => e)).trans tt (fun _ _ e => e)⟩
  simp [Leaves, settle, results, Tryz.results121]
  exact fin
end Go.Proofs.YtlcefchbfjfifaaGreat
end
