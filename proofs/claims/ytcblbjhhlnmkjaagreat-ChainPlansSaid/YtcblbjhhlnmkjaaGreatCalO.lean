/- Package lazy: fill, Get. -/
import Derived.Test.YtcblbjhhlnmkjaaGreatCalN
import Derived.Laws.EntriesVeiled
namespace Go.Proofs.YtcblbjhhlnmkjaaGreat
open Go.RowKit Cal
set_option maxHeartbeats 4000000
set_option maxRecDepth 100000
set_option linter.unusedVariables false

/-- The cells of a lazy cell. -/
def lzC (d st sm md : Int) (ak : Int) (bd v : Value) : Array Value := #[.int .u32 d, .int .i32 st, .int .u32 sm, .int .u32 md, .int .i64 ak, bd, v]
def sumsF (g : Nat) : Value := .func (.func 83) #[.pointer (some ⟨g, 0, none⟩)] #[]
def FillP (b : Nat) (d st sm : Int) (ak : Int) (l : List Int) (w : World) (e : Ending) (w' : World) : Prop :=
  ∃ A c, e = .returned (.tuple #[]) ∧ Blk w' b 188 (lzC d st sm 1 ak .nilFunc (.slice A l.length c)) ∧ Rd w' (fun k => w.heap.size ≤ k) A l.length (l.map V64) ∧ Touch (fun q => q = b) w w'
theorem fill_any (b g : Nat) (d st sm ak : Int) (wk : List Sp) (A : Option Addr) (k : Nat) (F : Nat → Prop) (w : World) (hb : Blk w b 188 (lzC d st sm 0 ak (sumsF g) (.slice none 0 0))) (h : PlAt w g wk A k b F) (hw : Week wk) :
    Calls Tryz.prog 119 #[.pointer (some ⟨b, 0, none⟩)] w (FillP b d st sm ak (sumsN wk wk.length) w) := by
  have HS := Lib.hid (sums_any g wk A k b F w h hw)
  generalize sumsN wk wk.length = L at *
  have HB := Lib.hid hb
  have q5 := hb.cell 5
  simp [lzC, sumsF] at q5
  have hbl := hb.lt
  have hfn : ∀ w, (binOp .neq 140 (.func (.func 83) #[.pointer (some ⟨g, 0, none⟩)] #[]) .nilFunc).run Tryz.prog w = .ok (.bool true) w := fun w => by first | rfl | simp [go_sem]
  clear h hw hb
  go_enter Tryz.func119, Tryz.ntmps119
  go_wp2_with (first
    | (go_at_call 83; go_must (refine HS.out.mono ?_); rintro e w1 ⟨A1, c1, rfl, h1, h2, h3, t1⟩; have HQ := Lib.hid (And.intro h3 t1); have HB1 := Lib.hid (t1.blk HB.out (fun e => e)); have p3 := HB1.out.cell 3; have p5 := HB1.out.cell 5; have p6 := HB1.out.cell 6; simp [lzC] at p3 p5 p6; have z3 := HB1.out.frozen 3; have z5 := HB1.out.frozen 5; have z6 := HB1.out.frozen 6; have HB2 := Lib.hid ((HB1.out.set_ 6 (.slice A1 L.length c1)).set_ 5 .nilFunc); clear h1 h2 h3 t1)
    | (go_at_call 129; go_must (refine (bstore_any _ (.int .u32 0) _ (by exact (HB2.out.cell 3).trans (by simp [lzC])) (by exact HB2.out.frozen 3)).mono ?_); rintro e w2 ⟨rfl, rfl⟩))
  go_end0
  obtain ⟨h3, t1⟩ := HQ.out
  have hb3 := HB2.out.set_ 3 (.int .u32 1)
  simp [lzC] at hb3
  have hs : ∀ k, w.heap.size ≤ k → ¬ k = b := fun k hk e => by omega
  refine ⟨A1, c1, rfl, hb3, h3.touch (S := fun q => q = b) ((((Touch.refl (fun q => q = b) w1).set (fun _ => rfl) _).set (fun _ => rfl) _).set (fun _ => rfl) _).drew hs, ?_⟩
  exact ((((t1.mono (S' := fun q => q = b) (fun _ _ e => e.elim)).set (fun _ => rfl) _).set (fun _ => rfl) _).set (fun _ => rfl) _).drew
/-- doSlow, the first time: the function is called. -/
theorem slow_any (b g : Nat) (sm ak : Int) (wk : List Sp) (A : Option Addr) (k : Nat) (F : Nat → Prop) (w : World) (hb : Blk w b 188 (lzC 0 0 sm 0 ak (sumsF g) (.slice none 0 0))) (h : PlAt w g wk A k b F) (hgb : g ≠ b) (hF : ∀ q, F q → q ≠ b) (hw : Week wk) :
    Calls Tryz.prog 128 #[.pointer (some ⟨b, 0, none⟩), .func (.func 119) #[.pointer (some ⟨b, 0, none⟩)] #[]] w (FillP b 1 0 sm ak (sumsN wk wk.length) w) := by
  have HB := Lib.hid hb
  have q0 := hb.cell 0; have q1 := hb.cell 1
  simp [lzC] at q0 q1
  have z1 := hb.frozen 1
  have hb1 := hb.set_ 1 (.int .i32 1)
  have HB1 := Lib.hid (show Blk (w.setCell ⟨b, 1, none⟩ (.int .i32 1)) b 188 (lzC 0 1 sm 0 ak (sumsF g) (.slice none 0 0)) by simpa [lzC] using hb1)
  have ht1 : Touch (fun q => q = b) w (w.setCell ⟨b, 1, none⟩ (.int .i32 1)) := (Touch.refl (fun q => q = b) w).set (fun _ => rfl) _
  have HT1 := Lib.hid ht1
  have HFi := Lib.hid (fill_any b g 0 1 sm ak wk A k F _ HB1.out (h.touch ht1 (fun e => hgb e) hF) hw)
  have p0 := HB1.out.cell 0
  simp [lzC] at p0
  generalize sumsN wk wk.length = L at *
  have hnot : ∀ (x : Bool) (w : World), (Op.unary .not (.bool x)).run Tryz.prog w = .ok (.bool (!x)) w := fun _ _ => rfl
  clear h hw hb hb1 ht1 hF
  go_enter_defers Tryz.func128, Tryz.ntmps128
  go_wp2_with (first
    | (go_at_call 135; go_must (refine (lock_free _ _ q1 z1).mono ?_); rintro e w1 ⟨rfl, rfl⟩)
    | (go_at_call 127; go_must (refine (bload_any _ 0 _ p0).mono ?_); rintro e w1 ⟨rfl, rfl⟩)
    | (go_at_call 119; go_must (refine HFi.out.mono ?_); rintro e w2 ⟨A2, c2, rfl, h2, r2, t2⟩; have HQ := Lib.hid (And.intro h2 (And.intro r2 t2)); clear h2 r2 t2))
  obtain ⟨h2, r2, t2⟩ := HQ.out
  have z0 := h2.frozen 0
  have o0 := h2.cell 0
  simp [lzC] at o0
  have h3 := (show Blk (World.drew w2) b 188 _ from h2).set_ 0 (.int .u32 1)
  have o1 := h3.cell 1
  have y1 := h3.frozen 1
  simp [lzC] at o1
  refine leaves_cons (f := 129) (args := #[.pointer (some ⟨b, 0, none⟩), .bool true]) (by simp) (by simp [go_sem]) ?_
  refine (store_deferred ⟨b, 0, none⟩ (.int .u32 0) .returning _ o0 z0).mono ?_
  rintro e u' w'' ⟨rfl, rfl, rfl⟩
  refine leaves_cons (f := 136) (args := #[.pointer (some ⟨b, 1, none⟩)]) (by simp [settle]) (by simp [go_sem]) ?_
  refine (unlock_deferred ⟨b, 1, none⟩ _ _ o1 y1).mono ?_
  rintro e u' w'' ⟨rfl, rfl, rfl⟩
  have h4 := h3.set_ 1 (.int .i32 0)
  simp [lzC] at h4
  have hs : ∀ q, w.heap.size ≤ q → ¬ q = b := fun q hq e => by have := HB.out.lt; omega
  have tt : Touch (fun q => q = b) w2 ((w2.drew.setCell ⟨b, 0, none⟩ (.int .u32 1)).setCell ⟨b, 1, none⟩ (.int .i32 0)) := ((Touch.refl (fun q => q = b) w2).drew.set (fun _ => rfl) _).set (fun _ => rfl) _
  have fin : FillP b 1 0 sm ak L w (.returned (.tuple #[])) ((w2.drew.setCell ⟨b, 0, none⟩ (.int .u32 1)).setCell ⟨b, 1, none⟩ (.int .i32 0)) :=
    ⟨A2, c2, rfl, h4, (r2.mono (fun q hq => by simpa using hq)).touch tt hs, (HT1.out.trans t2 (fun _ _ e => e)).trans tt (fun _ _ e => e)⟩
  simp [Leaves, settle, results, Tryz.results128]
  exact fin
end Go.Proofs.YtcblbjhhlnmkjaaGreat
