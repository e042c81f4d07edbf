/- A clock that is made when it is first asked for: lazy.Cell[*calendar.Clock] with the function that Shelf.Lay hands it. Contracts: the plain law (a contract's levels are a row of pairs: budget, party); contract.within, contract.Check, the reference's Good. (written by genchA.py) -/
import Derived.Test.YtlcefchbfjfifaaGreatVCalW
import Derived.Test.YtlcefchbfjfifaaGreatVCalP
import Derived.Laws.EntriesVeiled
import Derived.Test.YtlcefchbfjfifaaGreatVCalJ
section
namespace Go.Proofs.YtlcefchbfjfifaaGreat
open Go.RowKit Cal
set_option maxHeartbeats 4000000
set_option maxRecDepth 100000
set_option linter.unusedVariables false

def caA (c : Ca) (A B : Option Addr) (k m : Nat) : Array Value := #[.int .i64 c.off, .slice A c.wk.length k, .slice B c.cl.length m]
/-- A clock, just made; all of its blocks are new. -/
def NewK (c : Ca) (w : World) (k : Nat) (w' : World) : Prop := ∃ a p b, CkAt w' k a p b c (fun q => w.heap.size ≤ q ∧ q < w'.heap.size ∧ q ≠ b) ∧ w.heap.size ≤ b ∧ b < w'.heap.size
theorem NewK.touch {c : Ca} {w w1 w' : World} {k : Nat} {S : Nat → Prop} (h : NewK c w k w1) (t : Touch S w1 w') (hS : ∀ q, S q → q < w.heap.size) : NewK c w k w' := by
  obtain ⟨a, p, b, h1, h2, h3⟩ := h
  have hz := t.size
  exact ⟨a, p, b, (h1.touch t (fun e => by have := hS b e; omega) (fun q hq e => by have := hS q e; omega)).grow (fun q hq => ⟨hq.1, by omega, hq.2.2⟩) (fun e => e.2.2 rfl), h2, by omega⟩
theorem NewK.old {c : Ca} {w0 w w' : World} {k : Nat} (h : NewK c w k w') (hz : w0.heap.size ≤ w.heap.size) : NewK c w0 k w' := by
  obtain ⟨a, p, b, h1, h2, h3⟩ := h
  exact ⟨a, p, b, h1.grow (fun q hq => ⟨by omega, hq.2.1, hq.2.2⟩) (fun e => e.2.2 rfl), by omega, h3⟩
def MkP (c : Ca) (w : World) (e : Ending) (w' : World) : Prop := ∃ k, e = .returned (.pointer (some ⟨k, 0, none⟩)) ∧ NewK c w k w' ∧ Touch (fun _ => False) w w'
theorem lay1_any (o : Nat) (F : Nat → Prop) (A B : Option Addr) (k m : Nat) (c : Ca) (w : World) (hb : Blk w o 51 (caA c A B k m)) (hr : CaR w F c A B) (hc : c.Ok) : Calls Tryz.prog 56 #[.pointer (some ⟨o, 0, none⟩)] w (MkP c w) := by
  have HN := Lib.hid (cnew_yes F A B k m c w hr hc)
  unfold NewCk at HN
  have q0 := hb.cell 0; have q1 := hb.cell 1; have q2 := hb.cell 2
  simp [caA] at q0 q1 q2
  clear hb hr hc
  go_enter Tryz.func56, Tryz.ntmps56
  go_wp2_with (go_at_call 57; go_must (refine HN.out.mono ?_); rintro e w1 ⟨k1, a1, p1, b1, rfl, hk, h1, h2, t1⟩; have HK := Lib.hid (show NewK c w k1 w1 from ⟨a1, p1, b1, hk, h1, h2⟩); have HT := Lib.hid t1; clear hk h1 h2 t1)
  go_ret
  exact ⟨k1, rfl, HK.out, HT.out⟩
def mkF (o : Nat) : Value := .func (.func 56) #[] #[.pointer (some ⟨o, 0, none⟩)]
def FillK (x : Nat) (d st sm : Int) (ak : Int) (c : Ca) (w : World) (e : Ending) (w' : World) : Prop :=
  ∃ k, e = .returned (.tuple #[]) ∧ Blk w' x 170 (lzC d st sm 1 ak .nilFunc (.pointer (some ⟨k, 0, none⟩))) ∧ NewK c w k w' ∧ Touch (fun q => q = x) w w'
theorem fillK_any (x o : Nat) (d st sm ak : Int) (F : Nat → Prop) (A B : Option Addr) (k m : Nat) (c : Ca) (w : World) (hb : Blk w x 170 (lzC d st sm 0 ak (mkF o) (.pointer none))) (ho : Blk w o 51 (caA c A B k m)) (hr : CaR w F c A B) (hc : c.Ok) :
    Calls Tryz.prog 95 #[.pointer (some ⟨x, 0, none⟩)] w (FillK x d st sm ak c w) := by
  have HS := Lib.hid (lay1_any o F A B k m c w ho hr hc)
  have HB := Lib.hid hb
  have q5 := hb.cell 5
  simp [lzC, mkF] at q5
  have hbl := hb.lt
  have hfn : ∀ w, (binOp .neq 119 (.func (.func 56) #[] #[.pointer (some ⟨o, 0, none⟩)]) .nilFunc).run Tryz.prog w = .ok (.bool true) w := fun w => by first | rfl | simp [go_sem]
  clear ho hr hc hb
  go_enter Tryz.func95, Tryz.ntmps95
  go_wp2_with (first
    | (go_at_call 56; go_must (refine HS.out.mono ?_); rintro e w1 ⟨k1, rfl, h1, t1⟩; have HQ := Lib.hid (And.intro h1 t1); have HB1 := Lib.hid (t1.blk HB.out (fun e => e)); have p3 := HB1.out.cell 3; have p5 := HB1.out.cell 5; have p6 := HB1.out.cell 6; simp [lzC] at p3 p5 p6; have z3 := HB1.out.frozen 3; have z5 := HB1.out.frozen 5; have z6 := HB1.out.frozen 6; have HB2 := Lib.hid ((HB1.out.set_ 6 (.pointer (some ⟨k1, 0, none⟩))).set_ 5 .nilFunc); clear h1 t1)
    | (go_at_call 122; go_must (refine (bstore_any _ (.int .u32 0) _ (by exact (HB2.out.cell 3).trans (by simp [lzC])) (by exact HB2.out.frozen 3)).mono ?_); rintro e w2 ⟨rfl, rfl⟩))
  go_end0
  obtain ⟨h3, t1⟩ := HQ.out
  have hb3 := HB2.out.set_ 3 (.int .u32 1)
  simp [lzC] at hb3
  have ts : Touch (fun q => q = x) w1 (((w1.setCell ⟨x, 6, none⟩ (.pointer (some ⟨k1, 0, none⟩))).setCell ⟨x, 5, none⟩ .nilFunc).drew.setCell ⟨x, 3, none⟩ (.int .u32 1)) := (((Touch.refl (fun q => q = x) w1).set (fun _ => rfl) _).set (fun _ => rfl) _).drew.set (fun _ => rfl) _
  exact ⟨k1, rfl, hb3, h3.touch ts (fun q e => by omega), (t1.mono (S' := fun q => q = x) (fun _ _ e => e.elim)).trans ts (fun _ _ e => e)⟩
theorem slowK_any (x o : Nat) (sm ak : Int) (F : Nat → Prop) (A B : Option Addr) (k m : Nat) (c : Ca) (w : World) (hb : Blk w x 170 (lzC 0 0 sm 0 ak (mkF o) (.pointer none))) (ho : Blk w o 51 (caA c A B k m)) (hox : o ≠ x) (hr : CaR w F c A B) (hF : ∀ q, F q → q ≠ x) (hc : c.Ok) :
    Calls Tryz.prog 121 #[.pointer (some ⟨x, 0, none⟩), .func (.func 95) #[.pointer (some ⟨x, 0, none⟩)] #[]] w (FillK x 1 0 sm ak c w) := by
  have HB := Lib.hid hb
  have q0 := hb.cell 0; have q1 := hb.cell 1
  simp [lzC] at q0 q1
  have z1 := hb.frozen 1
  have hb1 := hb.set_ 1 (.int .i32 1)
  have HB1 := Lib.hid (show Blk (w.setCell ⟨x, 1, none⟩ (.int .i32 1)) x 170 (lzC 0 1 sm 0 ak (mkF o) (.pointer none)) by simpa [lzC] using hb1)
  have ht1 : Touch (fun q => q = x) w (w.setCell ⟨x, 1, none⟩ (.int .i32 1)) := (Touch.refl (fun q => q = x) w).set (fun _ => rfl) _
  have HT1 := Lib.hid ht1
  have HFi := Lib.hid (fillK_any x o 0 1 sm ak F A B k m c _ HB1.out (ht1.blk ho hox) (hr.touch ht1 hF) hc)
  have p0 := HB1.out.cell 0
  simp [lzC] at p0
  have hnot : ∀ (x : Bool) (w : World), (Op.unary .not (.bool x)).run Tryz.prog w = .ok (.bool (!x)) w := fun _ _ => rfl
  clear ho hr hc hb hb1 ht1 hF
  go_enter_defers Tryz.func121, Tryz.ntmps121
  go_wp2_with (first
    | (go_at_call 137; go_must (refine (lock_free _ _ q1 z1).mono ?_); rintro e w1 ⟨rfl, rfl⟩)
    | (go_at_call 120; go_must (refine (bload_any _ 0 _ p0).mono ?_); rintro e w1 ⟨rfl, rfl⟩)
    | (go_at_call 95; go_must (refine HFi.out.mono ?_); rintro e w2 ⟨k2, rfl, h2, r2, t2⟩; have HQ := Lib.hid (And.intro h2 (And.intro r2 t2)); clear h2 r2 t2))
  obtain ⟨h2, r2, t2⟩ := HQ.out
  have z0 := h2.frozen 0
  have o0 := h2.cell 0
  simp [lzC] at o0
  have h3 := (show Blk (World.drew w2) x 170 _ from h2).set_ 0 (.int .u32 1)
  have o1 := h3.cell 1
  have y1 := h3.frozen 1
  simp [lzC] at o1
  refine leaves_cons (f := 122) (args := #[.pointer (some ⟨x, 0, none⟩), .bool true]) (by simp) (by simp [go_sem]) ?_
  refine (store_deferred ⟨x, 0, none⟩ (.int .u32 0) .returning _ o0 z0).mono ?_
  rintro e u' w'' ⟨rfl, rfl, rfl⟩
  refine leaves_cons (f := 138) (args := #[.pointer (some ⟨x, 1, none⟩)]) (by simp [settle]) (by simp [go_sem]) ?_
  refine (unlock_deferred ⟨x, 1, none⟩ _ _ o1 y1).mono ?_
  rintro e u' w'' ⟨rfl, rfl, rfl⟩
  have h4 := h3.set_ 1 (.int .i32 0)
  simp [lzC] at h4
  have hxl := HB.out.lt
  have tt : Touch (fun q => q = x) w2 ((w2.drew.setCell ⟨x, 0, none⟩ (.int .u32 1)).setCell ⟨x, 1, none⟩ (.int .i32 0)) := ((Touch.refl (fun q => q = x) w2).drew.set (fun _ => rfl) _).set (fun _ => rfl) _
  have hz1 : (w.setCell ⟨x, 1, none⟩ (.int .i32 1)).heap.size = w.heap.size := by simp [World.setCell]
  have fin : FillK x 1 0 sm ak c w (.returned (.tuple #[])) ((w2.drew.setCell ⟨x, 0, none⟩ (.int .u32 1)).setCell ⟨x, 1, none⟩ (.int .i32 0)) :=
    ⟨k2, rfl, h4, (r2.touch tt (fun q e => by omega)).old (by omega), (HT1.out.trans t2 (fun _ _ e => e)).trans tt (fun _ _ e => e)⟩
  simp [Leaves, settle, results, Tryz.results121]
  exact fin
theorem doK_first (x o : Nat) (sm ak : Int) (F : Nat → Prop) (A B : Option Addr) (k m : Nat) (c : Ca) (w : World) (hb : Blk w x 170 (lzC 0 0 sm 0 ak (mkF o) (.pointer none))) (ho : Blk w o 51 (caA c A B k m)) (hox : o ≠ x) (hr : CaR w F c A B) (hF : ∀ q, F q → q ≠ x) (hc : c.Ok) :
    Calls Tryz.prog 94 #[.pointer (some ⟨x, 0, none⟩), .func (.func 95) #[.pointer (some ⟨x, 0, none⟩)] #[]] w (FillK x 1 0 sm ak c w) := by
  have q0 := hb.cell 0
  simp [lzC] at q0
  have HS := Lib.hid (slowK_any x o sm ak F A B k m c w hb ho hox hr hF hc)
  have hnot : ∀ (x : Bool) (w : World), (Op.unary .not (.bool x)).run Tryz.prog w = .ok (.bool (!x)) w := fun _ _ => rfl
  clear ho hr hc hb hF
  go_enter Tryz.func94, Tryz.ntmps94
  go_wp2_with (first
    | (go_at_call 120; go_must (refine (bload_any _ 0 _ q0).mono ?_); rintro e w1 ⟨rfl, rfl⟩)
    | (go_at_call 121; go_must (refine HS.out.mono ?_); rintro e w2 ⟨k2, rfl, h2, r2, t2⟩; have HQ := Lib.hid (And.intro h2 (And.intro r2 t2)); clear h2 r2 t2))
  go_end0
  obtain ⟨h2, r2, t2⟩ := HQ.out
  exact ⟨k2, rfl, h2, r2, t2⟩
/-- A lazy clock: not made yet (with the calendar's box), or made. Its own block is x; all the rest lies in G, but for the blocks of the clock's own lazy sums, which lie in Y. -/
def LkAt (w : World) (x : Nat) (c : Ca) (G Y : Nat → Prop) : Prop :=
  (∃ sm ak o A B k m, Blk w x 170 (lzC 0 0 sm 0 ak (mkF o) (.pointer none)) ∧ Blk w o 51 (caA c A B k m) ∧ CaR w G c A B ∧ G o) ∨
  (∃ sm ak kk a p b, Blk w x 170 (lzC 1 0 sm 1 ak .nilFunc (.pointer (some ⟨kk, 0, none⟩))) ∧ CkAt w kk a p b c G ∧ Y b)
theorem LkAt.lt {w : World} {x : Nat} {c : Ca} {G Y : Nat → Prop} (h : LkAt w x c G Y) : x < w.heap.size := by
  rcases h with ⟨sm, ak, o, A, B, k, m, hb, -⟩ | ⟨sm, ak, kk, a, p, b, hb, -⟩ <;> exact hb.lt
theorem LkAt.touch {w w' : World} {x : Nat} {c : Ca} {G Y S : Nat → Prop} (h : LkAt w x c G Y) (t : Touch S w w') (hx : ¬ S x) (hG : ∀ q, G q → ¬ S q) (hY : ∀ q, Y q → ¬ S q) : LkAt w' x c G Y := by
  rcases h with ⟨sm, ak, o, A, B, k, m, hb, ho, hr, hg⟩ | ⟨sm, ak, kk, a, p, b, hb, hk, hy⟩
  · exact .inl ⟨sm, ak, o, A, B, k, m, t.blk hb hx, t.blk ho (hG o hg), hr.touch t hG, hg⟩
  · exact .inr ⟨sm, ak, kk, a, p, b, t.blk hb hx, hk.touch t (hY b hy) hG, hy⟩
theorem LkAt.mono {w : World} {x : Nat} {c : Ca} {G Y G' Y' : Nat → Prop} (h : LkAt w x c G Y) (hG : ∀ q, G q → G' q) (hY : ∀ q, Y q → Y' q) (hd : ∀ q, Y q → ¬ G' q) : LkAt w x c G' Y' := by
  rcases h with ⟨sm, ak, o, A, B, k, m, hb, ho, hr, hg⟩ | ⟨sm, ak, kk, a, p, b, hb, hk, hy⟩
  · exact .inl ⟨sm, ak, o, A, B, k, m, hb, ho, ⟨hr.wk.mono hG, hr.cl.mono hG⟩, hG o hg⟩
  · exact .inr ⟨sm, ak, kk, a, p, b, hb, hk.grow hG (hd b hy), hY b hy⟩
/-- What Get hands back. -/
def GetK (x : Nat) (c : Ca) (G Y : Nat → Prop) (w : World) (e : Ending) (w' : World) : Prop :=
  ∃ k a p b G' Y', e = .returned (.pointer (some ⟨k, 0, none⟩)) ∧ LkAt w' x c G' Y' ∧ CkAt w' k a p b c G' ∧ Y' b ∧ (∀ q, G' q → G q ∨ (w.heap.size ≤ q ∧ q < w'.heap.size)) ∧ (∀ q, Y' q → Y q ∨ (w.heap.size ≤ q ∧ q < w'.heap.size)) ∧ (∀ q, Y' q → ¬ G' q) ∧ (∀ q, Y' q → q ≠ x) ∧ Touch (fun q => q = x) w w'
theorem getK_any (x : Nat) (c : Ca) (G Y : Nat → Prop) (w : World) (h : LkAt w x c G Y) (hc : c.Ok) (hxG : ¬ G x) (hxY : ¬ Y x) (hYG : ∀ q, Y q → ¬ G q) (hGl : ∀ q, G q → q < w.heap.size) (hYl : ∀ q, Y q → q < w.heap.size) :
    Calls Tryz.prog 63 #[.pointer (some ⟨x, 0, none⟩)] w (GetK x c G Y w) := by
  have hxl := h.lt
  have hG : ∀ q, G q → ¬ q = x := fun q hq e => hxG (e ▸ hq)
  have hmf : ∀ (fn : Fn) (first cap : Array Value) (w : World), (Instr.makeFunc fn first cap).run Tryz.prog w = .ok (.func fn first cap) w := fun _ _ _ _ => rfl
  rcases h with ⟨sm, ak, o, A, B, k, m, hb, ho, hr, hg⟩ | ⟨sm, ak, kk, a, p, b, hb, hk, hy⟩
  · have q4 := hb.cell 4
    simp [lzC] at q4
    have z4 := hb.frozen 4
    have HT1 := Lib.hid (fun s : Int => (Touch.refl (fun q => q = x) w).set (b := x) (o := 4) (fun _ => rfl) (.int .i64 s))
    have HF := Lib.hid (fun s : Int => doK_first x o sm s G A B k m c (w.setCell ⟨x, 4, none⟩ (.int .i64 s)) (by simpa [lzC] using hb.set_ 4 (.int .i64 s)) ((HT1.out s).blk ho (hG o hg)) (hG o hg) (hr.touch (HT1.out s) hG) hG hc)
    have HGl := Lib.hid hGl
    have HYl := Lib.hid hYl
    have HYG := Lib.hid hYG
    have HxG := Lib.hid (And.intro hxG hxY)
    clear hb ho hr hg hc hG hGl hYl hYG hxG hxY
    go_enter Tryz.func63, Tryz.ntmps63
    go_wp2_with (first
      | (go_at_call 93; go_must (refine (iadd_any _ ak 1 _ q4 z4).mono ?_); rintro e w1 ⟨rfl, rfl⟩; generalize IntKind.i64.wrap (ak + 1) = s)
      | (go_at_call 94; go_must (refine (HF.out s).mono ?_); rintro e w2 ⟨k2, rfl, h2, r2, t2⟩; have HQ := Lib.hid (And.intro h2 (And.intro r2 t2)); have q6 := h2.cell 6; simp [lzC] at q6; clear h2 r2 t2))
    go_ret
    obtain ⟨h2, ⟨a, p, b, r2, hb1, hb2⟩, t2⟩ := HQ.out
    have ht := (HT1.out s).trans t2 (fun _ _ e => e)
    have s1 : (w.setCell ⟨x, 4, none⟩ (.int .i64 s)).heap.size = w.heap.size := by simp [World.setCell]
    rw [s1] at r2 hb1
    have hk2 : CkAt w2 k2 a p b c (fun q => (w.heap.size ≤ q ∧ q < w2.heap.size) ∧ q ≠ b) := r2.grow (fun q hq => ⟨⟨hq.1, hq.2.1⟩, hq.2.2⟩) (fun e => e.2 rfl)
    exact ⟨k2, a, p, b, fun q => (w.heap.size ≤ q ∧ q < w2.heap.size) ∧ q ≠ b, fun q => q = b, rfl, .inr ⟨sm, s, k2, a, p, b, h2, hk2, rfl⟩, hk2, rfl, fun q hq => .inr hq.1, fun q hq => .inr (by subst hq; exact ⟨hb1, hb2⟩), fun q hq e => e.2 hq, fun q hq => by omega, ht⟩
  · have q4 := hb.cell 4
    simp [lzC] at q4
    have z4 := hb.frozen 4
    have HT1 := Lib.hid (fun s : Int => (Touch.refl (fun q => q = x) w).set (b := x) (o := 4) (fun _ => rfl) (.int .i64 s))
    have HB1 := Lib.hid (fun s : Int => (show Blk (w.setCell ⟨x, 4, none⟩ (.int .i64 s)) x 170 (lzC 1 0 sm 1 s .nilFunc (.pointer (some ⟨kk, 0, none⟩))) by simpa [lzC] using hb.set_ 4 (.int .i64 s)))
    have HK := Lib.hid hk
    have HG := Lib.hid hG
    have HY := Lib.hid hy
    have HYG := Lib.hid hYG
    have HxG := Lib.hid (And.intro hxG hxY)
    clear hb hk hG hGl hYl hYG hxG hxY hy hc
    go_enter Tryz.func63, Tryz.ntmps63
    go_wp2_with (first
      | (go_at_call 93; go_must (refine (iadd_any _ ak 1 _ q4 z4).mono ?_); rintro e w1 ⟨rfl, rfl⟩; generalize IntKind.i64.wrap (ak + 1) = s; have q6 := (HB1.out s).cell 6; simp [lzC] at q6)
      | (go_at_call 94; go_must (refine (do_done _ _ _ (by exact ((HB1.out s).cell 0).trans (by simp [lzC]))).mono ?_); rintro e w2 ⟨rfl, rfl⟩))
    go_ret
    have hk' := HK.out.touch (HT1.out s) (fun e => HxG.out.2 (e ▸ HY.out)) HG.out
    exact ⟨kk, a, p, b, G, Y, rfl, .inr ⟨sm, s, kk, a, p, b, HB1.out s, hk', HY.out⟩, hk', HY.out, fun q hq => .inl hq, fun q hq => .inl hq, HYG.out, fun q hq e => HxG.out.2 (e ▸ hq), HT1.out s⟩
theorem lnewK_any (o : Nat) (w : World) : Calls Tryz.prog 55 #[mkF o] w fun e w' => e = .returned (.pointer (some ⟨w.heap.size, 0, none⟩)) ∧ Blk w' w.heap.size 170 (lzC 0 0 0 0 0 (mkF o) (.pointer none)) ∧ Touch (fun _ => False) w w' := by
  have HB := Lib.hid (Blk.new w 170 (lzC 0 0 0 0 0 (mkF o) (.pointer none)))
  have HT := Lib.hid ((Touch.refl (fun _ => False) w).alloc (.cells (lzC 0 0 0 0 0 (mkF o) (.pointer none)) 170))
  unfold mkF at *
  go_enter Tryz.func55, Tryz.ntmps55
  go_wp2
  go_ret
  exact ⟨rfl, HB.out, HT.out⟩
end Go.Proofs.YtlcefchbfjfifaaGreat
end

section
namespace Go.Proofs.YtlcefchbfjfifaaGreat
open Go.RowKit Cal
set_option maxHeartbeats 4000000
set_option maxRecDepth 100000
set_option linter.unusedVariables false

/-- A contract; its levels as pairs (f the budget, t the party). -/
structure Co where
  cal : Int
  lv : List Sp
  rt : Int
  bk : Int
def wB (n lo hi : Int) : Bool := decide (lo ≤ n) && decide (n ≤ hi)
theorem wB_true {n lo hi : Int} (h : wB n lo hi = true) : lo ≤ n ∧ n ≤ hi := by simpa [wB] using h
theorem wB_false {n lo hi : Int} (h : wB n lo hi = false) : n < lo ∨ hi < n := by
  by_cases h1 : lo ≤ n
  · right; simp [wB, h1] at h; exact h
  · left; omega
theorem wB_of {n lo hi : Int} (h1 : lo ≤ n) (h2 : n ≤ hi) : wB n lo hi = true := by simp [wB, h1, h2]
def lvB (s : Sp) : Bool := wB s.f 1 1125899906842624 && wB s.t 0 7
def lvsB : List Sp → Bool
  | [] => true
  | s :: l => lvB s && lvsB l
def hdB (c : Co) : Bool := wB c.cal 0 7 && wB c.lv.length 1 6 && wB c.rt 1 8 && wB c.bk 1 1048576
def goodB (c : Co) : Bool := hdB c && lvsB c.lv
def goodE (c : Co) : Int := if goodB c = true then 0 else 2
theorem lvsB_drop {l : List Sp} {j : Nat} {s : Sp} (h : l[j]? = some s) : lvsB (l.drop j) = (lvB s && lvsB (l.drop (j + 1))) := by
  obtain ⟨h1, h2⟩ := List.getElem?_eq_some_iff.1 h
  rw [List.drop_eq_getElem_cons h1, h2, lvsB]
theorem lvsB_mem : ∀ {l : List Sp}, lvsB l = true → ∀ s ∈ l, 1 ≤ s.f ∧ s.f ≤ 1125899906842624 ∧ 0 ≤ s.t ∧ s.t ≤ 7
  | [], _, s, hs => by cases hs
  | a :: l, h, s, hs => by
    simp only [lvsB, Bool.and_eq_true] at h
    rcases List.mem_cons.1 hs with rfl | hs
    · have := h.1; simp only [lvB, Bool.and_eq_true] at this
      have h1 := wB_true this.1; have h2 := wB_true this.2; omega
    · exact lvsB_mem h.2 s hs
theorem good_hd {c : Co} (h : goodB c = true) : 0 ≤ c.cal ∧ c.cal ≤ 7 ∧ 1 ≤ c.lv.length ∧ c.lv.length ≤ 6 ∧ 1 ≤ c.rt ∧ c.rt ≤ 8 ∧ 1 ≤ c.bk ∧ c.bk ≤ 1048576 := by
  simp only [goodB, hdB, Bool.and_eq_true] at h
  have h1 := wB_true h.1.1.1.1; have h2 := wB_true h.1.1.1.2; have h3 := wB_true h.1.1.2; have h4 := wB_true h.1.2; omega
theorem good_lv {c : Co} (h : goodB c = true) : ∀ s ∈ c.lv, 1 ≤ s.f ∧ s.f ≤ 1125899906842624 ∧ 0 ≤ s.t ∧ s.t ≤ 7 := by
  simp only [goodB, Bool.and_eq_true] at h; exact lvsB_mem h.2
theorem good0 {c : Co} (h : hdB c = false) : goodB c = false := by simp [goodB, h]
theorem good1 {c : Co} (h : hdB c = true) : goodB c = lvsB c.lv := by simp [goodB, h]

theorem within_any (n lo hi : Int) (w : World) : Calls Tryz.prog 38 #[.int .i64 n, .int .i64 lo, .int .i64 hi] w fun e w' => e = .returned (.bool (wB n lo hi)) ∧ w = w' := by
  go_enter Tryz.func38, Tryz.ntmps38
  go_wp2
  all_goals go_ret
  all_goals exact ⟨ret_bool (by unfold wB; simp <;> omega), rfl⟩
theorem kcheck_any (F : Nat → Prop) (A : Option Addr) (n : Nat) (c : Co) (w : World) (hr : SpR w F A c.lv.length c.lv) :
    Calls Tryz.prog 9 #[.agg #[.int .i64 c.cal, .slice A c.lv.length n, .int .i64 c.rt, .int .i64 c.bk]] w fun e w' => e = .returned (.int .i64 (goodE c)) ∧ Touch (fun _ => False) w w' := by
  have HT := Lib.hid ((Touch.refl (fun _ => False) w).alloc (.cells #[.int .i64 c.cal, .slice A c.lv.length n, .int .i64 c.rt, .int .i64 c.bk] 24))
  have HB0 := Lib.hid (Blk.new w 24 #[.int .i64 c.cal, .slice A c.lv.length n, .int .i64 c.rt, .int .i64 c.bk])
  have HR := Lib.hid hr
  have HE := Lib.hid (show goodE c = if goodB c = true then 0 else 2 from rfl)
  have HG0 := Lib.hid (fun h => good0 (c := c) h)
  have HG1 := Lib.hid (fun h => good1 (c := c) h)
  have HH := Lib.hid (show hdB c = (wB c.cal 0 7 && wB c.lv.length 1 6 && wB c.rt 1 8 && wB c.bk 1 1048576) from rfl)
  generalize goodE c = v at *
  generalize goodB c = gd at *
  generalize hdB c = hd at *
  clear hr
  cases h0 : wB c.cal 0 7
  · have HV := Lib.hid (show v = 2 by rw [HE.out, HG0.out (by rw [HH.out]; simp [h0])]; rfl)
    clear HE HG0 HG1 HH
    go_enter Tryz.func9, Tryz.ntmps9
    go_wp2_with (go_at_call 38; go_must (refine (within_any _ _ _ _).mono ?_); rintro e w1 ⟨rfl, rfl⟩)
    go_ret
    exact ⟨ret_int HV.out.symm, HT.out⟩
  cases h1 : wB (c.lv.length : Int) 1 6
  · have HV := Lib.hid (show v = 2 by rw [HE.out, HG0.out (by rw [HH.out]; simp [h0, h1])]; rfl)
    clear HE HG0 HG1 HH
    go_enter Tryz.func9, Tryz.ntmps9
    go_wp2_with (go_at_call 38; go_must (refine (within_any _ _ _ _).mono ?_); rintro e w1 ⟨rfl, rfl⟩)
    go_ret
    exact ⟨ret_int HV.out.symm, HT.out⟩
  cases h2 : wB c.rt 1 8
  · have HV := Lib.hid (show v = 2 by rw [HE.out, HG0.out (by rw [HH.out]; simp [h0, h1, h2])]; rfl)
    clear HE HG0 HG1 HH
    go_enter Tryz.func9, Tryz.ntmps9
    go_wp2_with (go_at_call 38; go_must (refine (within_any _ _ _ _).mono ?_); rintro e w1 ⟨rfl, rfl⟩)
    go_ret
    exact ⟨ret_int HV.out.symm, HT.out⟩
  cases h3 : wB c.bk 1 1048576
  · have HV := Lib.hid (show v = 2 by rw [HE.out, HG0.out (by rw [HH.out]; simp [h0, h1, h2, h3])]; rfl)
    clear HE HG0 HG1 HH
    go_enter Tryz.func9, Tryz.ntmps9
    go_wp2_with (go_at_call 38; go_must (refine (within_any _ _ _ _).mono ?_); rintro e w1 ⟨rfl, rfl⟩)
    go_ret
    exact ⟨ret_int HV.out.symm, HT.out⟩
  have HV := Lib.hid (show v = if lvsB c.lv = true then 0 else 2 by rw [HE.out, HG1.out (by rw [HH.out]; simp [h0, h1, h2, h3])])
  have hl := wB_true h1
  obtain ⟨cal, lv, rt, bk⟩ := c
  simp only at *
  clear HE HG0 HG1 HH
  go_enter Tryz.func9, Tryz.ntmps9
  go_wp2_with (go_at_call 38; go_must (refine (within_any _ _ _ _).mono ?_); rintro e w1 ⟨rfl, rfl⟩)
  go_loopw [32] (fun i wr => ∃ j : Nat, j ≤ lv.length ∧ i = .int .i64 j ∧ lvsB (lv.drop j) = lvsB lv ∧ Touch (fun _ => False) w wr) (fun i _ => lv.length - (intOf i).toNat)
  case atStart => exact ⟨0, by omega, rfl, rfl, HT.out⟩
  case round =>
    obtain ⟨j, hj, rfl, hno, hT⟩ := hrel
    have HN := Lib.hid hno
    have HTr := Lib.hid hT
    clear hno hT h0 h1 h2 h3
    by_cases hjk : j < lv.length
    · have ha : lv[j]? = some (lv[j]'hjk) := List.getElem?_eq_getElem _
      obtain ⟨g, off, rfl, hg, -, hc0, hc1⟩ := (HR.out.touch HTr.out (fun _ _ e => e)).at_ ha
      have HD := Lib.hid (lvsB_drop ha)
      generalize lv[j]'hjk = s at *
      obtain ⟨f, t⟩ := s
      simp only [lvB] at hc0 hc1 HD
      clear ha
      have HTa := Lib.hid (HTr.out.alloc (.cells #[.int .i64 f, .int .i64 t] 68))
      cases hf : wB f 1 1125899906842624
      · have HV2 := Lib.hid (show v = 2 by rw [HV.out, ← HN.out, HD.out, hf]; rfl)
        clear HV HN HD
        go_wp2_with (go_at_call 38; go_must (refine (within_any _ _ _ _).mono ?_); rintro e w1 ⟨rfl, rfl⟩)
        go_ret
        exact ⟨ret_int HV2.out.symm, HTa.out⟩
      cases ht : wB t 0 7
      · have HV2 := Lib.hid (show v = 2 by rw [HV.out, ← HN.out, HD.out, hf, ht]; rfl)
        clear HV HN HD
        go_wp2_with (go_at_call 38; go_must (refine (within_any _ _ _ _).mono ?_); rintro e w1 ⟨rfl, rfl⟩)
        go_ret
        exact ⟨ret_int HV2.out.symm, HTa.out⟩
      have HN2 := Lib.hid (show lvsB (lv.drop (j + 1)) = lvsB lv by rw [← HN.out, HD.out, hf, ht]; rfl)
      clear HN HD
      go_wp2_with (go_at_call 38; go_must (refine (within_any _ _ _ _).mono ?_); rintro e w1 ⟨rfl, rfl⟩)
      go_roundw
      case rel => exact ⟨j + 1, by omega, by go_num, HN2.out, HTa.out⟩
      case measure => simp [intOf]; omega
    · obtain rfl : j = lv.length := by omega
      have HV2 := Lib.hid (show v = 0 by rw [HV.out, ← HN.out, List.drop_length]; rfl)
      clear HV HN
      go_wp2
      go_ret
      exact ⟨ret_int HV2.out.symm, HTr.out⟩
theorem fgood_any (F : Nat → Prop) (A : Option Addr) (n : Nat) (c : Co) (w : World) (hr : SpR w F A c.lv.length c.lv) :
    Calls Tryz.prog 10 #[.agg #[.int .i64 c.cal, .slice A c.lv.length n, .int .i64 c.rt, .int .i64 c.bk]] w fun e w' => e = .returned (.bool (goodB c)) ∧ Touch (fun _ => False) w w' := by
  have HT := Lib.hid ((Touch.refl (fun _ => False) w).alloc (.cells #[.int .i64 c.cal, .slice A c.lv.length n, .int .i64 c.rt, .int .i64 c.bk] 24))
  have HB0 := Lib.hid (Blk.new w 24 #[.int .i64 c.cal, .slice A c.lv.length n, .int .i64 c.rt, .int .i64 c.bk])
  have HR := Lib.hid hr
  have HG0 := Lib.hid (fun h => good0 (c := c) h)
  have HG1 := Lib.hid (fun h => good1 (c := c) h)
  have HH := Lib.hid (show hdB c = (wB c.cal 0 7 && wB c.lv.length 1 6 && wB c.rt 1 8 && wB c.bk 1 1048576) from rfl)
  generalize goodB c = v at *
  generalize hdB c = hd at *
  clear hr
  by_cases h0 : c.cal < 0
  · have HV := Lib.hid (show v = false by rw [HG0.out (by rw [HH.out]; rcases Bool.eq_false_or_eq_true (wB c.cal 0 7) with h | h; exact absurd (wB_true h) (by omega); simp [h])])
    clear HG0 HG1 HH
    go_enter Tryz.func10, Tryz.ntmps10
    go_wp2
    go_ret
    exact ⟨ret_bool HV.out.symm, HT.out⟩
  by_cases h1 : 7 < c.cal
  · have HV := Lib.hid (show v = false by rw [HG0.out (by rw [HH.out]; rcases Bool.eq_false_or_eq_true (wB c.cal 0 7) with h | h; exact absurd (wB_true h) (by omega); simp [h])])
    clear HG0 HG1 HH
    go_enter Tryz.func10, Tryz.ntmps10
    go_wp2
    go_ret
    exact ⟨ret_bool HV.out.symm, HT.out⟩
  by_cases h2 : (c.lv.length : Int) < 1
  · have HV := Lib.hid (show v = false by rw [HG0.out (by rw [HH.out]; rcases Bool.eq_false_or_eq_true (wB (c.lv.length : Int) 1 6) with h | h; exact absurd (wB_true h) (by omega); simp [h])])
    clear HG0 HG1 HH
    go_enter Tryz.func10, Tryz.ntmps10
    go_wp2
    go_ret
    exact ⟨ret_bool HV.out.symm, HT.out⟩
  by_cases h3 : 6 < (c.lv.length : Int)
  · have HV := Lib.hid (show v = false by rw [HG0.out (by rw [HH.out]; rcases Bool.eq_false_or_eq_true (wB (c.lv.length : Int) 1 6) with h | h; exact absurd (wB_true h) (by omega); simp [h])])
    clear HG0 HG1 HH
    go_enter Tryz.func10, Tryz.ntmps10
    go_wp2
    go_ret
    exact ⟨ret_bool HV.out.symm, HT.out⟩
  by_cases h4 : c.rt < 1
  · have HV := Lib.hid (show v = false by rw [HG0.out (by rw [HH.out]; rcases Bool.eq_false_or_eq_true (wB c.rt 1 8) with h | h; exact absurd (wB_true h) (by omega); simp [h])])
    clear HG0 HG1 HH
    go_enter Tryz.func10, Tryz.ntmps10
    go_wp2
    go_ret
    exact ⟨ret_bool HV.out.symm, HT.out⟩
  by_cases h5 : 8 < c.rt
  · have HV := Lib.hid (show v = false by rw [HG0.out (by rw [HH.out]; rcases Bool.eq_false_or_eq_true (wB c.rt 1 8) with h | h; exact absurd (wB_true h) (by omega); simp [h])])
    clear HG0 HG1 HH
    go_enter Tryz.func10, Tryz.ntmps10
    go_wp2
    go_ret
    exact ⟨ret_bool HV.out.symm, HT.out⟩
  by_cases h6 : c.bk < 1
  · have HV := Lib.hid (show v = false by rw [HG0.out (by rw [HH.out]; rcases Bool.eq_false_or_eq_true (wB c.bk 1 1048576) with h | h; exact absurd (wB_true h) (by omega); simp [h])])
    clear HG0 HG1 HH
    go_enter Tryz.func10, Tryz.ntmps10
    go_wp2
    go_ret
    exact ⟨ret_bool HV.out.symm, HT.out⟩
  by_cases h7 : 1048576 < c.bk
  · have HV := Lib.hid (show v = false by rw [HG0.out (by rw [HH.out]; rcases Bool.eq_false_or_eq_true (wB c.bk 1 1048576) with h | h; exact absurd (wB_true h) (by omega); simp [h])])
    clear HG0 HG1 HH
    go_enter Tryz.func10, Tryz.ntmps10
    go_wp2
    go_ret
    exact ⟨ret_bool HV.out.symm, HT.out⟩
  have HV := Lib.hid (show v = lvsB c.lv by rw [HG1.out (by rw [HH.out]; simp only [wB_of (show 0 ≤ c.cal by omega) (show c.cal ≤ 7 by omega), wB_of (show (1 : Int) ≤ c.lv.length by omega) (show (c.lv.length : Int) ≤ 6 by omega), wB_of (show 1 ≤ c.rt by omega) (show c.rt ≤ 8 by omega), wB_of (show 1 ≤ c.bk by omega) (show c.bk ≤ 1048576 by omega)]; rfl)])
  have hl : c.lv.length ≤ 6 := by omega
  obtain ⟨cal, lv, rt, bk⟩ := c
  simp only at *
  clear HG0 HG1 HH
  go_enter Tryz.func10, Tryz.ntmps10
  go_wp2_with fail
  go_loopw [3] (fun i wr => ∃ j : Nat, j ≤ lv.length ∧ i = .int .i64 j ∧ lvsB (lv.drop j) = lvsB lv ∧ Touch (fun _ => False) (w.alloc (.cells #[.int .i64 cal, .slice A lv.length n, .int .i64 rt, .int .i64 bk] 24)) wr) (fun i _ => lv.length - (intOf i).toNat)
  case atStart => exact ⟨0, by omega, rfl, rfl, Touch.refl _ _⟩
  case round =>
    obtain ⟨j, hj, rfl, hno, hT⟩ := hrel
    have HN := Lib.hid hno
    have HTr := Lib.hid hT
    have hbr := hT.blk HB0.out (fun e => e)
    have q1 := hbr.cell 1
    simp at q1
    clear hno hT h0 h1 h2 h3 h4 h5 h6 h7 hbr
    by_cases hjk : j < lv.length
    · have ha : lv[j]? = some (lv[j]'hjk) := List.getElem?_eq_getElem _
      obtain ⟨g, off, rfl, hg, -, hc0, hc1⟩ := (HR.out.touch (HT.out.trans HTr.out (fun _ _ e => e)) (fun _ _ e => e)).at_ ha
      have HD := Lib.hid (lvsB_drop ha)
      generalize lv[j]'hjk = s at *
      obtain ⟨f, t⟩ := s
      simp only [lvB] at hc0 hc1 HD
      clear ha
      have HTa := Lib.hid (HTr.out.alloc (.cells #[.int .i64 f, .int .i64 t] 68))
      by_cases hok : (1 ≤ f ∧ f ≤ 1125899906842624) ∧ 0 ≤ t ∧ t ≤ 7
      · have HN2 := Lib.hid (show lvsB (lv.drop (j + 1)) = lvsB lv by rw [← HN.out, HD.out, wB_of hok.1.1 hok.1.2, wB_of hok.2.1 hok.2.2]; rfl)
        clear HN HD
        have x0 : ¬ f < 1 := by omega
        have x1 : ¬ 1125899906842624 < f := by omega
        have x2 : ¬ t < 0 := by omega
        have x3 : ¬ 7 < t := by omega
        clear hok
        go_wp2_with fail
        go_roundw
        case rel => exact ⟨j + 1, by omega, by go_num, HN2.out, HTa.out⟩
        case measure => simp [intOf]; omega
      · have HV2 := Lib.hid (show v = false by
          rw [HV.out, ← HN.out, HD.out]
          rcases Bool.eq_false_or_eq_true (wB f 1 1125899906842624) with h | h
          · rcases Bool.eq_false_or_eq_true (wB t 0 7) with h' | h'
            · exact absurd ⟨wB_true h, wB_true h'⟩ hok
            · rw [h']; simp
          · rw [h]; rfl)
        clear HN HD HV
        by_cases x0 : f < 1
        · go_wp2
          go_ret
          exact ⟨ret_bool HV2.out.symm, HT.out.trans HTa.out (fun _ _ e => e)⟩
        by_cases x1 : 1125899906842624 < f
        · go_wp2
          go_ret
          exact ⟨ret_bool HV2.out.symm, HT.out.trans HTa.out (fun _ _ e => e)⟩
        by_cases x2 : t < 0
        · go_wp2
          go_ret
          exact ⟨ret_bool HV2.out.symm, HT.out.trans HTa.out (fun _ _ e => e)⟩
        have x3 : 7 < t := by omega
        go_wp2
        go_ret
        exact ⟨ret_bool HV2.out.symm, HT.out.trans HTa.out (fun _ _ e => e)⟩
    · obtain rfl : j = lv.length := by omega
      have HV2 := Lib.hid (show v = true by rw [HV.out, ← HN.out, List.drop_length]; rfl)
      clear HV HN
      go_wp2
      go_ret
      exact ⟨ret_bool HV2.out.symm, HT.out.trans HTr.out (fun _ _ e => e)⟩
end Go.Proofs.YtlcefchbfjfifaaGreat
end
