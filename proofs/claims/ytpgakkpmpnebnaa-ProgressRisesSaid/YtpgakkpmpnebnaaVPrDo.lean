/- law31.do: a call, both ways. (written by genprdo.py) -/
import Derived.Test.YtpgakkpmpnebnaaVPrI
import Derived.Test.YtpgakkpmpnebnaaVPrV
import Derived.Test.YtpgakkpmpnebnaaVPrW
namespace Go.Proofs.Ytpgakkpmpnebnaa
open Go.RowKit Go.Maps Prg
set_option maxHeartbeats 4000000
set_option maxRecDepth 100000
set_option linter.unusedVariables false

def stepT (o : POpV) (t : Tb) : Tb := if o.kind = 1 then refusedT t o.node o.n else if o.kind = 2 then heardT t o.node o.n else if o.kind = 3 then setR t o.list o.n else if o.kind = 4 then calmT t else tookT t o.node o.n
def stepR (o : POpV) (t : Tb) : Bool := if o.kind = 1 then refusedR t o.node o.n else if o.kind = 2 then (t o.node).isSome else if o.kind = 3 then setB o.n else if o.kind = 4 then liveB t o.list o.node else tookR t o.node o.n
def DoP (g b : Nat) (t' s' : Tb) (B : Bool) (F : Nat → Prop) (w : World) (e : Ending) (w' : World) : Prop :=
  e = .returned (.tuple #[.agg (refT s'), .bool B]) ∧ ∃ F', PgAt w' g b t' F' ∧ (∀ k, F' k → F k ∨ w.heap.size ≤ k) ∧ Touch F w w'
/-- Behind the program's own call: its table, the blocks of the law's call. -/
structure DoW (w w2 : World) (g b : Nat) (t : Tb) (F : Nat → Prop) (C P Z : Array Value) : Prop where
  p : ∃ F', PgAt w2 g b t F' ∧ ∀ k, F' k → F k ∨ w.heap.size + 3 ≤ k
  c : Blk w2 w.heap.size 37 C
  o : Blk w2 (w.heap.size + 1) 31 P
  z : Blk w2 (w.heap.size + 2) 37 Z
  t : Touch F w w2
theorem DoW.none_ {w w1 w2 : World} {g b : Nat} {t : Tb} {F : Nat → Prop} {C P Z : Array Value} (h : DoW w w1 g b t F C P Z) (tt : Touch (fun _ => False) w1 w2) : DoW w w2 g b t F C P Z := by
  obtain ⟨⟨F', hp, hF⟩, hc, ho, hz, ht⟩ := h
  exact ⟨⟨F', hp.none_ tt, hF⟩, tt.blk hc (fun e => e), tt.blk ho (fun e => e), tt.blk hz (fun e => e), ht.trans tt (fun q _ e => e.elim)⟩
theorem DoW.setC {w w1 w2 : World} {g b : Nat} {t : Tb} {F : Nat → Prop} {C C' P Z : Array Value} (h : DoW w w1 g b t F C P Z) (hg : g < w.heap.size) (hFl : ∀ k, F k → k < w.heap.size) (tt : Touch (fun q => q = w.heap.size) w1 w2) (hb : Blk w2 w.heap.size 37 C') : DoW w w2 g b t F C' P Z := by
  obtain ⟨⟨F', hp, hF⟩, hc, ho, hz, ht⟩ := h
  exact ⟨⟨F', hp.touch tt (by omega) (fun k hk e => by rcases hF k hk with h | h; exact absurd (hFl k h) (by omega); omega), hF⟩, hb, tt.blk ho (by omega), tt.blk hz (by omega), ht.trans tt (fun q hq e => by omega)⟩
theorem DoW.setZ {w w1 w2 : World} {g b : Nat} {t : Tb} {F : Nat → Prop} {C P Z : Array Value} (h : DoW w w1 g b t F C P Z) (hg : g < w.heap.size) (hFl : ∀ k, F k → k < w.heap.size) (tt : Touch (fun q => q = w.heap.size + 2) w1 w2) : (∃ F', PgAt w2 g b t F' ∧ ∀ k, F' k → F k ∨ w.heap.size + 3 ≤ k) ∧ Touch F w w2 := by
  obtain ⟨⟨F', hp, hF⟩, hc, ho, hz, ht⟩ := h
  exact ⟨⟨F', hp.touch tt (by omega) (fun k hk e => by rcases hF k hk with h | h; exact absurd (hFl k h) (by omega); omega), hF⟩, ht.trans tt (fun q hq e => by omega)⟩
/-- The program's call is behind us. -/
theorem DoW.of {w W w2 : World} {g b : Nat} {t' : Tb} {F F' : Nat → Prop} {C P Z : Array Value} (hc : Blk W w.heap.size 37 C) (ho : Blk W (w.heap.size + 1) 31 P) (hz : Blk W (w.heap.size + 2) 37 Z) (hFl : ∀ k, F k → k < w.heap.size) (ht : Touch (fun _ => False) w W)
    (hp : PgAt w2 g b t' F') (hF : ∀ k, F' k → F k ∨ W.heap.size ≤ k) (tt : Touch F W w2) : DoW w w2 g b t' F C P Z := by
  have hzl := hz.lt
  exact ⟨⟨F', hp, fun k hk => (hF k hk).imp id (fun h => by omega)⟩, tt.blk hc (fun e => by have := hFl _ e; omega), tt.blk ho (fun e => by have := hFl _ e; omega), tt.blk hz (fun e => by have := hFl _ e; omega), (ht.mono (fun _ _ e => e.elim)).trans tt (fun _ _ e => e)⟩
theorem do_Refused (g b : Nat) (t s : Tb) (oks : s.Ok) (F F0 : Nat → Prop) (kd nd : Int) (m : Nat) (ls : List Int) (A : Option Addr) (c : Nat) (w : World) (hp : PgAt w g b t F) (hnd : inI nd) (hm : m < 18446744073709551616) (hr : Rd w F0 A ls.length (ls.map I64)) (hsm : ls.length ≤ 1000000) (hd : ∀ k, F0 k → ¬ F k) :
    Calls Try.prog 15 #[.pointer (some ⟨g, 0, none⟩), .agg (refT s), .agg #[.int .i64 1, .int .i64 nd, .int .u64 m, .slice A ls.length c]] w (DoP g b (refusedT t nd m) (refusedT s nd m) ((refusedR t nd m) == (refusedR s nd m)) F w) := by
  obtain ⟨PV, hPV⟩ : ∃ PV : Array Value, PV = #[.int .i64 1, .int .i64 nd, .int .u64 m, .slice A ls.length c] := ⟨_, rfl⟩
  obtain ⟨W, hW⟩ : ∃ W, W = (((w.alloc (.cells (refT s) 37)).alloc (.cells #[.int .i64 1, .int .i64 nd, .int .u64 m, .slice A ls.length c] 31)).alloc (.cells zTb 37)) := ⟨_, rfl⟩
  have hT : Touch (fun _ => False) w W := hW ▸ (((Touch.refl _ w).alloc _).alloc _).alloc _
  have hC : Blk W w.heap.size 37 (refT s) := hW ▸ ((Blk.new w _ (refT s)).alloc _).alloc _
  have hO : Blk W (w.heap.size + 1) 31 #[.int .i64 1, .int .i64 nd, .int .u64 m, .slice A ls.length c] := by
    have h := (Blk.new (w.alloc (.cells (refT s) 37)) 31 #[.int .i64 1, .int .i64 nd, .int .u64 m, .slice A ls.length c]).alloc (.cells zTb 37)
    rw [hW]; simpa using h
  have hZ : Blk W (w.heap.size + 2) 37 zTb := by
    have h := Blk.new ((w.alloc (.cells (refT s) 37)).alloc (.cells #[.int .i64 1, .int .i64 nd, .int .u64 m, .slice A ls.length c] 31)) 37 zTb
    rw [hW]; simpa using h
  have hFl := hp.lt
  have hgl := hp.gl
  have hp0 := hp
  replace hp := hp.none_ hT
  have hr0 : Rd W (fun k => F0 k ∧ k < w.heap.size) A ls.length (ls.map I64) := hr.lt_.touch hT (fun _ _ e => e)
  replace hd : ∀ k, (F0 k ∧ k < w.heap.size) → ¬ F k := fun k hk => hd k hk.1
  have HPr := Lib.hid (show Calls Try.prog 26 #[.pointer (some ⟨g, 0, none⟩), .int .i64 nd, .int .u64 m] W fun e w' => e = .returned (.bool (refusedR t nd m)) ∧ DoW w w' g b (refusedT t nd m) F (refT s) #[.int .i64 1, .int .i64 nd, .int .u64 m, .slice A ls.length c] zTb from by
    refine (prefused_any g b t F nd m W hp hnd hm).mono ?_
    rintro e w2 ⟨rfl, hp2, t2⟩; have hF2 : ∀ k, F k → F k ∨ W.heap.size ≤ k := fun k hk => .inl hk
    exact ⟨rfl, DoW.of hC hO hZ hFl hT hp2 hF2 t2⟩)
  have HRf := Lib.hid (show ∀ w1, Touch F w w1 → Calls Try.prog 54 #[.agg (refT s), .int .i64 nd, .int .u64 m] w1 (ROp (refusedT s nd m) (refusedR s nd m) w1) from fun w1 tt => by
    have hr1 : Rd w1 (fun k => F0 k ∧ k < w.heap.size) A ls.length (ls.map I64) := hr.lt_.touch tt hd
    exact frefused_any s oks nd hnd m hm w1)
  have HN := Lib.hid (refT_size s)
  have HN2 := Lib.hid (refT_size (refusedT s nd m))
  have H12 := Lib.hid (refT_one (refusedT s nd m))
  have HFl := Lib.hid hFl
  unfold DoP
  unfold ROp at HRf
  obtain ⟨D, hD⟩ : ∃ D, D = refT (refusedT s nd m) := ⟨_, rfl⟩
  obtain ⟨C, hCe⟩ : ∃ C, C = refT s := ⟨_, rfl⟩
  rw [← hD] at HRf HN2 H12 ⊢
  rw [← hCe] at HPr HRf HN hW ⊢
  obtain ⟨bt, hbt⟩ : ∃ bt, bt = (refusedR t nd m) := ⟨_, rfl⟩
  obtain ⟨bs, hbs⟩ : ∃ bs, bs = (refusedR s nd m) := ⟨_, rfl⟩
  rw [← hbt] at HPr ⊢
  rw [← hbs] at HRf
  rw [← hbs]
  rw [hW] at HPr
  clear hT hC hO hZ hp hp0 hr hr0 hd hPV PV hD hCe hbt hbs hW hFl
  go_enter Try.func15, Try.ntmps15
  go_wp2_with (first
    | (go_at_call 26; go_must (refine HPr.out.mono ?_); rintro e w2 ⟨rfl, hw2⟩
       have HW2 := Lib.hid hw2
       obtain ⟨c0, c1, c2, c3⟩ := hw2.o.c4
       clear hw2)
    | ((with_reducible apply HW2.out.c.ld rowTb HN.out); exact rfl; exact rfl; exact rfl)
    | (go_at_call 54; go_must (refine (HRf.out _ (by exact HW2.out.t)).mono ?_); rintro e w3 ⟨rfl, t3⟩
       have HW3 := Lib.hid (HW2.out.none_ t3)
       clear t3)
    | ((with_reducible apply HW3.out.c.st rowTb HN.out HN2.out H12.out); exact rfl; exact rfl; exact rfl; exact rfl; intro w4 hb4 t4
       have HW4 := Lib.hid (HW3.out.setC hgl HFl.out t4 hb4)
       clear hb4 t4)
    | ((with_reducible apply HW4.out.c.ld rowTb HN2.out); exact rfl; exact rfl; exact rfl)
    | ((with_reducible apply HW4.out.z.st rowTb rfl HN2.out H12.out); exact rfl; exact rfl; exact rfl; exact rfl; intro w5 hb5 t5
       have HB5 := Lib.hid hb5
       have HW5 := Lib.hid (HW4.out.setZ hgl HFl.out t5)
       clear hb5 t5))
  obtain ⟨⟨F', h1, h2⟩, h3⟩ := HW5.out
  refine bodyPost_ret (results_cell2 6 7 rowTb HN2.out (HB5.out.whole) rfl rfl) rfl ⟨?_, F', h1, fun k hk => (h2 k hk).imp id (fun h => by omega), h3⟩
  first
    | rfl
    | simp
theorem do_Heard (g b : Nat) (t s : Tb) (oks : s.Ok) (F F0 : Nat → Prop) (kd nd : Int) (m : Nat) (ls : List Int) (A : Option Addr) (c : Nat) (w : World) (hp : PgAt w g b t F) (hnd : inI nd) (hm : m < 18446744073709551616) (hr : Rd w F0 A ls.length (ls.map I64)) (hsm : ls.length ≤ 1000000) (hd : ∀ k, F0 k → ¬ F k) :
    Calls Try.prog 15 #[.pointer (some ⟨g, 0, none⟩), .agg (refT s), .agg #[.int .i64 2, .int .i64 nd, .int .u64 m, .slice A ls.length c]] w (DoP g b (heardT t nd m) (heardT s nd m) (((t nd).isSome) == ((s nd).isSome)) F w) := by
  obtain ⟨PV, hPV⟩ : ∃ PV : Array Value, PV = #[.int .i64 2, .int .i64 nd, .int .u64 m, .slice A ls.length c] := ⟨_, rfl⟩
  obtain ⟨W, hW⟩ : ∃ W, W = (((w.alloc (.cells (refT s) 37)).alloc (.cells #[.int .i64 2, .int .i64 nd, .int .u64 m, .slice A ls.length c] 31)).alloc (.cells zTb 37)) := ⟨_, rfl⟩
  have hT : Touch (fun _ => False) w W := hW ▸ (((Touch.refl _ w).alloc _).alloc _).alloc _
  have hC : Blk W w.heap.size 37 (refT s) := hW ▸ ((Blk.new w _ (refT s)).alloc _).alloc _
  have hO : Blk W (w.heap.size + 1) 31 #[.int .i64 2, .int .i64 nd, .int .u64 m, .slice A ls.length c] := by
    have h := (Blk.new (w.alloc (.cells (refT s) 37)) 31 #[.int .i64 2, .int .i64 nd, .int .u64 m, .slice A ls.length c]).alloc (.cells zTb 37)
    rw [hW]; simpa using h
  have hZ : Blk W (w.heap.size + 2) 37 zTb := by
    have h := Blk.new ((w.alloc (.cells (refT s) 37)).alloc (.cells #[.int .i64 2, .int .i64 nd, .int .u64 m, .slice A ls.length c] 31)) 37 zTb
    rw [hW]; simpa using h
  have hFl := hp.lt
  have hgl := hp.gl
  have hp0 := hp
  replace hp := hp.none_ hT
  have hr0 : Rd W (fun k => F0 k ∧ k < w.heap.size) A ls.length (ls.map I64) := hr.lt_.touch hT (fun _ _ e => e)
  replace hd : ∀ k, (F0 k ∧ k < w.heap.size) → ¬ F k := fun k hk => hd k hk.1
  have HPr := Lib.hid (show Calls Try.prog 27 #[.pointer (some ⟨g, 0, none⟩), .int .i64 nd, .int .u64 m] W fun e w' => e = .returned (.bool ((t nd).isSome)) ∧ DoW w w' g b (heardT t nd m) F (refT s) #[.int .i64 2, .int .i64 nd, .int .u64 m, .slice A ls.length c] zTb from by
    refine (pheard_any g b t F nd m W hp hnd hm).mono ?_
    rintro e w2 ⟨rfl, hp2, t2⟩; have hF2 : ∀ k, F k → F k ∨ W.heap.size ≤ k := fun k hk => .inl hk
    exact ⟨rfl, DoW.of hC hO hZ hFl hT hp2 hF2 t2⟩)
  have HRf := Lib.hid (show ∀ w1, Touch F w w1 → Calls Try.prog 55 #[.agg (refT s), .int .i64 nd, .int .u64 m] w1 (ROp (heardT s nd m) ((s nd).isSome) w1) from fun w1 tt => by
    have hr1 : Rd w1 (fun k => F0 k ∧ k < w.heap.size) A ls.length (ls.map I64) := hr.lt_.touch tt hd
    exact fheard_any s oks nd hnd m hm w1)
  have HN := Lib.hid (refT_size s)
  have HN2 := Lib.hid (refT_size (heardT s nd m))
  have H12 := Lib.hid (refT_one (heardT s nd m))
  have HFl := Lib.hid hFl
  unfold DoP
  unfold ROp at HRf
  obtain ⟨D, hD⟩ : ∃ D, D = refT (heardT s nd m) := ⟨_, rfl⟩
  obtain ⟨C, hCe⟩ : ∃ C, C = refT s := ⟨_, rfl⟩
  rw [← hD] at HRf HN2 H12 ⊢
  rw [← hCe] at HPr HRf HN hW ⊢
  obtain ⟨bt, hbt⟩ : ∃ bt, bt = ((t nd).isSome) := ⟨_, rfl⟩
  obtain ⟨bs, hbs⟩ : ∃ bs, bs = ((s nd).isSome) := ⟨_, rfl⟩
  rw [← hbt] at HPr ⊢
  rw [← hbs] at HRf
  rw [← hbs]
  rw [hW] at HPr
  clear hT hC hO hZ hp hp0 hr hr0 hd hPV PV hD hCe hbt hbs hW hFl
  go_enter Try.func15, Try.ntmps15
  go_wp2_with (first
    | (go_at_call 27; go_must (refine HPr.out.mono ?_); rintro e w2 ⟨rfl, hw2⟩
       have HW2 := Lib.hid hw2
       obtain ⟨c0, c1, c2, c3⟩ := hw2.o.c4
       clear hw2)
    | ((with_reducible apply HW2.out.c.ld rowTb HN.out); exact rfl; exact rfl; exact rfl)
    | (go_at_call 55; go_must (refine (HRf.out _ (by exact HW2.out.t)).mono ?_); rintro e w3 ⟨rfl, t3⟩
       have HW3 := Lib.hid (HW2.out.none_ t3)
       clear t3)
    | ((with_reducible apply HW3.out.c.st rowTb HN.out HN2.out H12.out); exact rfl; exact rfl; exact rfl; exact rfl; intro w4 hb4 t4
       have HW4 := Lib.hid (HW3.out.setC hgl HFl.out t4 hb4)
       clear hb4 t4)
    | ((with_reducible apply HW4.out.c.ld rowTb HN2.out); exact rfl; exact rfl; exact rfl)
    | ((with_reducible apply HW4.out.z.st rowTb rfl HN2.out H12.out); exact rfl; exact rfl; exact rfl; exact rfl; intro w5 hb5 t5
       have HB5 := Lib.hid hb5
       have HW5 := Lib.hid (HW4.out.setZ hgl HFl.out t5)
       clear hb5 t5))
  obtain ⟨⟨F', h1, h2⟩, h3⟩ := HW5.out
  refine bodyPost_ret (results_cell2 6 7 rowTb HN2.out (HB5.out.whole) rfl rfl) rfl ⟨?_, F', h1, fun k hk => (h2 k hk).imp id (fun h => by omega), h3⟩
  first
    | rfl
    | simp
theorem do_Set (g b : Nat) (t s : Tb) (oks : s.Ok) (F F0 : Nat → Prop) (kd nd : Int) (m : Nat) (ls : List Int) (A : Option Addr) (c : Nat) (w : World) (hp : PgAt w g b t F) (hnd : inI nd) (hm : m < 18446744073709551616) (hr : Rd w F0 A ls.length (ls.map I64)) (hsm : ls.length ≤ 1000000) (hd : ∀ k, F0 k → ¬ F k) :
    Calls Try.prog 15 #[.pointer (some ⟨g, 0, none⟩), .agg (refT s), .agg #[.int .i64 3, .int .i64 nd, .int .u64 m, .slice A ls.length c]] w (DoP g b (setR t ls m) (setR s ls m) ((setB m) == (setB m)) F w) := by
  obtain ⟨PV, hPV⟩ : ∃ PV : Array Value, PV = #[.int .i64 3, .int .i64 nd, .int .u64 m, .slice A ls.length c] := ⟨_, rfl⟩
  obtain ⟨W, hW⟩ : ∃ W, W = (((w.alloc (.cells (refT s) 37)).alloc (.cells #[.int .i64 3, .int .i64 nd, .int .u64 m, .slice A ls.length c] 31)).alloc (.cells zTb 37)) := ⟨_, rfl⟩
  have hT : Touch (fun _ => False) w W := hW ▸ (((Touch.refl _ w).alloc _).alloc _).alloc _
  have hC : Blk W w.heap.size 37 (refT s) := hW ▸ ((Blk.new w _ (refT s)).alloc _).alloc _
  have hO : Blk W (w.heap.size + 1) 31 #[.int .i64 3, .int .i64 nd, .int .u64 m, .slice A ls.length c] := by
    have h := (Blk.new (w.alloc (.cells (refT s) 37)) 31 #[.int .i64 3, .int .i64 nd, .int .u64 m, .slice A ls.length c]).alloc (.cells zTb 37)
    rw [hW]; simpa using h
  have hZ : Blk W (w.heap.size + 2) 37 zTb := by
    have h := Blk.new ((w.alloc (.cells (refT s) 37)).alloc (.cells #[.int .i64 3, .int .i64 nd, .int .u64 m, .slice A ls.length c] 31)) 37 zTb
    rw [hW]; simpa using h
  have hFl := hp.lt
  have hgl := hp.gl
  have hp0 := hp
  replace hp := hp.none_ hT
  have hr0 : Rd W (fun k => F0 k ∧ k < w.heap.size) A ls.length (ls.map I64) := hr.lt_.touch hT (fun _ _ e => e)
  replace hd : ∀ k, (F0 k ∧ k < w.heap.size) → ¬ F k := fun k hk => hd k hk.1
  have HPr := Lib.hid (show Calls Try.prog 28 #[.pointer (some ⟨g, 0, none⟩), .slice A ls.length c, .int .u64 m] W fun e w' => e = .returned (.bool (setB m)) ∧ DoW w w' g b (setR t ls m) F (refT s) #[.int .i64 3, .int .i64 nd, .int .u64 m, .slice A ls.length c] zTb from by
    refine (pset_any g b t F (fun k => F0 k ∧ k < w.heap.size) A c ls m hm W hp hr0 hd hsm).mono ?_
    rintro e w2 ⟨rfl, F2, hp2, hF2, t2⟩
    exact ⟨rfl, DoW.of hC hO hZ hFl hT hp2 hF2 t2⟩)
  have HRf := Lib.hid (show ∀ w1, Touch F w w1 → Calls Try.prog 19 #[.agg (refT s), .slice A ls.length c, .int .u64 m] w1 (ROp (setR s ls m) (setB m) w1) from fun w1 tt => by
    have hr1 : Rd w1 (fun k => F0 k ∧ k < w.heap.size) A ls.length (ls.map I64) := hr.lt_.touch tt hd
    exact fset_any (fun k => F0 k ∧ k < w.heap.size) A c ls s oks m hm w1 hr1 hsm)
  have HN := Lib.hid (refT_size s)
  have HN2 := Lib.hid (refT_size (setR s ls m))
  have H12 := Lib.hid (refT_one (setR s ls m))
  have HFl := Lib.hid hFl
  unfold DoP
  unfold ROp at HRf
  obtain ⟨D, hD⟩ : ∃ D, D = refT (setR s ls m) := ⟨_, rfl⟩
  obtain ⟨C, hCe⟩ : ∃ C, C = refT s := ⟨_, rfl⟩
  rw [← hD] at HRf HN2 H12 ⊢
  rw [← hCe] at HPr HRf HN hW ⊢
  obtain ⟨bt, hbt⟩ : ∃ bt, bt = (setB m) := ⟨_, rfl⟩
  obtain ⟨bs, hbs⟩ : ∃ bs, bs = (setB m) := ⟨_, rfl⟩
  rw [← hbt] at HPr ⊢
  rw [← hbs] at HRf
  obtain rfl : bt = bs := hbt.trans hbs.symm
  rw [hW] at HPr
  clear hT hC hO hZ hp hp0 hr hr0 hd hPV PV hD hCe hbt hbs hW hFl
  go_enter Try.func15, Try.ntmps15
  go_wp2_with (first
    | (go_at_call 28; go_must (refine HPr.out.mono ?_); rintro e w2 ⟨rfl, hw2⟩
       have HW2 := Lib.hid hw2
       obtain ⟨c0, c1, c2, c3⟩ := hw2.o.c4
       clear hw2)
    | ((with_reducible apply HW2.out.c.ld rowTb HN.out); exact rfl; exact rfl; exact rfl)
    | (go_at_call 19; go_must (refine (HRf.out _ (by exact HW2.out.t)).mono ?_); rintro e w3 ⟨rfl, t3⟩
       have HW3 := Lib.hid (HW2.out.none_ t3)
       clear t3)
    | ((with_reducible apply HW3.out.c.st rowTb HN.out HN2.out H12.out); exact rfl; exact rfl; exact rfl; exact rfl; intro w4 hb4 t4
       have HW4 := Lib.hid (HW3.out.setC hgl HFl.out t4 hb4)
       clear hb4 t4)
    | ((with_reducible apply HW4.out.c.ld rowTb HN2.out); exact rfl; exact rfl; exact rfl)
    | ((with_reducible apply HW4.out.z.st rowTb rfl HN2.out H12.out); exact rfl; exact rfl; exact rfl; exact rfl; intro w5 hb5 t5
       have HB5 := Lib.hid hb5
       have HW5 := Lib.hid (HW4.out.setZ hgl HFl.out t5)
       clear hb5 t5))
  obtain ⟨⟨F', h1, h2⟩, h3⟩ := HW5.out
  refine bodyPost_ret (results_cell2 6 7 rowTb HN2.out (HB5.out.whole) rfl rfl) rfl ⟨?_, F', h1, fun k hk => (h2 k hk).imp id (fun h => by omega), h3⟩
  first
    | rfl
    | simp
theorem do_Live (g b : Nat) (t s : Tb) (oks : s.Ok) (F F0 : Nat → Prop) (kd nd : Int) (m : Nat) (ls : List Int) (A : Option Addr) (c : Nat) (w : World) (hp : PgAt w g b t F) (hnd : inI nd) (hm : m < 18446744073709551616) (hr : Rd w F0 A ls.length (ls.map I64)) (hsm : ls.length ≤ 1000000) (hd : ∀ k, F0 k → ¬ F k) :
    Calls Try.prog 15 #[.pointer (some ⟨g, 0, none⟩), .agg (refT s), .agg #[.int .i64 4, .int .i64 nd, .int .u64 m, .slice A ls.length c]] w (DoP g b (calmT t) (calmT s) ((liveB t ls nd) == (liveB s ls nd)) F w) := by
  obtain ⟨PV, hPV⟩ : ∃ PV : Array Value, PV = #[.int .i64 4, .int .i64 nd, .int .u64 m, .slice A ls.length c] := ⟨_, rfl⟩
  obtain ⟨W, hW⟩ : ∃ W, W = (((w.alloc (.cells (refT s) 37)).alloc (.cells #[.int .i64 4, .int .i64 nd, .int .u64 m, .slice A ls.length c] 31)).alloc (.cells zTb 37)) := ⟨_, rfl⟩
  have hT : Touch (fun _ => False) w W := hW ▸ (((Touch.refl _ w).alloc _).alloc _).alloc _
  have hC : Blk W w.heap.size 37 (refT s) := hW ▸ ((Blk.new w _ (refT s)).alloc _).alloc _
  have hO : Blk W (w.heap.size + 1) 31 #[.int .i64 4, .int .i64 nd, .int .u64 m, .slice A ls.length c] := by
    have h := (Blk.new (w.alloc (.cells (refT s) 37)) 31 #[.int .i64 4, .int .i64 nd, .int .u64 m, .slice A ls.length c]).alloc (.cells zTb 37)
    rw [hW]; simpa using h
  have hZ : Blk W (w.heap.size + 2) 37 zTb := by
    have h := Blk.new ((w.alloc (.cells (refT s) 37)).alloc (.cells #[.int .i64 4, .int .i64 nd, .int .u64 m, .slice A ls.length c] 31)) 37 zTb
    rw [hW]; simpa using h
  have hFl := hp.lt
  have hgl := hp.gl
  have hp0 := hp
  replace hp := hp.none_ hT
  have hr0 : Rd W (fun k => F0 k ∧ k < w.heap.size) A ls.length (ls.map I64) := hr.lt_.touch hT (fun _ _ e => e)
  replace hd : ∀ k, (F0 k ∧ k < w.heap.size) → ¬ F k := fun k hk => hd k hk.1
  have HPr := Lib.hid (show Calls Try.prog 29 #[.pointer (some ⟨g, 0, none⟩), .slice A ls.length c, .int .i64 nd] W fun e w' => e = .returned (.bool (liveB t ls nd)) ∧ DoW w w' g b (calmT t) F (refT s) #[.int .i64 4, .int .i64 nd, .int .u64 m, .slice A ls.length c] zTb from by
    refine (plive_any (fun k => F0 k ∧ k < w.heap.size) A c ls g b t F nd hnd W hp hr0 hsm).mono ?_
    rintro e w2 ⟨rfl, hp2, t2⟩; have hF2 : ∀ k, F k → F k ∨ W.heap.size ≤ k := fun k hk => .inl hk
    exact ⟨rfl, DoW.of hC hO hZ hFl hT hp2 hF2 t2⟩)
  have HRf := Lib.hid (show ∀ w1, Touch F w w1 → Calls Try.prog 56 #[.agg (refT s), .slice A ls.length c, .int .i64 nd] w1 (ROp (calmT s) (liveB s ls nd) w1) from fun w1 tt => by
    have hr1 : Rd w1 (fun k => F0 k ∧ k < w.heap.size) A ls.length (ls.map I64) := hr.lt_.touch tt hd
    exact flive_any (fun k => F0 k ∧ k < w.heap.size) A c ls s nd hnd w1 hr1 hsm)
  have HN := Lib.hid (refT_size s)
  have HN2 := Lib.hid (refT_size (calmT s))
  have H12 := Lib.hid (refT_one (calmT s))
  have HFl := Lib.hid hFl
  unfold DoP
  unfold ROp at HRf
  obtain ⟨D, hD⟩ : ∃ D, D = refT (calmT s) := ⟨_, rfl⟩
  obtain ⟨C, hCe⟩ : ∃ C, C = refT s := ⟨_, rfl⟩
  rw [← hD] at HRf HN2 H12 ⊢
  rw [← hCe] at HPr HRf HN hW ⊢
  obtain ⟨bt, hbt⟩ : ∃ bt, bt = (liveB t ls nd) := ⟨_, rfl⟩
  obtain ⟨bs, hbs⟩ : ∃ bs, bs = (liveB s ls nd) := ⟨_, rfl⟩
  rw [← hbt] at HPr ⊢
  rw [← hbs] at HRf
  rw [← hbs]
  rw [hW] at HPr
  clear hT hC hO hZ hp hp0 hr hr0 hd hPV PV hD hCe hbt hbs hW hFl
  go_enter Try.func15, Try.ntmps15
  go_wp2_with (first
    | (go_at_call 29; go_must (refine HPr.out.mono ?_); rintro e w2 ⟨rfl, hw2⟩
       have HW2 := Lib.hid hw2
       obtain ⟨c0, c1, c2, c3⟩ := hw2.o.c4
       clear hw2)
    | ((with_reducible apply HW2.out.c.ld rowTb HN.out); exact rfl; exact rfl; exact rfl)
    | (go_at_call 56; go_must (refine (HRf.out _ (by exact HW2.out.t)).mono ?_); rintro e w3 ⟨rfl, t3⟩
       have HW3 := Lib.hid (HW2.out.none_ t3)
       clear t3)
    | ((with_reducible apply HW3.out.c.st rowTb HN.out HN2.out H12.out); exact rfl; exact rfl; exact rfl; exact rfl; intro w4 hb4 t4
       have HW4 := Lib.hid (HW3.out.setC hgl HFl.out t4 hb4)
       clear hb4 t4)
    | ((with_reducible apply HW4.out.c.ld rowTb HN2.out); exact rfl; exact rfl; exact rfl)
    | ((with_reducible apply HW4.out.z.st rowTb rfl HN2.out H12.out); exact rfl; exact rfl; exact rfl; exact rfl; intro w5 hb5 t5
       have HB5 := Lib.hid hb5
       have HW5 := Lib.hid (HW4.out.setZ hgl HFl.out t5)
       clear hb5 t5))
  obtain ⟨⟨F', h1, h2⟩, h3⟩ := HW5.out
  refine bodyPost_ret (results_cell2 6 7 rowTb HN2.out (HB5.out.whole) rfl rfl) rfl ⟨?_, F', h1, fun k hk => (h2 k hk).imp id (fun h => by omega), h3⟩
  first
    | rfl
    | simp
theorem do_Took (g b : Nat) (t s : Tb) (oks : s.Ok) (F F0 : Nat → Prop) (kd nd : Int) (m : Nat) (ls : List Int) (A : Option Addr) (c : Nat) (w : World) (hp : PgAt w g b t F) (hnd : inI nd) (hm : m < 18446744073709551616) (hr : Rd w F0 A ls.length (ls.map I64)) (hsm : ls.length ≤ 1000000) (hd : ∀ k, F0 k → ¬ F k) (h1 : ¬ kd = 1) (h2 : ¬ kd = 2) (h3 : ¬ kd = 3) (h4 : ¬ kd = 4) :
    Calls Try.prog 15 #[.pointer (some ⟨g, 0, none⟩), .agg (refT s), .agg #[.int .i64 kd, .int .i64 nd, .int .u64 m, .slice A ls.length c]] w (DoP g b (tookT t nd m) (tookT s nd m) ((tookR t nd m) == (tookR s nd m)) F w) := by
  obtain ⟨PV, hPV⟩ : ∃ PV : Array Value, PV = #[.int .i64 kd, .int .i64 nd, .int .u64 m, .slice A ls.length c] := ⟨_, rfl⟩
  obtain ⟨W, hW⟩ : ∃ W, W = (((w.alloc (.cells (refT s) 37)).alloc (.cells #[.int .i64 kd, .int .i64 nd, .int .u64 m, .slice A ls.length c] 31)).alloc (.cells zTb 37)) := ⟨_, rfl⟩
  have hT : Touch (fun _ => False) w W := hW ▸ (((Touch.refl _ w).alloc _).alloc _).alloc _
  have hC : Blk W w.heap.size 37 (refT s) := hW ▸ ((Blk.new w _ (refT s)).alloc _).alloc _
  have hO : Blk W (w.heap.size + 1) 31 #[.int .i64 kd, .int .i64 nd, .int .u64 m, .slice A ls.length c] := by
    have h := (Blk.new (w.alloc (.cells (refT s) 37)) 31 #[.int .i64 kd, .int .i64 nd, .int .u64 m, .slice A ls.length c]).alloc (.cells zTb 37)
    rw [hW]; simpa using h
  have hZ : Blk W (w.heap.size + 2) 37 zTb := by
    have h := Blk.new ((w.alloc (.cells (refT s) 37)).alloc (.cells #[.int .i64 kd, .int .i64 nd, .int .u64 m, .slice A ls.length c] 31)) 37 zTb
    rw [hW]; simpa using h
  have hFl := hp.lt
  have hgl := hp.gl
  have hp0 := hp
  replace hp := hp.none_ hT
  have hr0 : Rd W (fun k => F0 k ∧ k < w.heap.size) A ls.length (ls.map I64) := hr.lt_.touch hT (fun _ _ e => e)
  replace hd : ∀ k, (F0 k ∧ k < w.heap.size) → ¬ F k := fun k hk => hd k hk.1
  have HPr := Lib.hid (show Calls Try.prog 25 #[.pointer (some ⟨g, 0, none⟩), .int .i64 nd, .int .u64 m] W fun e w' => e = .returned (.bool (tookR t nd m)) ∧ DoW w w' g b (tookT t nd m) F (refT s) #[.int .i64 kd, .int .i64 nd, .int .u64 m, .slice A ls.length c] zTb from by
    refine (ptook_any g b t F nd m W hp hnd hm).mono ?_
    rintro e w2 ⟨rfl, hp2, t2⟩; have hF2 : ∀ k, F k → F k ∨ W.heap.size ≤ k := fun k hk => .inl hk
    exact ⟨rfl, DoW.of hC hO hZ hFl hT hp2 hF2 t2⟩)
  have HRf := Lib.hid (show ∀ w1, Touch F w w1 → Calls Try.prog 57 #[.agg (refT s), .int .i64 nd, .int .u64 m] w1 (ROp (tookT s nd m) (tookR s nd m) w1) from fun w1 tt => by
    have hr1 : Rd w1 (fun k => F0 k ∧ k < w.heap.size) A ls.length (ls.map I64) := hr.lt_.touch tt hd
    exact ftook_any s oks nd hnd m hm w1)
  have HN := Lib.hid (refT_size s)
  have HN2 := Lib.hid (refT_size (tookT s nd m))
  have H12 := Lib.hid (refT_one (tookT s nd m))
  have HFl := Lib.hid hFl
  unfold DoP
  unfold ROp at HRf
  obtain ⟨D, hD⟩ : ∃ D, D = refT (tookT s nd m) := ⟨_, rfl⟩
  obtain ⟨C, hCe⟩ : ∃ C, C = refT s := ⟨_, rfl⟩
  rw [← hD] at HRf HN2 H12 ⊢
  rw [← hCe] at HPr HRf HN hW ⊢
  obtain ⟨bt, hbt⟩ : ∃ bt, bt = (tookR t nd m) := ⟨_, rfl⟩
  obtain ⟨bs, hbs⟩ : ∃ bs, bs = (tookR s nd m) := ⟨_, rfl⟩
  rw [← hbt] at HPr ⊢
  rw [← hbs] at HRf
  rw [← hbs]
  rw [hW] at HPr
  clear hT hC hO hZ hp hp0 hr hr0 hd hPV PV hD hCe hbt hbs hW hFl
  have b1 : (kd == 1) = false := by simpa using h1
  have b2 : (kd == 2) = false := by simpa using h2
  have b3 : (kd == 3) = false := by simpa using h3
  have b4 : (kd == 4) = false := by simpa using h4
  clear h1 h2 h3 h4
  go_enter Try.func15, Try.ntmps15
  go_wp2_with (first
    | (go_at_call 25; go_must (refine HPr.out.mono ?_); rintro e w2 ⟨rfl, hw2⟩
       have HW2 := Lib.hid hw2
       obtain ⟨c0, c1, c2, c3⟩ := hw2.o.c4
       clear hw2)
    | ((with_reducible apply HW2.out.c.ld rowTb HN.out); exact rfl; exact rfl; exact rfl)
    | (go_at_call 57; go_must (refine (HRf.out _ (by exact HW2.out.t)).mono ?_); rintro e w3 ⟨rfl, t3⟩
       have HW3 := Lib.hid (HW2.out.none_ t3)
       clear t3)
    | ((with_reducible apply HW3.out.c.st rowTb HN.out HN2.out H12.out); exact rfl; exact rfl; exact rfl; exact rfl; intro w4 hb4 t4
       have HW4 := Lib.hid (HW3.out.setC hgl HFl.out t4 hb4)
       clear hb4 t4)
    | ((with_reducible apply HW4.out.c.ld rowTb HN2.out); exact rfl; exact rfl; exact rfl)
    | ((with_reducible apply HW4.out.z.st rowTb rfl HN2.out H12.out); exact rfl; exact rfl; exact rfl; exact rfl; intro w5 hb5 t5
       have HB5 := Lib.hid hb5
       have HW5 := Lib.hid (HW4.out.setZ hgl HFl.out t5)
       clear hb5 t5))
  obtain ⟨⟨F', h1, h2⟩, h3⟩ := HW5.out
  refine bodyPost_ret (results_cell2 6 7 rowTb HN2.out (HB5.out.whole) rfl rfl) rfl ⟨?_, F', h1, fun k hk => (h2 k hk).imp id (fun h => by omega), h3⟩
  first
    | rfl
    | simp
theorem do31_any (g b : Nat) (t s : Tb) (oks : s.Ok) (F F0 : Nat → Prop) (o : POpV) (w : World) (hp : PgAt w g b t F) (hnd : inI o.node) (hm : o.n < 18446744073709551616) (hr : Rd w F0 o.A o.list.length (o.list.map I64)) (hsm : o.list.length ≤ 1000000) (hd : ∀ k, F0 k → ¬ F k) :
    Calls Try.prog 15 #[.pointer (some ⟨g, 0, none⟩), .agg (refT s), .agg #[.int .i64 o.kind, .int .i64 o.node, .int .u64 o.n, .slice o.A o.list.length o.c]] w (DoP g b (stepT o t) (stepT o s) (stepR o t == stepR o s) F w) := by
  obtain ⟨kd, nd, m, ls, A, c⟩ := o
  simp only at hnd hm hr hsm
  simp only [stepT, stepR]
  by_cases h1 : kd = 1
  · subst h1; exact do_Refused g b t s oks F F0 1 nd m ls A c w hp hnd hm hr hsm hd
  by_cases h2 : kd = 2
  · subst h2; exact do_Heard g b t s oks F F0 2 nd m ls A c w hp hnd hm hr hsm hd
  by_cases h3 : kd = 3
  · subst h3; exact do_Set g b t s oks F F0 3 nd m ls A c w hp hnd hm hr hsm hd
  by_cases h4 : kd = 4
  · subst h4; exact do_Live g b t s oks F F0 4 nd m ls A c w hp hnd hm hr hsm hd
  simp only [if_neg h1, if_neg h2, if_neg h3, if_neg h4]
  exact do_Took g b t s oks F F0 kd nd m ls A c w hp hnd hm hr hsm hd h1 h2 h3 h4
end Go.Proofs.Ytpgakkpmpnebnaa
