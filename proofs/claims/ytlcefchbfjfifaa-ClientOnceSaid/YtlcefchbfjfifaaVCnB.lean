/- Clients: the plain law; a result's cells; what a client's block has. client.New, none, busy, next, Tick, Send. -/
import Derived.Test.YtlcefchbfjfifaaVCdE
import Derived.Test.YtlcefchbfjfifaaVCdG
import Derived.Test.YtlcefchbfjfifaaVRepR
import Derived.Test.YtlcefchbfjfifaaVCalT
import Derived.Test.YtlcefchbfjfifaaVArgsM
section
namespace Go.Proofs.Ytlcefchbfjfifaa
open Go.RowKit Cal
set_option maxHeartbeats 4000000
set_option maxRecDepth 100000
set_option linter.unusedVariables false

/-- A reply's cells; a command's. -/
def rpA (a : RpV) (A : Option Addr) (c : Nat) : Array Value := #[.int .i64 a.code, .int .i64 a.time, .int .u64 a.t.id, .int .i64 a.t.contract, .int .i64 a.t.state, .int .i64 a.t.level, .int .u64 a.t.gen, .int .i64 a.t.from_, .int .i64 a.t.left, .int .i64 a.t.due, .int .i64 a.t.told, .slice A a.fired.length c, .int .u64 a.notice, .int .i64 a.dead]
theorem rpA_size (a : RpV) (A : Option Addr) (c : Nat) : (rpA a A c).size = 14 := rfl
theorem rpA_one (a : RpV) (A : Option Addr) (c : Nat) : (rpA a A c).all (·.oneCell') = true := by simp [rpA, Value.oneCell']
def cmA (c : Cm) (A B D : Option Addr) (k m n : Nat) : Array Value := #[.int .i64 c.kind, .int .u64 c.client, .int .u64 c.req, .int .u64 c.id, .int .i64 c.con, .int .i64 c.at_, .int .i64 c.cal.off, .slice A c.cal.wk.length k, .slice B c.cal.cl.length m, .int .i64 c.tm.cal, .slice D c.tm.lv.length n, .int .i64 c.tm.rt, .int .i64 c.tm.bk]
theorem cmA_size (c : Cm) (A B D : Option Addr) (k m n : Nat) : (cmA c A B D k m n).size = 13 := rfl
theorem cmA_one (c : Cm) (A B D : Option Addr) (k m n : Nat) : (cmA c A B D k m n).all (·.oneCell') = true := by simp [cmA, Value.oneCell']
/-- A client. -/
structure Cl where
  servers : Nat
  at_ : Nat
  waited : Nat
  number : Nat
  req : Nat
  busy : Option Cm
  done : List (Cm × RpV)
def Cl.new (number servers : Nat) : Cl := ⟨servers, 0, 0, number, 0, none, []⟩
def Cl.nxt (c : Cl) : Cl := { c with at_ := (c.at_ + 1) % c.servers, waited := 0 }
def Cl.mk_ (c : Cl) (x : Cm) : Cm := { x with client := c.number, req := c.req + 1 }
def Cl.wantE (c : Cl) (x : Cm) : Int := if c.busy.isSome = true then 52 else if 1152921504606846976 ≤ c.req then 10 else if cmSound (c.mk_ x) = true ∧ ¬ (9 ≤ x.kind ∧ x.kind ≤ 11) then 0 else 2
def Cl.want (c : Cl) (x : Cm) : Cl := if c.wantE x = 0 then { c with req := c.req + 1, busy := some (c.mk_ x), waited := 0 } else c
def Cl.mine (c : Cl) (ac ar : Nat) : Bool := c.busy.isSome && (decide (ac = c.number) && decide (ar = c.req))
def Cl.hearB (c : Cl) (ac ar : Nat) (code : Int) : Bool := c.mine ac ar && decide (code = 0)
def Cl.hear (c : Cl) (ac ar : Nat) (code : Int) (r : RpV) : Cl :=
  match c.busy with
  | none => c
  | some x => if c.mine ac ar = true then (if code = 0 then { c with busy := none, done := c.done ++ [(x, r)] } else c.nxt) else c
def Cl.tick (c : Cl) : Cl := if c.busy.isSome = true then (if 4 ≤ c.waited + 1 then { c with at_ := (c.at_ + 1) % c.servers, waited := 0 } else { c with waited := c.waited + 1 }) else c
/-- A command that a client has. -/
def cmFit (x : Cm) : Prop := cmSound x = true ∧ x.in64
structure Cl.Ok (c : Cl) : Prop where
  nu : 1 ≤ c.number ∧ c.number ≤ 8
  se : 1 ≤ c.servers ∧ c.servers ≤ 7
  at_ : c.at_ < c.servers
  wa : c.waited < 4
  rq : c.req ≤ 1152921504606846976
  bu : ∀ x, c.busy = some x → cmFit x
  dn : ∀ y ∈ c.done, cmFit y.1 ∧ y.2.fired.length ≤ 1000
theorem Cl.new_ok {number servers : Nat} (h1 : 1 ≤ number ∧ number ≤ 8) (h2 : 1 ≤ servers ∧ servers ≤ 7) : (Cl.new number servers).Ok :=
  ⟨h1, h2, by simp only [Cl.new]; omega, by simp only [Cl.new]; omega, by simp only [Cl.new]; omega, (fun _ e => by cases e), (fun _ h => by cases h)⟩
theorem Cl.Ok.nxt {c : Cl} (h : c.Ok) : c.nxt.Ok :=
  ⟨h.nu, h.se, Nat.mod_lt _ (by have := h.se.1; exact this), by simp only [Cl.nxt]; omega, h.rq, h.bu, h.dn⟩
theorem Cl.Ok.tick {c : Cl} (h : c.Ok) : c.tick.Ok := by
  unfold Cl.tick
  split
  · split
    · exact h.nxt
    · exact ⟨h.nu, h.se, h.at_, by simp only; omega, h.rq, h.bu, h.dn⟩
  · exact h
theorem Cl.Ok.hear {c : Cl} (h : c.Ok) (ac ar : Nat) (code : Int) (r : RpV) (hr : r.fired.length ≤ 1000) : (c.hear ac ar code r).Ok := by
  unfold Cl.hear
  split
  · exact h
  · rename_i x hb
    split
    · split
      · refine ⟨h.nu, h.se, h.at_, h.wa, h.rq, fun _ e => (by cases e), fun y hy => ?_⟩
        simp only [List.mem_append, List.mem_singleton] at hy
        rcases hy with hy | rfl
        · exact h.dn y hy
        · exact ⟨h.bu x hb, hr⟩
      · exact h.nxt
    · exact h
theorem Cl.Ok.want {c : Cl} (h : c.Ok) (x : Cm) (hx : x.in64) : (c.want x).Ok := by
  unfold Cl.want
  split
  · rename_i he
    unfold Cl.wantE at he
    split at he
    · omega
    · split at he
      · omega
      · split at he
        · rename_i h1 h2 h3
          refine ⟨h.nu, h.se, h.at_, by simp only; omega, by simp only; omega, fun y e => ?_, h.dn⟩
          simp only [Option.some.injEq] at e
          subst e
          refine ⟨h3.1, hx.1, hx.2.1, ?_, hx.2.2.2⟩
          simp only [Cl.mk_]; omega
        · omega
  · exact h
/-- A result in memory. -/
structure ResV where
  c : Cm
  a : RpV
  A : Option Addr
  B : Option Addr
  D : Option Addr
  E : Option Addr
  k : Nat
  m : Nat
  n : Nat
  e : Nat
def ResV.arr (x : ResV) : Array Value := cmA x.c x.A x.B x.D x.k x.m x.n ++ rpA x.a x.E x.e
def ResV.cells (x : ResV) : List Value := x.arr.toList
def ResV.p (x : ResV) : Cm × RpV := (x.c, x.a)
theorem ResV.size (x : ResV) : x.arr.size = 27 := by rw [ResV.arr, Array.size_append, cmA_size, rpA_size]
theorem ResV.len (x : ResV) : x.cells.length = 27 := by rw [ResV.cells, Array.length_toList, x.size]
theorem ResV.one (x : ResV) : x.arr.all (·.oneCell') = true := by rw [ResV.arr, Array.all_append, cmA_one, rpA_one]; rfl
structure ResR (w : World) (F : Nat → Prop) (x : ResV) : Prop where
  cm : CmR w F x.c x.A x.B x.D
  rp : Rd w F x.E x.a.fired.length (x.a.fired.map U64)
theorem ResR.touch {w w' : World} {F S : Nat → Prop} {x : ResV} (h : ResR w F x) (t : Touch S w w') (hd : ∀ k, F k → ¬ S k) : ResR w' F x := ⟨h.cm.touch t hd, h.rp.touch t hd⟩
theorem ResR.mono {w : World} {F F' : Nat → Prop} {x : ResV} (h : ResR w F x) (hF : ∀ k, F k → F' k) : ResR w F' x := ⟨h.cm.mono hF, h.rp.mono hF⟩
/-- What a client's block has beside the numbers. -/
structure ClM where
  ent : Value
  DC : Array Value
  dv : Value
  q : Option Nat
  xs : List ResV
def clC (c : Cl) (M : ClM) : Array Value := #[.int .i64 c.servers, .int .i64 c.at_, .int .i64 c.waited, .int .u64 c.number, .int .u64 c.req, M.ent] ++ M.DC ++ #[M.dv]
def cmZA : Array Value := cmA cmZ none none none 0 0 0
/-- What is under way. -/
def BusyR (w : World) (F : Nat → Prop) (M : ClM) : Option Cm → Prop
  | none => M.ent = .slice none 0 0 ∧ M.DC = cmZA
  | some x => (∃ E cap, M.ent = .slice E (encC x).length cap ∧ (encC x).length ≤ cap ∧ cap ≤ maxLen ∧ Rd w F E (encC x).length ((encC x).map B8)) ∧ ∃ A B D k m n, M.DC = cmA x A B D k m n ∧ CmR w F x A B D
theorem BusyR.touch {w w' : World} {F S : Nat → Prop} {M : ClM} {b : Option Cm} (h : BusyR w F M b) (t : Touch S w w') (hd : ∀ k, F k → ¬ S k) : BusyR w' F M b := by
  cases b with
  | none => exact h
  | some x =>
    obtain ⟨⟨E, cap, h1, h2, h3, h4⟩, A, B, D, k, m, n, h5, h6⟩ := h
    exact ⟨⟨E, cap, h1, h2, h3, h4.touch t hd⟩, A, B, D, k, m, n, h5, h6.touch t hd⟩
theorem BusyR.mono {w : World} {F F' : Nat → Prop} {M : ClM} {b : Option Cm} (h : BusyR w F M b) (hF : ∀ k, F k → F' k) : BusyR w F' M b := by
  cases b with
  | none => exact h
  | some x =>
    obtain ⟨⟨E, cap, h1, h2, h3, h4⟩, A, B, D, k, m, n, h5, h6⟩ := h
    exact ⟨⟨E, cap, h1, h2, h3, h4.mono hF⟩, A, B, D, k, m, n, h5, h6.mono hF⟩
structure ClAt (w : World) (g : Nat) (c : Cl) (M : ClM) (F : Nat → Prop) : Prop where
  blk : Blk w g 68 (clC c M)
  dn : M.DC.size = 13
  d1 : M.DC.all (·.oneCell') = true
  bu : BusyR w F M c.busy
  own : Own w 56 27 M.dv M.q c.done.length (M.xs.flatMap ResV.cells)
  xs : M.xs.map ResV.p = c.done
  xr : ∀ x ∈ M.xs, ResR w F x
  nF : ¬ F g
  q : ∀ k, M.q = some k → k ≠ g ∧ ¬ F k
  ok : c.Ok
theorem ClAt.touch {w w' : World} {g : Nat} {c : Cl} {M : ClM} {F S : Nat → Prop} (h : ClAt w g c M F) (t : Touch S w w') (hg : ¬ S g) (hq : ∀ k, M.q = some k → ¬ S k) (hd : ∀ k, F k → ¬ S k) : ClAt w' g c M F :=
  ⟨t.blk h.blk hg, h.dn, h.d1, h.bu.touch t hd, h.own.touch t hq, h.xs, fun x hx => (h.xr x hx).touch t hd, h.nF, h.q, h.ok⟩
theorem ClAt.far {w w' : World} {g : Nat} {c : Cl} {M : ClM} {F : Nat → Prop} (h : ClAt w g c M F) (t : Touch (fun _ => False) w w') : ClAt w' g c M F := h.touch t (fun e => e) (fun _ _ e => e) (fun _ _ e => e)
theorem clC_size {c : Cl} {M : ClM} (h : M.DC.size = 13) : (clC c M).size = 20 := by simp [clC, h]
end Go.Proofs.Ytlcefchbfjfifaa
end

section
namespace Go.Proofs.Ytlcefchbfjfifaa
open Go.RowKit Cal
set_option maxHeartbeats 4000000
set_option maxRecDepth 100000
set_option linter.unusedVariables false
attribute [local irreducible] wpPlan

theorem clC_list (c : Cl) (M : ClM) : (clC c M).toList = [.int .i64 c.servers, .int .i64 c.at_, .int .i64 c.waited, .int .u64 c.number, .int .u64 c.req, M.ent] ++ (M.DC.toList ++ [M.dv]) := by simp [clC]
theorem clC_lo (c : Cl) (M : ClM) {i : Nat} (hi : i < 6) : (clC c M)[i]? = ([.int .i64 c.servers, .int .i64 c.at_, .int .i64 c.waited, .int .u64 c.number, .int .u64 c.req, M.ent] : List Value)[i]? := by
  rw [← Array.getElem?_toList, clC_list, List.getElem?_append_left (by simpa using hi)]
theorem clC_dv (c : Cl) (M : ClM) (h : M.DC.size = 13) : (clC c M)[19]? = some M.dv := by
  rw [← Array.getElem?_toList, clC_list, List.getElem?_append_right (by simp)]
  simp [h]
theorem clC_DC (c : Cl) (M : ClM) (h : M.DC.size = 13) : (clC c M).extract 6 (6 + 13) = M.DC := by
  apply Array.ext'
  rw [Array.toList_extract, clC_list]
  simp [List.extract, h]
theorem clC_set (c c' : Cl) (M M' : ClM) (i : Nat) (v : Value) (hd : M'.DC = M.DC) (hv : M'.dv = M.dv) (h : ([.int .i64 c.servers, .int .i64 c.at_, .int .i64 c.waited, .int .u64 c.number, .int .u64 c.req, M.ent] : List Value).set i v = [.int .i64 c'.servers, .int .i64 c'.at_, .int .i64 c'.waited, .int .u64 c'.number, .int .u64 c'.req, M'.ent]) (hi : i < 6) : (clC c M).setIfInBounds i v = clC c' M' := by
  apply Array.ext'
  rw [Array.toList_setIfInBounds, clC_list, clC_list, List.set_append_left _ _ (by simpa using hi), h, hd, hv]
theorem clC_setdv (c : Cl) (M : ClM) (v : Value) (h : M.DC.size = 13) : (clC c M).setIfInBounds 19 v = clC c { M with dv := v } := by
  apply Array.ext'
  rw [Array.toList_setIfInBounds, clC_list, clC_list, List.set_append_right _ _ (by simp), List.set_append_right _ _ (by simp [h])]
  simp [h]
theorem setAll_app : ∀ (L : List Value) (A B R : List Value), B.length = L.length → (setAll (A ++ B ++ R).toArray A.length L) = (A ++ L ++ R).toArray
  | [], A, B, R, h => by
    obtain rfl : B = [] := List.eq_nil_of_length_eq_zero (by simpa using h)
    rfl
  | v :: L, A, B, R, h => by
    match B, h with
    | b :: B, h =>
      simp only [List.length_cons, Nat.add_right_cancel_iff] at h
      have := setAll_app L (A ++ [v]) B R h
      rw [setAll, show (A ++ b :: B ++ R).toArray.setIfInBounds A.length v = (A ++ [v] ++ B ++ R).toArray by
        apply Array.ext'
        rw [Array.toList_setIfInBounds]
        simp [List.set_append_right]]
      simpa using this
theorem clC_setDC (c : Cl) (M : ClM) (L : Array Value) (h : M.DC.size = 13) (hL : L.size = 13) : setAll (clC c M) 6 L.toList = clC c { M with DC := L } := by
  have := setAll_app L.toList [.int .i64 c.servers, .int .i64 c.at_, .int .i64 c.waited, .int .u64 c.number, .int .u64 c.req, M.ent] M.DC.toList [M.dv] (by simp [h, hL])
  have e1 : ([.int .i64 c.servers, .int .i64 c.at_, .int .i64 c.waited, .int .u64 c.number, .int .u64 c.req, M.ent] ++ M.DC.toList ++ [M.dv]).toArray = clC c M := by
    apply Array.ext'; rw [clC_list]; simp
  have e2 : ([.int .i64 c.servers, .int .i64 c.at_, .int .i64 c.waited, .int .u64 c.number, .int .u64 c.req, M.ent] ++ L.toList ++ [M.dv]).toArray = clC c { M with DC := L } := by
    apply Array.ext'; rw [clC_list]; simp
  rw [e1, e2] at this
  exact this
theorem rowCl : RowT 68 20 := ⟨⟨_, Try.underlying68, rfl⟩, by kernel_rfl⟩
theorem encC_pos (x : Cm) : 0 < (encC x).length := by
  unfold encC
  rw [List.length_append, List.length_append]
  have : 0 < (encs [x.kind.toNat, x.client, x.req]).length := by
    simp only [encs, List.flatMap_cons, List.length_append]
    have := encN_pos 0 x.kind.toNat
    omega
  omega
/-- The entry's value, its length. -/
theorem BusyR.len {w : World} {F : Nat → Prop} {M : ClM} {b : Option Cm} (h : BusyR w F M b) : ∃ A n cap, M.ent = .slice A n cap ∧ decide (0 < n) = b.isSome := by
  cases b with
  | none => exact ⟨none, 0, 0, h.1, rfl⟩
  | some x =>
    obtain ⟨⟨E, cap, h1, -⟩, -⟩ := h
    exact ⟨E, _, cap, h1, by have := encC_pos x; simp; omega⟩
theorem clnone_any {w : World} {g : Nat} {c : Cl} {M : ClM} {F : Nat → Prop} (h : ClAt w g c M F) : Calls Try.prog 21 #[.pointer (some ⟨g, 0, none⟩)] w fun e w' => e = .returned (.bool false) ∧ w = w' := by
  have q3 := h.blk.cell 3
  rw [clC_lo c M (by omega)] at q3
  simp at q3
  have hn := h.ok.nu.1
  have hb : ((c.number : Int) == 0) = false := by simp; omega
  clear h
  go_enter Try.func21, Try.ntmps21
  go_wp2
  go_ret
  exact ⟨by rfl, rfl⟩
theorem clbusy_any {w : World} {g : Nat} {c : Cl} {M : ClM} {F : Nat → Prop} (h : ClAt w g c M F) : Calls Try.prog 22 #[.pointer (some ⟨g, 0, none⟩)] w fun e w' => e = .returned (.bool c.busy.isSome) ∧ w = w' := by
  have HN := Lib.hid (clnone_any h)
  obtain ⟨A, n, cap, hE, hl⟩ := h.bu.len
  have q5 := h.blk.cell 5
  rw [clC_lo c M (by omega)] at q5
  simp only [hE] at q5
  simp at q5
  rw [← hl]
  clear h hE hl
  go_enter Try.func22, Try.ntmps22
  go_wp2_with (go_at_call 21; go_must (refine HN.out.mono ?_); rintro e w1 ⟨rfl, rfl⟩)
  go_ret
  exact ⟨rfl, rfl⟩
theorem clnew_no (number : Nat) (servers : Int) (h : ¬ ((1 ≤ number ∧ number ≤ 8) ∧ (1 ≤ servers ∧ servers ≤ 7))) (w : World) : Calls Try.prog 8 #[.int .u64 number, .int .i64 servers] w fun e w' => e = .returned (.pointer none) ∧ w = w' := by
  by_cases h1 : 1 ≤ number
  · by_cases h2 : number ≤ 8
    · by_cases h3 : 1 ≤ servers
      · have e1 : ¬ (number : Int) < 1 := by omega
        have e2 : ¬ (8 : Int) < (number : Int) := by omega
        have e3 : ¬ servers < 1 := by omega
        have e4 : 7 < servers := by omega
        clear h h1 h2 h3
        go_enter Try.func8, Try.ntmps8
        go_wp2
        go_ret
        exact ⟨rfl, rfl⟩
      · have e1 : ¬ (number : Int) < 1 := by omega
        have e2 : ¬ (8 : Int) < (number : Int) := by omega
        have e3 : servers < 1 := by omega
        clear h h1 h2 h3
        go_enter Try.func8, Try.ntmps8
        go_wp2
        go_ret
        exact ⟨rfl, rfl⟩
    · have e1 : ¬ (number : Int) < 1 := by omega
      have e2 : (8 : Int) < (number : Int) := by omega
      clear h h1 h2
      go_enter Try.func8, Try.ntmps8
      go_wp2
      go_ret
      exact ⟨rfl, rfl⟩
  · have e1 : (number : Int) < 1 := by omega
    clear h h1
    go_enter Try.func8, Try.ntmps8
    go_wp2
    go_ret
    exact ⟨rfl, rfl⟩
def ClM.zero : ClM := ⟨.slice none 0 0, cmZA, .slice none 0 0, none, []⟩
theorem clnew_yes (number servers : Nat) (h1 : 1 ≤ number ∧ number ≤ 8) (h2 : 1 ≤ servers ∧ servers ≤ 7) (w : World) : Calls Try.prog 8 #[.int .u64 number, .int .i64 servers] w fun e w' => e = .returned (.pointer (some ⟨w.heap.size, 0, none⟩)) ∧ ClAt w' w.heap.size (Cl.new number servers) ClM.zero (fun _ => False) ∧ Touch (fun _ => False) w w' := by
  have HA := Lib.hid (show ClAt (w.alloc (.cells (clC (Cl.new number servers) ClM.zero) 68)) w.heap.size (Cl.new number servers) ClM.zero (fun _ => False) from
    ⟨Blk.new w _ _, rfl, cmA_one _ _ _ _ _ _ _, ⟨rfl, rfl⟩, Own.nil _ _ _, rfl, (fun _ h => by cases h), (fun e => e), (fun _ e => by cases e), Cl.new_ok h1 h2⟩)
  have HT := Lib.hid ((Touch.refl (fun _ => False) w).alloc (.cells (clC (Cl.new number servers) ClM.zero) 68))
  have e1 : ¬ (number : Int) < 1 := by omega
  have e2 : ¬ (8 : Int) < (number : Int) := by omega
  have e3 : ¬ (servers : Int) < 1 := by omega
  have e4 : ¬ (7 : Int) < (servers : Int) := by omega
  clear h1 h2
  go_enter Try.func8, Try.ntmps8
  go_wp2
  go_ret
  exact ⟨rfl, HA.out, HT.out⟩
/-- Behind a store into the numbers. -/
theorem ClAt.set {w w' : World} {g : Nat} {c c' : Cl} {M : ClM} {F : Nat → Prop} (h : ClAt w g c M F) (t : Touch (fun k => k = g) w w') (hb : Blk w' g 68 (clC c' M)) (h1 : c'.busy = c.busy) (h2 : c'.done = c.done) (h3 : c'.Ok) : ClAt w' g c' M F :=
  ⟨hb, h.dn, h.d1, h1 ▸ h.bu.touch t (fun k hk e => h.nF (e ▸ hk)), h2 ▸ h.own.touch t (fun k hk => (h.q k hk).1), h2 ▸ h.xs, fun x hx => (h.xr x hx).touch t (fun k hk e => h.nF (e ▸ hk)), h.nF, h.q, h3⟩
theorem next_blk (c : Cl) (M : ClM) (g : Nat) (w : World) (hb : Blk w g 68 (clC c M)) (h1 : c.at_ < c.servers) (h7 : c.servers ≤ 7) :
    Calls Try.prog 40 #[.pointer (some ⟨g, 0, none⟩)] w fun e w' => e = .returned (.tuple #[]) ∧ Blk w' g 68 (clC c.nxt M) ∧ Touch (fun k => k = g) w w' := by
  have q0 := hb.cell 0
  have q1 := hb.cell 1
  have q2 := hb.cell 2
  rw [clC_lo c M (by omega)] at q0 q1 q2
  simp at q0 q1 q2
  have f1 := hb.frozen 1
  have f2 := hb.frozen 2
  have hm : ((c.at_ : Int) + 1).tmod (c.servers : Int) = (((c.at_ + 1) % c.servers : Nat) : Int) := by
    rw [Int.tmod_eq_emod_of_nonneg (by omega)]; simp
  have hne : ¬ c.servers = 0 := by omega
  have hwp : IntKind.i64.wrap ((c.at_ : Int) + 1) = (c.at_ : Int) + 1 := IntWalk.i64_in _ (by omega)
  have hn7 : (c.at_ + 1) % c.servers < c.servers := Nat.mod_lt _ (by omega)
  obtain ⟨a1, ha1⟩ : ∃ a1, a1 = (c.at_ + 1) % c.servers := ⟨_, rfl⟩
  rw [← ha1] at hm hn7
  have HB1 := Lib.hid (show Blk (w.setCell ⟨g, 1, none⟩ (.int .i64 a1)) g 68 (clC { c with at_ := a1 } M) from (clC_set c { c with at_ := a1 } M M 1 (.int .i64 a1) rfl rfl rfl (by omega)) ▸ hb.set_ 1 (.int .i64 a1))
  have HB2 := Lib.hid (show Blk ((w.setCell ⟨g, 1, none⟩ (.int .i64 a1)).setCell ⟨g, 2, none⟩ (.int .i64 0)) g 68 (clC c.nxt M) from (clC_set { c with at_ := a1 } c.nxt M M 2 (.int .i64 0) rfl rfl (by simp [Cl.nxt, ha1]) (by omega)) ▸ HB1.out.set_ 2 (.int .i64 0))
  have T1 := Lib.hid ((Touch.refl (fun k => k = g) w).set (b := g) (o := 1) (fun _ => rfl) (.int .i64 a1))
  have T2 := Lib.hid ((T1.out.set (b := g) (o := 2) (fun _ => rfl) (.int .i64 0)).drew)
  have HB3 := Lib.hid ((Touch.refl (fun _ => False) _).drew.blk HB2.out (fun e => e))
  clear hb ha1
  generalize c.servers = sv at *
  generalize c.at_ = av at *
  go_enter Try.func40, Try.ntmps40
  go_wp2_with fail
  refine wp_region_plan [(0, 0), (0, 2), (0, 3), (0, 4), (0, 5), (0, 6), (0, 7), (0, 8), (0, 9), (0, 10), (0, 11), (0, 12), (0, 13), (1, 1), (2, 14), (0, 15), (0, 16), (2, 17)] (fun k => k = g) (by kernel_rfl) (by kernel_rfl) (fun c a d v w h => by cases d <;> exact h) ?_
  iterate 13
    refine plan_s1 rfl (by rfl) (fun Kc hKc => ?_)
    go_simp
    first
      | (refine hKc _ ?_)
    clear hKc Kc
  iterate 1
    apply plan_h
    · rfl
    · rfl
    · intro wh hT
      go_simp
      try rfl
    go_frame
  refine plan_a1 rfl (by rfl) (fun Kc hKc => ?_)
  go_simp
  refine hKc _ _ ⟨(Touch.refl (fun k => k = g) _).set (b := g) (o := 1) (fun _ => rfl) _, ?_⟩
  clear hKc Kc
  iterate 2
    refine plan_s1 rfl (by rfl) (fun Kc hKc => ?_)
    go_simp
    first
      | (refine hKc _ ?_)
    clear hKc Kc
  refine plan_a1 rfl (by rfl) (fun Kc hKc => ?_)
  go_simp
  refine hKc _ _ ⟨(Touch.refl (fun k => k = g) _).set (b := g) (o := 2) (fun _ => rfl) _, ?_⟩
  clear hKc Kc
  refine plan_done ?_
  go_wp2_with fail
  go_end0
  exact ⟨rfl, HB3.out, T2.out⟩
end Go.Proofs.Ytlcefchbfjfifaa
end
