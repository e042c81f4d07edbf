/- law38.do, all of it, without like (CoC and CoD have the same lemmas: never import both). ClientOnce: the plain law. -/
import Derived.Test.YtlcefchbfjfifaaCoB
import Derived.Test.YtlcefchbfjfifaaCdJ
section
namespace Go.Proofs.Ytlcefchbfjfifaa
open Go.RowKit Cal
set_option maxHeartbeats 4000000
set_option maxRecDepth 100000
set_option linter.unusedVariables false
attribute [local irreducible] wpPlan

theorem SmallR.of {c : Cl} (ok : c.Ok) {xs : List ResV} (h : xs.map ResV.p = c.done) : SmallR xs := by
  intro x hx
  have hm : (x.c, x.a) ∈ c.done := by rw [← h]; exact List.mem_map.2 ⟨x, hx, rfl⟩
  have hd := ok.dn _ hm
  simp only at hd
  obtain ⟨h1, h2, h3⟩ := cmFit_in hd.1
  exact ⟨by omega, by omega, by omega, hd.1.2.1, by omega⟩
theorem stepC_ok {o : COpV} {c cr : Cl} {w : World} (h : c.Ok) (oo : o.ok w) (hl : lightK o = true) : (stepC o c cr).Ok := by
  unfold stepC
  split
  · exact h.hear _ _ _ _ (by have := (lightK_in hl).2; omega)
  · split
    · exact h.tick
    · exact h.want _ oo.x64
theorem stepC_len {o : COpV} {c cr : Cl} : (stepC o c cr).done.length ≤ c.done.length + 1 := by
  unfold stepC
  split
  · unfold Cl.hear
    split
    · omega
    · split
      · split
        · simp
        · simp [Cl.nxt]
      · omega
  · split
    · unfold Cl.tick
      split
      · split <;> simp
      · omega
    · unfold Cl.want
      split <;> simp
theorem tellB_self (o : COpV) (c : Cl) : tellB o c c = true := by unfold tellB; split; simp; split <;> simp
theorem do38_any {w0 w : World} {g : Nat} {c cr : Cl} {M : ClM} {F : Nat → Prop} {Mr : RfM} {Fr Z : Nat → Prop} (h : BoL w0 w g c M F cr Mr Fr Z) (okr : cr.Ok) (o : COpV) (oo : o.ok w0) (hlk : lightK o = true) (hdl : c.done.length ≤ 1000) (hdr : cr.done.length ≤ 1000) :
    Calls Try.prog 10 #[.pointer (some ⟨g, 0, none⟩), .agg (rfC cr Mr), .agg o.arr] w (DoP38 w0 g (stepC o c cr) (stepC o cr cr) (tellB o c cr) Z w) := by
  by_cases h1 : o.kind = 1
  · rw [stepC, stepC, tellB, if_pos h1, if_pos h1, if_pos h1]
    exact do38_hear h okr o oo hlk hdl hdr h1
  · by_cases h2 : o.kind = 2
    · rw [stepC, stepC, tellB, if_neg h1, if_neg h1, if_neg h1, if_pos h2, if_pos h2, if_pos h2]
      exact do38_tick h okr o h2
    · rw [stepC, stepC, tellB, if_neg h1, if_neg h1, if_neg h1, if_neg h2, if_neg h2, if_neg h2]
      exact do38_want h okr o oo hlk h1 h2
theorem light38_in {l : List COpV} (h : light38B l = true) : (∀ o ∈ l, lightK o = true) ∧ l.length ≤ 80 := by
  simp only [light38B, Bool.and_eq_true, List.all_eq_true, decide_eq_true_eq] at h
  exact h
end Go.Proofs.Ytlcefchbfjfifaa
end

section
namespace Go.Proofs.Ytlcefchbfjfifaa
open Go.RowKit Cal
set_option maxHeartbeats 4000000
set_option maxRecDepth 100000
set_option linter.unusedVariables false
attribute [local irreducible] wpPlan

/-- A command in memory. -/
structure CmV where
  x : Cm
  A : Option Addr
  B : Option Addr
  D : Option Addr
  k : Nat
  m : Nat
  n : Nat
def CmV.arr (v : CmV) : Array Value := cmA v.x v.A v.B v.D v.k v.m v.n
def CmV.cells (v : CmV) : List Value := v.arr.toList
theorem CmV.size (v : CmV) : v.arr.size = 13 := cmA_size ..
theorem CmV.len (v : CmV) : v.cells.length = 13 := by rw [CmV.cells, Array.length_toList, v.size]
theorem CmV.one (v : CmV) : v.arr.all (·.oneCell') = true := cmA_one ..
theorem CmV.one_mem (v : CmV) : ∀ u ∈ v.arr.toList, u.oneCell' = true := by
  intro u hu
  have := v.one
  rw [← Array.all_toList] at this
  exact List.all_eq_true.1 this u hu
/-- What is wanted first, second, .. is done with these Reqs. -/
def tag (i : Nat) (x : Cm) : Cm := { x with client := 2, req := i + 1 }
def tagged (ws : List Cm) : List Cm := ws.mapIdx tag
theorem tagged_len (ws : List Cm) : (tagged ws).length = ws.length := by simp [tagged]
theorem tagged_get {ws : List Cm} {i : Nat} {x : Cm} (h : ws[i]? = some x) : (tagged ws)[i]? = some (tag i x) := by simp [tagged, List.getElem?_mapIdx, h]
theorem tagged_app (ws : List Cm) (x : Cm) : tagged (ws ++ [x]) = tagged ws ++ [tag ws.length x] := by simp [tagged, List.mapIdx_append]
structure OnceI (c : Cl) (ws : List Cm) : Prop where
  nu : c.number = 2
  rq : c.req = ws.length
  tg : c.done.map Prod.fst ++ c.busy.toList = tagged ws
theorem OnceI.new : OnceI (Cl.new 2 3) [] := ⟨rfl, rfl, rfl⟩
theorem OnceI.same {c c' : Cl} {ws : List Cm} (h : OnceI c ws) (h1 : c'.number = c.number) (h2 : c'.req = c.req) (h3 : c'.done = c.done) (h4 : c'.busy = c.busy) : OnceI c' ws :=
  ⟨h1.trans h.nu, h2.trans h.rq, by rw [h3, h4]; exact h.tg⟩
theorem OnceI.tick {c : Cl} {ws : List Cm} (h : OnceI c ws) : OnceI c.tick ws := by
  unfold Cl.tick
  split
  · split
    · exact h.same rfl rfl rfl rfl
    · exact h.same rfl rfl rfl rfl
  · exact h
theorem OnceI.hear {c : Cl} {ws : List Cm} (h : OnceI c ws) (ac ar : Nat) (code : Int) (r : RpV) : OnceI (c.hear ac ar code r) ws := by
  unfold Cl.hear
  split
  · exact h
  · rename_i x hb
    split
    · split
      · refine ⟨h.nu, h.rq, ?_⟩
        have := h.tg
        rw [hb] at this
        simpa using this
      · exact h.same rfl rfl rfl rfl
    · exact h
theorem OnceI.no {c : Cl} {ws : List Cm} (h : OnceI c ws) {x : Cm} (h0 : c.wantE x ≠ 0) : OnceI (c.want x) ws := by
  rw [Cl.want, if_neg h0]; exact h
theorem OnceI.yes {c : Cl} {ws : List Cm} (h : OnceI c ws) {x : Cm} (h0 : c.wantE x = 0) : OnceI (c.want x) (ws ++ [x]) := by
  have hb : c.busy = none := by
    cases hb : c.busy with
    | none => rfl
    | some y => rw [Cl.wantE, hb] at h0; simp at h0
  rw [Cl.want, if_pos h0]
  refine ⟨h.nu, by simp [h.rq], ?_⟩
  have h1 := h.tg
  rw [hb] at h1
  simp only [Option.toList_none, List.append_nil] at h1
  rw [tagged_app, ← h1]
  simp only [Option.toList_some, List.append_cancel_left_eq]
  simp [Cl.mk_, tag, h.nu, h.rq]
theorem OnceI.len {c : Cl} {ws : List Cm} (h : OnceI c ws) : c.done.length + (if c.busy.isSome = true then 1 else 0) = ws.length := by
  have := congrArg List.length h.tg
  rw [tagged_len, List.length_append, List.length_map] at this
  rw [← this]
  cases c.busy <;> simp
theorem OnceI.row {c : Cl} {ws : List Cm} (h : OnceI c ws) {i : Nat} {y : Cm × RpV} (hy : c.done[i]? = some y) {x : Cm} (hx : ws[i]? = some x) : y.1 = tag i x := by
  have h1 := tagged_get hx
  rw [← h.tg, List.getElem?_append_left (by have := (List.getElem?_eq_some_iff.1 hy).1; simpa using this), List.getElem?_map, hy] at h1
  simpa using h1
theorem OnceI.last {c : Cl} {ws : List Cm} (h : OnceI c ws) {x : Cm} (hb : c.busy = some x) : x.req = ws.length ∧ x.client = 2 := by
  have hl := h.len
  rw [hb] at hl
  simp at hl
  obtain ⟨y, hy⟩ : ∃ y, ws[c.done.length]? = some y := ⟨_, List.getElem?_eq_getElem (by omega)⟩
  have h1 := tagged_get hy
  rw [← h.tg, List.getElem?_append_right (by simp), hb] at h1
  simp at h1
  rw [h1]
  exact ⟨by simp [tag]; omega, rfl⟩
/-- The document's client that the law hands to do: it is never busy. -/
def crO (n : Nat) : Cl := ⟨3, 0, 0, 2, n, none, []⟩
theorem crO_ok {n : Nat} (h : n ≤ 1152921504606846976) : (crO n).Ok := ⟨⟨by simp [crO], by simp [crO]⟩, ⟨by simp [crO], by simp [crO]⟩, by simp [crO], by simp [crO], h, (fun _ e => by cases e), (fun _ h => by cases h)⟩
def RfM.nil : RfM := ⟨cmZA, .slice none 0 0, []⟩
theorem RfR.nil (w : World) (F : Nat → Prop) (n : Nat) : RfR w F (crO n) RfM.nil :=
  ⟨rfl, cmA_one .., (fun _ e => by cases e), ⟨none, 0, rfl, fun _ => rfl, by simp [crO], by simp, by simp [RfM.nil, crO, RdZ]⟩, rfl, (fun _ h => by cases h)⟩
theorem rfC_nil (n : Nat) : (#[.int .u64 2, .int .i64 3, .int .u64 n, .int .i64 0, .int .i64 0, .bool false, .int .i64 0, .int .u64 0, .int .u64 0, .int .u64 0, .int .i64 0, .int .i64 0, .int .i64 0, .slice none 0 0, .slice none 0 0, .int .i64 0, .slice none 0 0, .int .i64 0, .int .i64 0, .slice none 0 0] : Array Value) = rfC (crO n) RfM.nil := by
  simp [rfC, RfM.nil, cmZA, cmA, cmZ, crO, caZ, coZ]
theorem BoL.reref {w0 w : World} {g : Nat} {c cr : Cl} {M : ClM} {F : Nat → Prop} {Mr : RfM} {Fr Z : Nat → Prop} (h : BoL w0 w g c M F cr Mr Fr Z) (n : Nat) : BoL w0 w g c M F (crO n) RfM.nil (fun _ => False) Z := ⟨h.cv, RfR.nil _ _ _, (fun _ e => e.elim), h.z⟩
/-- A block of Z grows. -/
theorem BoL.grow {w0 w w' : World} {g : Nat} {c cr : Cl} {M : ClM} {F : Nat → Prop} {Mr : RfM} {Fr Z Z' : Nat → Prop} {S : Nat → Prop} (h : BoL w0 w g c M F cr Mr Fr Z) (t : Touch S w w') (hS : ∀ k, S k → Z k) (hz : ∀ k, Z' k → (Z k ∨ w.heap.size ≤ k) ∧ k < w'.heap.size) : BoL w0 w' g c M F cr Mr Fr Z' := by
  have h1 := h.zset t hS
  have hgl := h.cv.at_.blk.lt
  have hw0 := h.cv.t.size
  refine ⟨h1.cv, h1.rf, fun k hk => ⟨(h1.fr k hk).1, (h1.fr k hk).2.1, (h1.fr k hk).2.2.1, fun e => ?_⟩, fun k hk => ?_⟩
  · rcases (hz k e).1 with e | e
    · exact (h1.fr k hk).2.2.2 e
    · have := (h.fr k hk).1; omega
  · rcases (hz k hk).1 with e | e
    · exact h1.z k e
    · exact ⟨(hz k hk).2, by omega, by omega, fun e2 => (by have := h.cv.at_.own.lt k e2; omega), fun e2 => (by have := h.cv.lt k e2; omega)⟩
theorem infoCm : (Try.prog.info? 35).map (fun i => (i.zero, i.size, i.bytes)) = some (some (.agg #[.int .i64 0, .int .u64 0, .int .u64 0, .int .u64 0, .int .i64 0, .int .i64 0, .int .i64 0, .slice none 0 0, .slice none 0 0, .int .i64 0, .slice none 0 0, .int .i64 0, .int .i64 0]), 13, 152) := by kernel_rfl
theorem foldV (v : CmV) : Array.foldl (fun cs x => cs.setIfInBounds x.snd x.fst) #[.int .i64 0, .int .u64 0, .int .u64 0, .int .u64 0, .int .i64 0, .int .i64 0, .int .i64 0, .slice none 0 0, .slice none 0 0, .int .i64 0, .slice none 0 0, .int .i64 0, .int .i64 0] v.arr.zipIdx 0 13 = v.arr := by
  simp [CmV.arr, cmA]
/-- What is wanted, among the law's arguments. -/
def WsOk (w : World) (ws : List CmV) : Prop := ∀ v ∈ ws, CmR w (fun k => k < w.heap.size) v.x v.A v.B v.D ∧ (v.x.cal.wk.length ≤ 60 ∧ v.x.cal.cl.length ≤ 60 ∧ v.x.tm.lv.length ≤ 60) ∧ v.x.in64
end Go.Proofs.Ytlcefchbfjfifaa
end
