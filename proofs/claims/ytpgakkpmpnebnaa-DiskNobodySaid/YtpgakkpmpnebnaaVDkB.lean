/- A disk in memory; none, up, Down, Steps, named, step, New. -/
import Derived.Test.YtpgakkpmpnebnaaDkA
import Derived.Test.YtpgakkpmpnebnaaGMap
import Derived.Test.YtpgakkpmpnebnaaVMetD
import Derived.Test.YtpgakkpmpnebnaaVRowE
import Derived.Test.YtpgakkpmpnebnaaVPlanH
import Derived.Test.YtpgakkpmpnebnaaVQuillY
import Derived.Test.YtpgakkpmpnebnaaArgs
import Derived.StringKeys
namespace Go.Proofs.Ytpgakkpmpnebnaa
open Go.RowKit Go.Maps
set_option maxHeartbeats 4000000
set_option maxRecDepth 100000
set_option linter.unusedVariables false
attribute [local irreducible] wpPlan

abbrev St (l : List UInt8) : Value := .string ⟨l.toArray⟩
theorem stSize (l : List UInt8) : (⟨l.toArray⟩ : ByteArray).size = l.length := by simp [ByteArray.size]
theorem lawS : Keyed Try.prog 9 := string_keyed Try.underlying9
theorem keyS {l : List UInt8} (h : l.length ≤ maxLen) : keyOf Try.prog 9 (St l) = some (.string l) := by
  have := WideMaps.keyOf_string_mk Try.underlying9 (s := ⟨l.toArray⟩) (by rw [stSize]; exact h)
  simpa using this
theorem keysS {kl : Lit} (h : KeysOf Try.prog 9 kl) : ∃ l : List UInt8, l.length ≤ maxLen ∧ kl = .string l := by
  obtain ⟨v, hv⟩ := h
  obtain ⟨s, rfl, rfl, hs⟩ := WideMaps.string_of_keyOf Try.underlying9 hv
  exact ⟨s.data.toList, by rw [Array.length_toList]; exact hs, rfl⟩
def ctA (A : Option Addr) (n c : Nat) (k : Nat) : Array Value := #[.slice A n c, .int .i64 k]
theorem ctA_one (A : Option Addr) (n c k : Nat) : (ctA A n c k).all (·.oneCell') = true := by simp [ctA, Value.oneCell']
theorem zeroCt (w : World) : (zeroValue 149).run Try.prog w = .ok (.agg (ctA none 0 0 0)) w := by kernel_rfl
theorem rowCt : RowT 149 2 := ⟨⟨_, Try.underlying149, rfl⟩, by kernel_rfl⟩
theorem builtCt : Try.prog.built 149 [] = some #[.slice none 0 0, .int .i64 0] := by kernel_rfl
/-- A file's bytes. -/
def BtR (w : World) (F : Nat → Prop) (A : Option Addr) (c : Nat) (l : List UInt8) : Prop := Rd w F A l.length (l.map B8) ∧ l.length ≤ c ∧ c ≤ maxLen
theorem BtR.touch {w w' : World} {F S : Nat → Prop} {A : Option Addr} {c : Nat} {l : List UInt8} (h : BtR w F A c l) (t : Touch S w w') (hF : ∀ q, F q → ¬ S q) : BtR w' F A c l := ⟨h.1.touch t hF, h.2⟩
theorem BtR.mono {w : World} {F F' : Nat → Prop} {A : Option Addr} {c : Nat} {l : List UInt8} (h : BtR w F A c l) (hF : ∀ q, F q → F' q) : BtR w F' A c l := ⟨h.1.mono hF, h.2⟩
/-- The map says what the files are; their bytes lie in F. -/
def FlM (w : World) (b : Nat) (fs : List Fi) (F : Nat → Prop) : Prop :=
  ∃ f, MapV Try.prog 9 w b 128 f ∧ ∀ nm : List UInt8, nm.length ≤ maxLen → (getF fs nm = none → f (.string nm) = none) ∧ (∀ x, getF fs nm = some x → ∃ A c, f (.string nm) = some (.agg (ctA A x.al.length c x.kp)) ∧ BtR w F A c x.al)
theorem FlM.lt {w : World} {b : Nat} {fs : List Fi} {F : Nat → Prop} (h : FlM w b fs F) : b < w.heap.size := by obtain ⟨f, hm, -⟩ := h; exact hm.lt
theorem FlM.touch {w w' : World} {b : Nat} {fs : List Fi} {F T : Nat → Prop} (h : FlM w b fs F) (t : Touch T w w') (hb : ¬ T b) (hF : ∀ q, F q → ¬ T q) : FlM w' b fs F := by
  obtain ⟨f, hm, hs⟩ := h
  refine ⟨f, hm.touch t hb, fun nm hn => ⟨(hs nm hn).1, fun x hx => ?_⟩⟩
  obtain ⟨A, c, h1, h2⟩ := (hs nm hn).2 x hx
  exact ⟨A, c, h1, h2.touch t hF⟩
theorem FlM.mono {w : World} {b : Nat} {fs : List Fi} {F F' : Nat → Prop} (h : FlM w b fs F) (hF : ∀ q, F q → F' q) : FlM w b fs F' := by
  obtain ⟨f, hm, hs⟩ := h
  refine ⟨f, hm, fun nm hn => ⟨(hs nm hn).1, fun x hx => ?_⟩⟩
  obtain ⟨A, c, h1, h2⟩ := (hs nm hn).2 x hx
  exact ⟨A, c, h1, h2.mono hF⟩
def dkA (b : Nat) (room : Int) (down : Bool) (armed : Int) (m : Nat) : Array Value := #[.map (some b), .int .i64 room, .bool down, .int .i64 armed, .pointer (some ⟨m, 0, none⟩)]
/-- A disk: its block g, its map b, its meter m; the files' bytes in F. -/
structure DkAt (w : World) (g b m : Nat) (D : Dk) (F : Nat → Prop) : Prop where
  blk : Blk w g 102 (dkA b D.room D.down D.armed m)
  mp : FlM w b D.fs F
  mt : MAt w m [D.steps]
  ok : D.Ok
  fl : ∀ q, F q → q < w.heap.size
  nF : ¬ F g ∧ ¬ F b ∧ ¬ F m
  ne : g ≠ b ∧ g ≠ m ∧ b ≠ m
section
variable {w w' : World} {g b m : Nat} {D : Dk} {F T : Nat → Prop}
theorem DkAt.touch (h : DkAt w g b m D F) (t : Touch T w w') (hg : ¬ T g) (hb : ¬ T b) (hm : ¬ T m) (hF : ∀ q, F q → ¬ T q) : DkAt w' g b m D F :=
  ⟨t.blk h.blk hg, h.mp.touch t hb hF, h.mt.touch t hm, h.ok, fun q hq => Nat.lt_of_lt_of_le (h.fl q hq) t.size, h.nF, h.ne⟩
theorem DkAt.far (h : DkAt w g b m D F) (t : Touch (fun _ => False) w w') : DkAt w' g b m D F := h.touch t (fun e => e) (fun e => e) (fun e => e) (fun _ _ e => e)
theorem DkAt.lt (h : DkAt w g b m D F) : g < w.heap.size ∧ b < w.heap.size ∧ m < w.heap.size := ⟨h.blk.lt, h.mp.lt, h.mt.2.2.lt⟩
end
theorem dnone_any {w : World} {g b m : Nat} {D : Dk} {F : Nat → Prop} (h : DkAt w g b m D F) :
    Calls Try.prog 87 #[.pointer (some ⟨g, 0, none⟩)] w fun e w' => e = .returned (.bool false) ∧ w = w' := by
  have q0 := h.blk.cell 0
  simp [dkA] at q0
  clear h
  have hbin : ∀ w, (binOp .eql 99 (.map (some b)) (.map none)).run Try.prog w = .ok (.bool false) w := fun w => by first | rfl | simp [go_sem]
  go_enter Try.func87, Try.ntmps87
  go_wp2
  go_ret
  exact ⟨rfl, rfl⟩
theorem ddown_any {w : World} {g b m : Nat} {D : Dk} {F : Nat → Prop} (h : DkAt w g b m D F) :
    Calls Try.prog 36 #[.pointer (some ⟨g, 0, none⟩)] w fun e w' => e = .returned (.bool D.down) ∧ w = w' := by
  have q2 := h.blk.cell 2
  simp [dkA] at q2
  have HN := Lib.hid (dnone_any h)
  clear h
  go_enter Try.func36, Try.ntmps36
  go_wp2_with (go_at_call 87; go_must (refine HN.out.mono ?_); rintro e w1 ⟨rfl, rfl⟩)
  go_ret
  exact ⟨rfl, rfl⟩
theorem dsteps_any {w : World} {g b m : Nat} {D : Dk} {F : Nat → Prop} (h : DkAt w g b m D F) :
    Calls Try.prog 39 #[.pointer (some ⟨g, 0, none⟩)] w fun e w' => e = .returned (.int .u64 (D.steps : Nat)) ∧ w = w' := by
  have q4 := h.blk.cell 4
  simp [dkA] at q4
  have HN := Lib.hid (dnone_any h)
  have HG := Lib.hid (mget_any m 0 [D.steps] w h.mt (by simp))
  rw [show getV [D.steps] 0 = D.steps from by simp [getV, inR]] at HG
  clear h
  go_enter Try.func39, Try.ntmps39
  go_wp2_with (first
    | (go_at_call 87; go_must (refine HN.out.mono ?_); rintro e w1 ⟨rfl, rfl⟩)
    | (go_at_call 90; go_must (refine HG.out.mono ?_); rintro e w1 ⟨rfl, rfl⟩))
  go_ret
  exact ⟨rfl, rfl⟩
def upE (D : Dk) : Int := if D.down = true then 50 else 0
theorem dup_any {w : World} {g b m : Nat} {D : Dk} {F : Nat → Prop} (h : DkAt w g b m D F) :
    Calls Try.prog 94 #[.pointer (some ⟨g, 0, none⟩)] w fun e w' => e = .returned (.int .i64 (upE D)) ∧ w = w' := by
  have q2 := h.blk.cell 2
  simp [dkA] at q2
  have HN := Lib.hid (dnone_any h)
  clear h
  cases hd : D.down
  · have HV := Lib.hid (show upE D = 0 by rw [upE, hd]; rfl)
    rw [hd] at q2
    clear hd
    go_enter Try.func94, Try.ntmps94
    go_wp2_with (go_at_call 87; go_must (refine HN.out.mono ?_); rintro e w1 ⟨rfl, rfl⟩)
    go_ret
    exact ⟨by rw [HV.out]; rfl, rfl⟩
  · have HV := Lib.hid (show upE D = 50 by rw [upE, hd]; rfl)
    rw [hd] at q2
    clear hd
    go_enter Try.func94, Try.ntmps94
    go_wp2_with (go_at_call 87; go_must (refine HN.out.mono ?_); rintro e w1 ⟨rfl, rfl⟩)
    go_ret
    exact ⟨by rw [HV.out]; rfl, rfl⟩
theorem dnamed_any (l : List UInt8) (w : World) (hl : l.length ≤ 1000000) :
    Calls Try.prog 96 #[St l] w fun e w' => e = .returned (.bool (namedF l)) ∧ w = w' := by
  have hs := stSize l
  by_cases h1 : 1 ≤ l.length
  · by_cases h2 : l.length ≤ 16
    · have HV := Lib.hid (show namedF l = true by simp [namedF, h1, h2])
      go_enter Try.func96, Try.ntmps96
      go_wp2
      go_ret
      exact ⟨by rw [HV.out]; simp <;> omega, rfl⟩
    · have HV := Lib.hid (show namedF l = false by simp [namedF, h1, h2])
      go_enter Try.func96, Try.ntmps96
      go_wp2
      go_ret
      exact ⟨by rw [HV.out]; simp <;> omega, rfl⟩
  · have HV := Lib.hid (show namedF l = false by simp [namedF, h1])
    go_enter Try.func96, Try.ntmps96
    go_wp2
    go_ret
    exact ⟨by rw [HV.out]; simp <;> omega, rfl⟩
/-- What a step leaves. -/
def StpP (g b m : Nat) (D : Dk) (F : Nat → Prop) (w : World) (e : Ending) (w' : World) : Prop :=
  e = .returned (.int .i64 (if D.step.2 = true then 0 else 50)) ∧ DkAt w' g b m D.step.1 F ∧ Touch (fun q => q = g ∨ q = m) w w'
theorem DkAt.turn {w w' : World} {g b m : Nat} {D : Dk} {F : Nat → Prop} (h : DkAt w g b m D F) {down : Bool} {armed : Int} {st : Nat} (ha : -1 ≤ armed ∧ armed ≤ 9223372036854775807) (hb : Blk w' g 102 (dkA b D.room down armed m)) (hm : MAt w' m [st]) (t : Touch (fun q => q = g ∨ q = m) w w') :
    DkAt w' g b m { D with down := down, armed := armed, steps := st } F :=
  ⟨hb, h.mp.touch t (by have := h.ne; omega) (fun q hq e => by rcases e with rfl | rfl; exact h.nF.1 hq; exact h.nF.2.2 hq), hm, ⟨h.ok.so, h.ok.nm, h.ok.n, h.ok.tot, h.ok.room, ha⟩, fun q hq => Nat.lt_of_lt_of_le (h.fl q hq) t.size, h.nF, h.ne⟩
theorem dstep_any {w : World} {g b m : Nat} {D : Dk} {F : Nat → Prop} (h : DkAt w g b m D F) (hst : D.steps ≤ 1000000) :
    Calls Try.prog 97 #[.pointer (some ⟨g, 0, none⟩)] w (StpP g b m D F w) := by
  have q4 := h.blk.cell 4
  have hgm := h.ne
  have ha := h.ok.armed
  have HA := Lib.hid (madd_any m 1 0 [D.steps] w h.mt (by simp))
  have hF : addF 1 D.steps = (D.steps + 1, 0) := by unfold addF; rw [if_pos (by omega)]
  have hG : opG addF [D.steps] 0 1 := ⟨by simp [inR], by simp [hF]⟩
  have h1 : opC addF [D.steps] 0 1 = [D.steps + 1] := by rw [opC, if_pos hG]; simp [hF]
  have h2 : opN addF [D.steps] 0 1 = D.steps + 1 := by rw [opN, if_pos hG]; simp [hF]
  have h3 : opE addF [D.steps] 0 1 = 0 := by rw [opE, if_pos (by simp [inR])]; simp [hF]
  rw [h1, h2, h3] at HA
  have HH := Lib.hid h
  have HB := Lib.hid h.blk
  obtain ⟨room, fs, down, armed, steps⟩ := D
  simp only at HA ha HB q4
  simp [dkA] at q4
  clear h hF hG h1 h2 h3 hst
  rcases (by omega : armed = 0 ∨ 0 < armed ∨ armed = -1) with h0 | h0 | h0
  · subst h0
    have HV := Lib.hid (show (Dk.step ⟨room, fs, down, 0, steps⟩) = (⟨room, fs, true, -1, steps + 1⟩, false) from rfl)
    go_enter Try.func97, Try.ntmps97
    go_wp2_with (go_at_call 118; go_must (refine HA.out.mono ?_); rintro e w1 ⟨rfl, hm1, t1⟩
                 have HM1 := Lib.hid hm1
                 have HT1 := Lib.hid t1
                 have hb1 := t1.blk HB.out (by omega)
                 have HB1 := Lib.hid hb1
                 have q2 := hb1.cell 2
                 have q3 := hb1.cell 3
                 have f2 := hb1.frozen 2
                 have f3 := hb1.frozen 3
                 simp [dkA] at q2 q3
                 clear hm1 t1 hb1)
    go_ret
    have t2 := ((Touch.refl (fun q => q = g) w1).set (b := g) (o := 2) (fun _ => rfl) (.bool true)).set (b := g) (o := 3) (fun _ => rfl) (.int .i64 (-1))
    have hb2 := (HB1.out.set_ 2 (.bool true)).set_ 3 (.int .i64 (-1))
    have tt := (HT1.out.mono (S' := fun q => q = g ∨ q = m) (fun _ _ e => .inr e)).trans t2 (fun q _ e => .inl e)
    unfold StpP
    rw [HV.out]
    exact ⟨rfl, HH.out.turn (by omega) (by simpa [dkA] using hb2) (HM1.out.touch t2 (by omega)) tt, tt⟩
  · have HV := Lib.hid (show (Dk.step ⟨room, fs, down, armed, steps⟩) = (⟨room, fs, down, armed - 1, steps + 1⟩, true) from by unfold Dk.step; rw [if_neg (by simp; omega), if_pos (by simpa using h0)])
    have hw : IntKind.i64.wrap (armed - 1) = armed - 1 := IntWalk.i64_in _ (by omega)
    have hne : (armed == 0) = false := by simp; omega
    go_enter Try.func97, Try.ntmps97
    go_wp2_with (go_at_call 118; go_must (refine HA.out.mono ?_); rintro e w1 ⟨rfl, hm1, t1⟩
                 have HM1 := Lib.hid hm1
                 have HT1 := Lib.hid t1
                 have hb1 := t1.blk HB.out (by omega)
                 have HB1 := Lib.hid hb1
                 have q3 := hb1.cell 3
                 have f3 := hb1.frozen 3
                 simp [dkA] at q3
                 clear hm1 t1 hb1)
    go_ret
    have t2 := (Touch.refl (fun q => q = g) w1).set (b := g) (o := 3) (fun _ => rfl) (.int .i64 (armed - 1))
    have hb2 := HB1.out.set_ 3 (.int .i64 (armed - 1))
    have tt := (HT1.out.mono (S' := fun q => q = g ∨ q = m) (fun _ _ e => .inr e)).trans t2 (fun q _ e => .inl e)
    unfold StpP
    rw [HV.out]
    exact ⟨rfl, HH.out.turn (by omega) (by simpa [dkA] using hb2) (HM1.out.touch t2 (by omega)) tt, tt⟩
  · subst h0
    have HV := Lib.hid (show (Dk.step ⟨room, fs, down, -1, steps⟩) = (⟨room, fs, down, -1, steps + 1⟩, true) from rfl)
    go_enter Try.func97, Try.ntmps97
    go_wp2_with (go_at_call 118; go_must (refine HA.out.mono ?_); rintro e w1 ⟨rfl, hm1, t1⟩
                 have HM1 := Lib.hid hm1
                 have HT1 := Lib.hid t1
                 have hb1 := t1.blk HB.out (by omega)
                 have HB1 := Lib.hid hb1
                 have q3 := hb1.cell 3
                 simp [dkA] at q3
                 clear hm1 t1 hb1)
    go_ret
    have tt := HT1.out.mono (S' := fun q => q = g ∨ q = m) (fun _ _ e => .inr e)
    unfold StpP
    rw [HV.out]
    exact ⟨rfl, HH.out.turn (by omega) HB1.out HM1.out tt, tt⟩
def NewDk (room : Int) (w : World) (e : Ending) (w' : World) : Prop :=
  ∃ g b m, e = .returned (.pointer (some ⟨g, 0, none⟩)) ∧ DkAt w' g b m ⟨room, [], false, -1, 0⟩ (fun _ => False) ∧ w.heap.size ≤ g ∧ w.heap.size ≤ b ∧ w.heap.size ≤ m ∧ Touch (fun _ => False) w w'
theorem dnew_yes (room : Int) (hr : 0 ≤ room ∧ room ≤ 1048576) (w : World) : Calls Try.prog 31 #[.int .i64 room] w (NewDk room w) := by
  have HMk := Lib.hid (fun w1 => mnew_ok 1 w1 (by omega) (by omega))
  have h1 : ¬ room < 0 := by omega
  have h2 : ¬ 1048576 < room := by omega
  have hmm := @run_makeMap Try.prog
  unfold NewDk
  go_enter Try.func31, Try.ntmps31
  go_wp2_with (go_at_call 75; go_must (refine (HMk.out _).mono ?_); rintro e w1 ⟨rfl, hm1, t1⟩
               have HM1 := Lib.hid hm1
               have HT1 := Lib.hid t1
               clear hm1 t1)
  go_ret
  have M0 := (MapV.new Try.prog 9 w).touch HT1.out (fun e => e)
  have t2 := (Touch.refl (fun _ => False) w1).alloc (.cells (dkA w.heap.size room false (-1) (w.heap.size + 1)) 102)
  have hz := HT1.out.size
  have hm := HM1.out.2.2.lt
  simp at hz hm
  refine ⟨w1.heap.size, w.heap.size, w.heap.size + 1, rfl, ⟨?_, ⟨_, (M0.touch t2 (fun e => e)).mono (by omega), fun nm hn => ⟨fun _ => rfl, fun x hx => by cases hx⟩⟩, ?_, ⟨List.Pairwise.nil, (fun _ h => by cases h), by simp, by simp [totF], hr, by simp⟩, (fun _ e => e.elim), ⟨fun e => e, fun e => e, fun e => e⟩, by omega, by omega, by omega⟩, by omega, by omega, by omega, ((Touch.refl _ w).alloc _ |>.trans HT1.out (fun _ _ e => e)).trans t2 (fun _ _ e => e)⟩
  · exact Blk.new w1 102 (dkA w.heap.size room false (-1) (w.heap.size + 1))
  · exact (by simpa using HM1.out : MAt w1 (w.heap.size + 1) [0]).touch t2 (fun e => e)
theorem dnew_no (room : Int) (hr : room < 0 ∨ 1048576 < room) (w : World) : Calls Try.prog 31 #[.int .i64 room] w fun e w' => e = .returned (.pointer none) ∧ w = w' := by
  by_cases h1 : room < 0
  · go_enter Try.func31, Try.ntmps31
    go_wp2
    go_ret
    exact ⟨rfl, rfl⟩
  · have h2 : 1048576 < room := by omega
    go_enter Try.func31, Try.ntmps31
    go_wp2
    go_ret
    exact ⟨rfl, rfl⟩
end Go.Proofs.Ytpgakkpmpnebnaa
