/- The reference's disk (ref23): by value; New, named, step, Boot, Arm, Resize. -/
import Derived.Test.YtpgakkpmpnebnaaVDkN
namespace Go.Proofs.Ytpgakkpmpnebnaa
open Go.RowKit Go.Maps
set_option maxHeartbeats 4000000
set_option maxRecDepth 100000
set_option linter.unusedVariables false
attribute [local irreducible] wpPlan

def fiC (f : Fi) : List Value := [St f.nm, St f.al, .int .i64 (f.kp : Int)]
theorem fiC_len (f : Fi) : (fiC f).length = 3 := rfl
theorem fiC_one (f : Fi) : ∀ u ∈ fiC f, u.oneCell' = true := by intro u hu; simp [fiC] at hu; rcases hu with rfl | rfl | rfl <;> rfl
def rdA (A : Option Addr) (c : Nat) (D : Dk) : Array Value := #[.int .i64 D.room, .slice A D.fs.length c, .bool D.down, .int .i64 D.armed, .int .u64 (D.steps : Int)]
theorem rowRd : RowT 67 5 := ⟨⟨_, Try.underlying67, rfl⟩, by kernel_rfl⟩
theorem rowFi : RowT 82 3 := ⟨⟨_, Try.underlying82, rfl⟩, by kernel_rfl⟩
/-- The slice value (A, length, c) reads as these files. -/
def RfF (w : World) (F : Nat → Prop) (A : Option Addr) (fs : List Fi) : Prop := RdZ w F 3 A fs.length (fs.flatMap fiC)
section
variable {w w' : World} {F F' S : Nat → Prop} {A : Option Addr} {fs : List Fi}
theorem RfF.nil (w : World) (F : Nat → Prop) (A : Option Addr) : RfF w F A [] := ⟨by simp, fun h => absurd h (by simp)⟩
theorem RfF.touch (h : RfF w F A fs) (ht : Touch S w w') (hd : ∀ k, F k → ¬ S k) : RfF w' F A fs := RdZ.touch h ht hd
theorem RfF.mono (h : RfF w F A fs) (hF : ∀ k, F k → F' k) : RfF w F' A fs :=
  ⟨h.1, fun hn => by
    obtain ⟨g, off, e, hl, hf, hc⟩ := h.2 hn
    exact ⟨g, off, e, hl, hF g hf, hc⟩⟩
theorem RfF.at_ (h : RfF w F A fs) {i : Nat} {f : Fi} (hf : fs[i]? = some f) :
    ∃ g off, A = some ⟨g, off, none⟩ ∧ g < w.heap.size ∧ F g ∧ w.cell? ⟨g, off + i * 3, none⟩ = some (St f.nm) ∧ w.cell? ⟨g, off + i * 3 + 1, none⟩ = some (St f.al) ∧ w.cell? ⟨g, off + i * 3 + 2, none⟩ = some (.int .i64 (f.kp : Int)) := by
  obtain ⟨g, off, e, hg, hF, hc⟩ := RdZ.at_ h (fun a _ => fiC_len a) rfl hf
  exact ⟨g, off, e, hg, hF, hc 0 _ rfl, hc 1 _ rfl, hc 2 _ rfl⟩
end
theorem fnamed_any (l : List UInt8) (w : World) (hl : l.length ≤ 1000000) :
    Calls Try.prog 111 #[St l] w fun e w' => e = .returned (.bool (namedF l)) ∧ w = w' := by
  have hs := stSize l
  by_cases h1 : 1 ≤ l.length
  · by_cases h2 : l.length ≤ 16
    · have HV := Lib.hid (show namedF l = true by simp [namedF, h1, h2])
      go_enter Try.func111, Try.ntmps111
      go_wp2
      go_ret
      exact ⟨by rw [HV.out]; simp <;> omega, rfl⟩
    · have HV := Lib.hid (show namedF l = false by simp [namedF, h1, h2])
      go_enter Try.func111, Try.ntmps111
      go_wp2
      go_ret
      exact ⟨by rw [HV.out]; simp <;> omega, rfl⟩
  · have HV := Lib.hid (show namedF l = false by simp [namedF, h1])
    go_enter Try.func111, Try.ntmps111
    go_wp2
    go_ret
    exact ⟨by rw [HV.out]; simp <;> omega, rfl⟩
/-- What a step of the reference tells. -/
def StfP (D : Dk) (A : Option Addr) (c : Nat) (w : World) (e : Ending) (w' : World) : Prop := e = .returned (.tuple #[.agg (rdA A c D.step.1), .bool D.step.2]) ∧ Touch (fun _ => False) w w'
theorem T2 (w : World) (o1 o2 : Obj) : Touch (fun _ => False) w ((w.alloc o1).alloc o2) := ((Touch.refl (fun _ => False) w).alloc o1).alloc o2
theorem new2 (w : World) (o1 : Obj) (t : TypeId) (cs : Array Value) : ((w.alloc o1).alloc (.cells cs t)).rangeAt (w.heap.size + 1) 0 cs.toList := by
  have := (Blk.new (w.alloc o1) t cs).whole
  rwa [show (w.alloc o1).heap.size = w.heap.size + 1 from by simp] at this
theorem fstep_any (D : Dk) (A : Option Addr) (c : Nat) (w : World) (ha : -1 ≤ D.armed ∧ D.armed ≤ 9223372036854775807) (hst : D.steps ≤ 1000000) :
    Calls Try.prog 108 #[.agg (rdA A c D)] w (StfP D A c w) := by
  obtain ⟨room, fs, down, armed, steps⟩ := D
  simp only at ha hst
  have hw1 : IntKind.u64.wrap ((steps : Int) + 1) = (steps : Int) + 1 := IntWalk.u64_in _ (by omega)
  rcases (by omega : armed = 0 ∨ 0 < armed ∨ armed = -1) with h0 | h0 | h0
  · subst h0
    have HV := Lib.hid (show (Dk.step ⟨room, fs, down, 0, steps⟩) = (⟨room, fs, true, -1, steps + 1⟩, false) from rfl)
    unfold rdA
    simp only
    go_enter Try.func108, Try.ntmps108
    go_wp2
    refine bodyPost_ret (results_cell2 (cs := rdA A c ⟨room, fs, true, -1, steps + 1⟩) 2 3 rowRd rfl (by exact new2 _ _ _ _) rfl rfl) rfl ?_
    unfold StfP
    rw [HV.out]
    exact ⟨rfl, T2 _ _ _⟩
  · have HV := Lib.hid (show (Dk.step ⟨room, fs, down, armed, steps⟩) = (⟨room, fs, down, armed - 1, steps + 1⟩, true) from by unfold Dk.step; rw [if_neg (by simp; omega), if_pos (by simpa using h0)])
    have hw : IntKind.i64.wrap (armed - 1) = armed - 1 := IntWalk.i64_in _ (by omega)
    have hne : (armed == 0) = false := by simp; omega
    unfold rdA
    simp only
    go_enter Try.func108, Try.ntmps108
    go_wp2
    refine bodyPost_ret (results_cell2 (cs := rdA A c ⟨room, fs, down, armed - 1, steps + 1⟩) 2 3 rowRd rfl (by exact new2 _ _ _ _) rfl rfl) rfl ?_
    unfold StfP
    rw [HV.out]
    exact ⟨rfl, T2 _ _ _⟩
  · subst h0
    have HV := Lib.hid (show (Dk.step ⟨room, fs, down, -1, steps⟩) = (⟨room, fs, down, -1, steps + 1⟩, true) from rfl)
    unfold rdA
    simp only
    go_enter Try.func108, Try.ntmps108
    go_wp2
    refine bodyPost_ret (results_cell2 (cs := rdA A c ⟨room, fs, down, -1, steps + 1⟩) 2 3 rowRd rfl (by exact new2 _ _ _ _) rfl rfl) rfl ?_
    unfold StfP
    rw [HV.out]
    exact ⟨rfl, T2 _ _ _⟩
theorem fboot_any (D : Dk) (A : Option Addr) (c : Nat) (w : World) :
    Calls Try.prog 84 #[.agg (rdA A c D)] w fun e w' => e = .returned (.agg (rdA A c D.boot)) ∧ Touch (fun _ => False) w w' := by
  obtain ⟨room, fs, down, armed, steps⟩ := D
  unfold Dk.boot rdA
  simp only
  go_enter Try.func84, Try.ntmps84
  go_wp2
  refine bodyPost_ret (results_cell1 (cs := rdA A c ⟨room, fs, false, -1, steps⟩) 2 rowRd rfl (by exact new2 _ _ _ _) rfl rfl) rfl ?_
  exact ⟨rfl, T2 _ _ _⟩
/-- What a call on the reference's disk tells. -/
def RkP (p : Dk × Int) (F : Nat → Prop) (w : World) (e : Ending) (w' : World) : Prop :=
  ∃ A' c' F', e = .returned (.tuple #[.agg (rdA A' c' p.1), .int .i64 p.2]) ∧ RfF w' F' A' p.1.fs ∧ (∀ q, F' q → F q ∨ (w.heap.size ≤ q ∧ q < w'.heap.size)) ∧ Touch (fun _ => False) w w'
theorem RkP.same {D D' : Dk} {v : Int} {p : Dk × Int} {F : Nat → Prop} {A : Option Addr} {c : Nat} {w w' : World} (hr : RfF w F A D.fs) (t : Touch (fun _ => False) w w') (hf : D'.fs = D.fs) (hp : p = (D', v)) : RkP p F w (.returned (.tuple #[.agg (rdA A c D'), .int .i64 v])) w' := by
  subst hp
  exact ⟨A, c, F, rfl, by rw [hf]; exact hr.touch t (fun _ _ e => e), fun q hq => .inl hq, t⟩
theorem farm_any (D : Dk) (F : Nat → Prop) (A : Option Addr) (c : Nat) (n : Int) (w : World) (hr : RfF w F A D.fs) :
    Calls Try.prog 81 #[.agg (rdA A c D), .int .i64 n] w (RkP (D.arm n) F w) := by
  obtain ⟨room, fs, down, armed, steps⟩ := D
  have HR := Lib.hid hr
  clear hr
  cases down
  · by_cases h0 : n < 0
    · have HV := Lib.hid (show Dk.arm ⟨room, fs, false, armed, steps⟩ n = (⟨room, fs, false, armed, steps⟩, 2) by rw [Dk.arm, if_neg (by simp), if_pos h0])
      unfold rdA
      simp only
      go_enter Try.func81, Try.ntmps81
      go_wp2
      refine bodyPost_ret (results_cell2 (cs := rdA A c ⟨room, fs, false, armed, steps⟩) 4 5 rowRd rfl (by exact new2 _ _ _ _) rfl rfl) rfl ?_
      exact RkP.same HR.out (T2 _ _ _) rfl HV.out
    · have HV := Lib.hid (show Dk.arm ⟨room, fs, false, armed, steps⟩ n = (⟨room, fs, false, n, steps⟩, 0) by rw [Dk.arm, if_neg (by simp), if_neg h0])
      unfold rdA
      simp only
      go_enter Try.func81, Try.ntmps81
      go_wp2
      refine bodyPost_ret (results_cell2 (cs := rdA A c ⟨room, fs, false, n, steps⟩) 4 5 rowRd rfl (by exact new2 _ _ _ _) rfl rfl) rfl ?_
      exact RkP.same HR.out (T2 _ _ _) rfl HV.out
  · have HV := Lib.hid (show Dk.arm ⟨room, fs, true, armed, steps⟩ n = (⟨room, fs, true, armed, steps⟩, 50) by rw [Dk.arm, if_pos rfl])
    unfold rdA
    simp only
    go_enter Try.func81, Try.ntmps81
    go_wp2
    refine bodyPost_ret (results_cell2 (cs := rdA A c ⟨room, fs, true, armed, steps⟩) 4 5 rowRd rfl (by exact new2 _ _ _ _) rfl rfl) rfl ?_
    exact RkP.same HR.out (T2 _ _ _) rfl HV.out
theorem fresize_any (D : Dk) (F : Nat → Prop) (A : Option Addr) (c : Nat) (n : Int) (w : World) (hr : RfF w F A D.fs) :
    Calls Try.prog 85 #[.agg (rdA A c D), .int .i64 n] w (RkP (D.resize n) F w) := by
  obtain ⟨room, fs, down, armed, steps⟩ := D
  have HR := Lib.hid hr
  clear hr
  cases down
  · rcases (by omega : n < 0 ∨ (¬ n < 0 ∧ 1048576 < n) ∨ (¬ n < 0 ∧ ¬ 1048576 < n)) with h0 | ⟨h0, h1⟩ | ⟨h0, h1⟩
    · have HV := Lib.hid (show Dk.resize ⟨room, fs, false, armed, steps⟩ n = (⟨room, fs, false, armed, steps⟩, 2) by rw [Dk.resize, if_neg (by simp), if_pos (by omega)])
      unfold rdA
      simp only
      go_enter Try.func85, Try.ntmps85
      go_wp2
      refine bodyPost_ret (results_cell2 (cs := rdA A c ⟨room, fs, false, armed, steps⟩) 4 5 rowRd rfl (by exact new2 _ _ _ _) rfl rfl) rfl ?_
      exact RkP.same HR.out (T2 _ _ _) rfl HV.out
    · have HV := Lib.hid (show Dk.resize ⟨room, fs, false, armed, steps⟩ n = (⟨room, fs, false, armed, steps⟩, 2) by rw [Dk.resize, if_neg (by simp), if_pos (by omega)])
      unfold rdA
      simp only
      go_enter Try.func85, Try.ntmps85
      go_wp2
      refine bodyPost_ret (results_cell2 (cs := rdA A c ⟨room, fs, false, armed, steps⟩) 4 5 rowRd rfl (by exact new2 _ _ _ _) rfl rfl) rfl ?_
      exact RkP.same HR.out (T2 _ _ _) rfl HV.out
    · have HV := Lib.hid (show Dk.resize ⟨room, fs, false, armed, steps⟩ n = (⟨n, fs, false, armed, steps⟩, 0) by rw [Dk.resize, if_neg (by simp), if_neg (by omega)])
      unfold rdA
      simp only
      go_enter Try.func85, Try.ntmps85
      go_wp2
      refine bodyPost_ret (results_cell2 (cs := rdA A c ⟨n, fs, false, armed, steps⟩) 4 5 rowRd rfl (by exact new2 _ _ _ _) rfl rfl) rfl ?_
      exact RkP.same HR.out (T2 _ _ _) rfl HV.out
  · have HV := Lib.hid (show Dk.resize ⟨room, fs, true, armed, steps⟩ n = (⟨room, fs, true, armed, steps⟩, 50) by rw [Dk.resize, if_pos rfl])
    unfold rdA
    simp only
    go_enter Try.func85, Try.ntmps85
    go_wp2
    refine bodyPost_ret (results_cell2 (cs := rdA A c ⟨room, fs, true, armed, steps⟩) 4 5 rowRd rfl (by exact new2 _ _ _ _) rfl rfl) rfl ?_
    exact RkP.same HR.out (T2 _ _ _) rfl HV.out
theorem fnew_any (room : Int) (w : World) :
    Calls Try.prog 33 #[.int .i64 room] w fun e w' => e = .returned (.agg (rdA none 0 ⟨room, [], false, -1, 0⟩)) ∧ Touch (fun _ => False) w w' := by
  go_enter Try.func33, Try.ntmps33
  go_wp2
  refine bodyPost_ret (results_cell1 (cs := rdA none 0 ⟨room, [], false, -1, 0⟩) 2 rowRd rfl (by exact (Blk.new _ _ _).whole) rfl rfl) rfl ?_
  exact ⟨rfl, (Touch.refl _ _).alloc _⟩
end Go.Proofs.Ytpgakkpmpnebnaa
