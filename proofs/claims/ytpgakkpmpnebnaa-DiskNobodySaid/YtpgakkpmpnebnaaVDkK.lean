/- Tears in memory; Crash's next (a closure). -/
import Derived.Test.YtpgakkpmpnebnaaVDkJ
import Derived.Test.YtpgakkpmpnebnaaArgs
namespace Go.Proofs.Ytpgakkpmpnebnaa
open Go.RowKit Go.Maps
set_option maxHeartbeats 4000000
set_option maxRecDepth 100000
set_option linter.unusedVariables false
attribute [local irreducible] wpPlan

def trC (t : Tr) : List Value := [.int .u16 (t.keep : Int), .int .u32 (t.turn : Int)]
def trA (t : Tr) : Array Value := #[.int .u16 (t.keep : Int), .int .u32 (t.turn : Int)]
theorem tr_len (t : Tr) : (trC t).length = 2 := rfl
theorem trA_one (t : Tr) : (trA t).all (·.oneCell') = true := by simp [trA, Value.oneCell']
theorem rowTr : RowT 132 2 := ⟨⟨_, Try.underlying132, rfl⟩, by kernel_rfl⟩
/-- The slice value (A, n, c) reads as these tears; its block lies in F. -/
def TrR (w : World) (F : Nat → Prop) (A : Option Addr) (n : Nat) (l : List Tr) : Prop := l.length = n ∧ RdZ w F 2 A n (l.flatMap trC)
section
variable {w w' : World} {F F' S : Nat → Prop} {A : Option Addr} {n : Nat} {l : List Tr}
theorem TrR.nil (w : World) (F : Nat → Prop) (A : Option Addr) : TrR w F A 0 [] := ⟨rfl, by simp, fun h => absurd h (by omega)⟩
theorem TrR.touch (h : TrR w F A n l) (ht : Touch S w w') (hd : ∀ k, F k → ¬ S k) : TrR w' F A n l := ⟨h.1, h.2.touch ht hd⟩
theorem TrR.mono (h : TrR w F A n l) (hF : ∀ k, F k → F' k) : TrR w F' A n l :=
  ⟨h.1, h.2.1, fun hn => by
    obtain ⟨g, off, e, hl, hf, hc⟩ := h.2.2 hn
    exact ⟨g, off, e, hl, hF g hf, hc⟩⟩
theorem TrR.at_ (h : TrR w F A n l) {i : Nat} {s : Tr} (hs : l[i]? = some s) :
    ∃ g off, A = some ⟨g, off, none⟩ ∧ g < w.heap.size ∧ F g ∧ w.cell? ⟨g, off + i * 2, none⟩ = some (.int .u16 s.keep) ∧ w.cell? ⟨g, off + i * 2 + 1, none⟩ = some (.int .u32 s.turn) := by
  obtain ⟨g, off, e, hg, hF, hc⟩ := h.2.at_ (fun a _ => tr_len a) h.1 hs
  exact ⟨g, off, e, hg, hF, hc 0 _ rfl, hc 1 _ rfl⟩
def baseT (A : Option Addr) (c : Nat) : Option Addr := if c = 1 then A else A.map (·.add (1 * 2))
theorem TrR.tail {t : Tr} {ts : List Tr} {c : Nat} (h : TrR w F A (ts.length + 1) (t :: ts)) (hc : ts.length + 1 ≤ c) : TrR w F (baseT A c) ts.length ts := by
  refine ⟨rfl, by rw [flat_len trC 2 ts (fun a _ => tr_len a)], fun hn => ?_⟩
  obtain ⟨g, off, rfl, hl, hf, hcell⟩ := h.2.2 (by omega)
  unfold baseT
  rw [if_neg (by omega)]
  refine ⟨g, off + 2, by simp [Addr.add], hl, hf, fun j u hu => ?_⟩
  rw [Nat.add_assoc]
  exact hcell _ u (by rw [List.flatMap_cons, List.getElem?_append_right (by rw [tr_len]; omega), tr_len, show 2 + j - 2 = j by omega]; exact hu)
end
theorem sizeT (w : World) : (sizeOf (Try.prog.elem 69)).run Try.prog w = .ok 2 w := by kernel_rfl
theorem slice_T (A : Option Addr) (n c : Nat) (w : World) :
    (Instr.slice 69 (.slice A (n + 1) c) (some (.int .i64 1)) none none).run Try.prog w = .ok (.slice (baseT A c) n (c - 1)) w := by
  rw [run_slice_l w 69 A (n + 1) c Try.underlying69 .i64 1 (by omega) (by omega), sizeT]
  simp [Result.andThen, sliced, baseT]
/-- What next leaves. -/
def NxtP (ts : List Tr) (tb : Nat) (G : Nat → Prop) (w : World) (e : Ending) (w' : World) : Prop :=
  e = .returned (.agg (trA (ts.headD ⟨0, 0⟩))) ∧ (∃ A' c', Blk w' tb 69 #[.slice A' ts.tail.length c'] ∧ TrR w' G A' ts.tail.length ts.tail ∧ ts.tail.length ≤ c' ∧ c' ≤ maxLen) ∧ Touch (fun q => q = tb) w w'
theorem dnext_any {w : World} {tb : Nat} {G : Nat → Prop} {A : Option Addr} {c : Nat} (ts : List Tr) (hb : Blk w tb 69 #[.slice A ts.length c]) (hr : TrR w G A ts.length ts) (hG : ¬ G tb) (hc : ts.length ≤ c ∧ c ≤ maxLen) :
    Calls Try.prog 92 #[.pointer (some ⟨tb, 0, none⟩)] w (NxtP ts tb G w) := by
  have ta := (Touch.refl (fun _ => False) w).alloc (.cells #[.int .u16 0, .int .u32 0] 132)
  have HT0 := Lib.hid ta
  have HB0 := Lib.hid (Blk.new w 132 #[.int .u16 0, .int .u32 0])
  have hlt := hb.lt
  have hb1 := ta.blk hb (fun e => e)
  have q0 := hb1.cell 0
  simp at q0
  have HTb := Lib.hid hb1
  have HR := Lib.hid hr
  cases ts with
  | nil =>
    clear hr hb hb1 ta
    go_enter Try.func92, Try.ntmps92
    go_wp2
    refine bodyPost_ret (results_cell1 1 rowTr rfl (HB0.out.whole) rfl rfl) rfl ?_
    unfold NxtP
    exact ⟨rfl, ⟨A, c, HTb.out, HR.out.touch HT0.out (fun _ _ e => e), hc⟩, HT0.out.mono (fun _ _ e => e.elim)⟩
  | cons t ts =>
    obtain ⟨g1, o1, rfl, hg1, hG1, hc0, hc1⟩ := hr.at_ (i := 0) (s := t) rfl
    simp only [Nat.zero_mul, Nat.add_zero] at hc0 hc1
    have HTl := Lib.hid (TrR.tail hr (by simpa using hc.1))
    have hne : tb ≠ g1 := fun e => hG (e ▸ hG1)
    obtain ⟨w1, hw1⟩ : ∃ w1, w1 = w.alloc (.cells #[.int .u16 0, .int .u32 0] 132) := ⟨_, rfl⟩
    have HT1 := Lib.hid (show Touch (fun _ => False) w w1 from hw1 ▸ HT0.out)
    have hbn := HB0.out
    rw [← hw1] at hbn
    have hbt := HT1.out.blk hb (fun e => e)
    have HBn := Lib.hid hbn
    have HBt := Lib.hid hbt
    have r0 := hbt.cell 0
    have f0 := hbt.frozen 0
    simp at r0
    have d0 := (HT1.out.cell (p := ⟨g1, o1, none⟩) hg1 (fun e => e)).trans hc0
    have d1 := (HT1.out.cell (p := ⟨g1, o1 + 1, none⟩) hg1 (fun e => e)).trans hc1
    have e0 := hbn.frozen 0
    have e1 := hbn.frozen 1
    have e2 := hbn.cell 0
    have e3 := hbn.cell 1
    simp at e2 e3
    have hnt : tb ≠ w.heap.size := by omega
    have hng : g1 ≠ w.heap.size := by omega
    have hsl := slice_T (some ⟨g1, o1, none⟩) ts.length c
    have hcl : ts.length + 1 ≤ c := by simpa using hc.1
    clear hb hb1 ta hc0 hc1 hr
    go_enter Try.func92, Try.ntmps92
    go_wp2_with fail
    rw [← hw1]
    clear hw1 hbn hbt
    go_region
    have tA := ((Touch.refl (fun q => q = w.heap.size ∨ q = tb) w1).set (b := w.heap.size) (o := 0) (fun _ => .inl rfl) (.int .u16 (t.keep : Int))).set (b := w.heap.size) (o := 1) (fun _ => .inl rfl) (.int .u32 (t.turn : Int))
    have tB := (tA.set (b := tb) (o := 0) (fun _ => .inr rfl) (.slice (baseT (some ⟨g1, o1, none⟩) c) ts.length (c - 1))).drew
    have HT6 := Lib.hid ((HT1.out.mono (S' := fun q => q = tb) (fun _ _ e => e.elim)).trans tB (fun q hq e => by rcases e with rfl | e; omega; exact e))
    have b1 := (((Touch.refl (fun _ => False) _).drew).blk ((((HBn.out.set_ 0 (.int .u16 (t.keep : Int))).set_ 1 (.int .u32 (t.turn : Int))).far (p := ⟨tb, 0, none⟩) (by simp; omega) (.slice (baseT (some ⟨g1, o1, none⟩) c) ts.length (c - 1)))) (fun e => e))
    have b2 := (((Touch.refl (fun _ => False) _).drew).blk (((((HBt.out.far (p := ⟨w.heap.size, 0, none⟩) (by simp; omega) (.int .u16 (t.keep : Int))).far (p := ⟨w.heap.size, 1, none⟩) (by simp; omega) (.int .u32 (t.turn : Int))).set_ 0 (.slice (baseT (some ⟨g1, o1, none⟩) c) ts.length (c - 1))))) (fun e => e))
    clear tA tB r0 f0 d0 d1 e0 e1 e2 e3 hsl
    generalize ((((w1.setCell ⟨w.heap.size, 0, none⟩ (.int .u16 (t.keep : Int))).setCell ⟨w.heap.size, 1, none⟩ (.int .u32 (t.turn : Int))).setCell ⟨tb, 0, none⟩ (.slice (baseT (some ⟨g1, o1, none⟩) c) ts.length (c - 1))).drew) = W6 at *
    have HB6 := Lib.hid b1
    have HBt6 := Lib.hid b2
    have u0 := b1.cell 0
    have u1 := b1.cell 1
    have v0 := b1.frozen 0
    have v1 := b1.frozen 1
    simp at u0 u1
    clear b1 b2
    go_wp2
    have t7 := ((Touch.refl (fun q => q = w.heap.size) W6).set (b := w.heap.size) (o := 0) (fun _ => rfl) (.int .u16 (t.keep : Int))).set (b := w.heap.size) (o := 1) (fun _ => rfl) (.int .u32 (t.turn : Int))
    have b7 := (HB6.out.set_ 0 (.int .u16 (t.keep : Int))).set_ 1 (.int .u32 (t.turn : Int))
    have bt7 := t7.blk HBt6.out (by omega)
    have t8 := HT6.out.trans t7 (fun q hq e => by omega)
    refine bodyPost_ret (results_cell1 (cs := trA t) 1 rowTr rfl (by simpa [trA] using b7.whole) rfl rfl) rfl ?_
    unfold NxtP
    refine ⟨rfl, ⟨baseT (some ⟨g1, o1, none⟩) c, c - 1, by simpa using bt7, HTl.out.touch t8 (fun q hq e => hG (e ▸ hq)), by simp; omega, by omega⟩, t8⟩
end Go.Proofs.Ytpgakkpmpnebnaa
