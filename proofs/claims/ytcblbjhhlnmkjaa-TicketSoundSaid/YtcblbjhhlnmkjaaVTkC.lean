/- Package ticket: Fire by a clock. (written by gentkc.py) -/
import Derived.Test.YtcblbjhhlnmkjaaVTkB
import Derived.Test.YtcblbjhhlnmkjaaVChD
import Derived.Test.YtcblbjhhlnmkjaaPlanG
import Derived.Test.YtcblbjhhlnmkjaaVRowD
namespace Go.Proofs.Ytcblbjhhlnmkjaa
open Go.RowKit Cal
set_option maxHeartbeats 4000000
set_option maxRecDepth 100000
set_option linter.unusedVariables false

def CkF (k a p b : Nat) (c : Ca) (G : Nat → Prop) (r : (TkV × Int) × Int) (w : World) (e : Ending) (w' : World) : Prop := CkV k a p b c G (.tuple #[.agg #[.int .u64 r.1.1.id, .int .i64 r.1.1.contract, .int .i64 r.1.1.state, .int .i64 r.1.1.level, .int .u64 r.1.1.gen, .int .i64 r.1.1.from_, .int .i64 r.1.1.left, .int .i64 r.1.1.due, .int .i64 r.1.1.told], .int .i64 r.1.2, .int .i64 r.2]) w e w'
def TkV.tell (t : TkV) : TkV := ⟨t.id, t.contract, t.state, t.level, t.gen, t.from_, t.left, t.due, min t.told 2147483647 + 1⟩
noncomputable def tfireV (c : Ca) (t : TkV) (c2 : Co) (now : Int) : (TkV × Int) × Int :=
  if t.state ≠ 1 then ((TkV.z, 0), 33) else if now < t.due then ((TkV.z, 0), 52) else if goodB c2 = false ∨ t.level < 0 ∨ c2.lv.length ≤ t.level then ((TkV.z, 0), 2)
  else if (nextV c c2 t.st now).1.2 = true then (((withV t 1 (nextV c c2 t.st now).1.1 0).1.tell, t.level), 0) else (((withV t 3 ⟨t.level, 0, 0, 0⟩ 0).1.tell, t.level), 0)
theorem tk_one (a b c d e f g h i : Int) : (#[Value.int .u64 a, .int .i64 b, .int .i64 c, .int .i64 d, .int .u64 e, .int .i64 f, .int .i64 g, .int .i64 h, .int .i64 i].all (·.oneCell')) = true := by simp [Value.oneCell']
theorem rowTk : RowT 74 9 := ⟨⟨_, Try.underlying74, rfl⟩, by kernel_rfl⟩
/-- In the middle of Fire: behind Next; the step lies in the block N. -/
structure FiSt (w V : World) (k a p b : Nat) (c : Ca) (G : Nat → Prop) (N : Nat) (tc sc : Array Value) : Prop where
  ck : ∃ Gn, CkAt V k a p b c Gn ∧ ¬ Gn N ∧ ∀ q, Gn q → (G q ∧ q < w.heap.size) ∨ (w.heap.size + 3 ≤ q ∧ q < V.heap.size)
  t : Touch (fun q => q = b) w V
  b0 : Blk V w.heap.size 74 tc
  b2 : Blk V (w.heap.size + 2) 74 #[.int .u64 0, .int .i64 0, .int .i64 0, .int .i64 0, .int .u64 0, .int .i64 0, .int .i64 0, .int .i64 0, .int .i64 0]
  bn : Blk V N 48 sc
  lo : w.heap.size + 3 ≤ N
namespace PF
attribute [local irreducible] PF.wpPlan PF.wpT
theorem tfire_any (k a p b : Nat) (c : Ca) (G : Nat → Prop) (F : Nat → Prop) (A : Option Addr) (n : Nat) (t : TkV) (c2 : Co) (now : Int) (w : World) (h : CkAt w k a p b c G) (hl : SpR w F A c2.lv.length c2.lv) (hF : ∀ q, F q → q < w.heap.size ∧ q ≠ b) (hlen : c2.lv.length ≤ 1000000) (ht : 0 ≤ t.told) :
    Calls Try.prog 53 #[.agg #[.int .u64 t.id, .int .i64 t.contract, .int .i64 t.state, .int .i64 t.level, .int .u64 t.gen, .int .i64 t.from_, .int .i64 t.left, .int .i64 t.due, .int .i64 t.told], .pointer (some ⟨k, 0, none⟩), .agg #[.int .i64 c2.cal, .slice A c2.lv.length n, .int .i64 c2.rt, .int .i64 c2.bk], .int .i64 now] w (CkF k a p b c G (tfireV c t c2 now) w) := by
  obtain ⟨id, con, st, lev, gen, fr, le, du, to_⟩ := t
  simp only at ht ⊢
  have HL := Lib.hid hl
  have HO := Lib.hid (show tfireV c ⟨id, con, st, lev, gen, fr, le, du, to_⟩ c2 now = if st ≠ 1 then ((TkV.z, 0), 33) else if now < du then ((TkV.z, 0), 52) else if goodB c2 = false ∨ lev < 0 ∨ c2.lv.length ≤ lev then ((TkV.z, 0), 2)
    else if (nextV c c2 ⟨lev, fr, le, du⟩ now).1.2 = true then (((withV ⟨id, con, st, lev, gen, fr, le, du, to_⟩ 1 (nextV c c2 ⟨lev, fr, le, du⟩ now).1.1 0).1.tell, lev), 0) else (((withV ⟨id, con, st, lev, gen, fr, le, du, to_⟩ 3 ⟨lev, 0, 0, 0⟩ 0).1.tell, lev), 0) from rfl)
  by_cases h0 : st ≠ 1
  · have HV := Lib.hid (HO.out.trans (if_pos h0))
    have hb : (st != 1) = true := by simpa using h0
    generalize tfireV c ⟨id, con, st, lev, gen, fr, le, du, to_⟩ c2 now = v at *
    have HT0 := Lib.hid (show Touch (fun _ => False) w (((w.alloc (.cells #[.int .u64 id, .int .i64 con, .int .i64 st, .int .i64 lev, .int .u64 gen, .int .i64 fr, .int .i64 le, .int .i64 du, .int .i64 to_] 74)).alloc (.cells #[.int .i64 c2.cal, .slice A c2.lv.length n, .int .i64 c2.rt, .int .i64 c2.bk] 28)).alloc (.cells #[.int .u64 0, .int .i64 0, .int .i64 0, .int .i64 0, .int .u64 0, .int .i64 0, .int .i64 0, .int .i64 0, .int .i64 0] 74)) from (((Touch.refl (fun _ => False) w).alloc (.cells #[.int .u64 id, .int .i64 con, .int .i64 st, .int .i64 lev, .int .u64 gen, .int .i64 fr, .int .i64 le, .int .i64 du, .int .i64 to_] 74)).alloc (.cells #[.int .i64 c2.cal, .slice A c2.lv.length n, .int .i64 c2.rt, .int .i64 c2.bk] 28)).alloc (.cells #[.int .u64 0, .int .i64 0, .int .i64 0, .int .i64 0, .int .u64 0, .int .i64 0, .int .i64 0, .int .i64 0, .int .i64 0] 74))
    have HBX0_0 := Lib.hid (show Blk (((w.alloc (.cells #[.int .u64 id, .int .i64 con, .int .i64 st, .int .i64 lev, .int .u64 gen, .int .i64 fr, .int .i64 le, .int .i64 du, .int .i64 to_] 74)).alloc (.cells #[.int .i64 c2.cal, .slice A c2.lv.length n, .int .i64 c2.rt, .int .i64 c2.bk] 28)).alloc (.cells #[.int .u64 0, .int .i64 0, .int .i64 0, .int .i64 0, .int .u64 0, .int .i64 0, .int .i64 0, .int .i64 0, .int .i64 0] 74)) w.heap.size 74 #[.int .u64 id, .int .i64 con, .int .i64 st, .int .i64 lev, .int .u64 gen, .int .i64 fr, .int .i64 le, .int .i64 du, .int .i64 to_] by simpa using ((Blk.new w 74 #[.int .u64 id, .int .i64 con, .int .i64 st, .int .i64 lev, .int .u64 gen, .int .i64 fr, .int .i64 le, .int .i64 du, .int .i64 to_]).alloc (.cells #[.int .i64 c2.cal, .slice A c2.lv.length n, .int .i64 c2.rt, .int .i64 c2.bk] 28)).alloc (.cells #[.int .u64 0, .int .i64 0, .int .i64 0, .int .i64 0, .int .u64 0, .int .i64 0, .int .i64 0, .int .i64 0, .int .i64 0] 74))
    have HBX1_0 := Lib.hid (show Blk (((w.alloc (.cells #[.int .u64 id, .int .i64 con, .int .i64 st, .int .i64 lev, .int .u64 gen, .int .i64 fr, .int .i64 le, .int .i64 du, .int .i64 to_] 74)).alloc (.cells #[.int .i64 c2.cal, .slice A c2.lv.length n, .int .i64 c2.rt, .int .i64 c2.bk] 28)).alloc (.cells #[.int .u64 0, .int .i64 0, .int .i64 0, .int .i64 0, .int .u64 0, .int .i64 0, .int .i64 0, .int .i64 0, .int .i64 0] 74)) (w.heap.size + 1) 28 #[.int .i64 c2.cal, .slice A c2.lv.length n, .int .i64 c2.rt, .int .i64 c2.bk] by simpa using (Blk.new (w.alloc (.cells #[.int .u64 id, .int .i64 con, .int .i64 st, .int .i64 lev, .int .u64 gen, .int .i64 fr, .int .i64 le, .int .i64 du, .int .i64 to_] 74)) 28 #[.int .i64 c2.cal, .slice A c2.lv.length n, .int .i64 c2.rt, .int .i64 c2.bk]).alloc (.cells #[.int .u64 0, .int .i64 0, .int .i64 0, .int .i64 0, .int .u64 0, .int .i64 0, .int .i64 0, .int .i64 0, .int .i64 0] 74))
    have HBX2_0 := Lib.hid (show Blk (((w.alloc (.cells #[.int .u64 id, .int .i64 con, .int .i64 st, .int .i64 lev, .int .u64 gen, .int .i64 fr, .int .i64 le, .int .i64 du, .int .i64 to_] 74)).alloc (.cells #[.int .i64 c2.cal, .slice A c2.lv.length n, .int .i64 c2.rt, .int .i64 c2.bk] 28)).alloc (.cells #[.int .u64 0, .int .i64 0, .int .i64 0, .int .i64 0, .int .u64 0, .int .i64 0, .int .i64 0, .int .i64 0, .int .i64 0] 74)) (w.heap.size + 2) 74 #[.int .u64 0, .int .i64 0, .int .i64 0, .int .i64 0, .int .u64 0, .int .i64 0, .int .i64 0, .int .i64 0, .int .i64 0] by simpa using Blk.new ((w.alloc (.cells #[.int .u64 id, .int .i64 con, .int .i64 st, .int .i64 lev, .int .u64 gen, .int .i64 fr, .int .i64 le, .int .i64 du, .int .i64 to_] 74)).alloc (.cells #[.int .i64 c2.cal, .slice A c2.lv.length n, .int .i64 c2.rt, .int .i64 c2.bk] 28)) 74 #[.int .u64 0, .int .i64 0, .int .i64 0, .int .i64 0, .int .u64 0, .int .i64 0, .int .i64 0, .int .i64 0, .int .i64 0])
    have HK0 := Lib.hid (h.shrink.none HT0.out)
    have HH := Lib.hid h
    have hbl := h.bl
    clear HO h hl hF
    go_enter Try.func53, Try.ntmps53
    go_wp2_with fail
    refine bodyPost_ret (v := .tuple #[.agg #[.int .u64 0, .int .i64 0, .int .i64 0, .int .i64 0, .int .u64 0, .int .i64 0, .int .i64 0, .int .i64 0, .int .i64 0], .int .i64 0, .int .i64 33]) (by simp [results, Try.results53, go_sem]) rfl ?_
    have hf := CkAt.wrap0 HH.out (HT0.out.mono (S' := fun q => w.heap.size ≤ q) (fun _ _ e => e.elim))
    rw [HV.out]
    exact ⟨rfl, hf.1, hf.2⟩
  obtain rfl : st = 1 := by omega
  replace HO := Lib.hid (HO.out.trans (if_neg (by simp)))
  have HT0 := Lib.hid (show Touch (fun _ => False) w (((w.alloc (.cells #[.int .u64 id, .int .i64 con, .int .i64 1, .int .i64 lev, .int .u64 gen, .int .i64 fr, .int .i64 le, .int .i64 du, .int .i64 to_] 74)).alloc (.cells #[.int .i64 c2.cal, .slice A c2.lv.length n, .int .i64 c2.rt, .int .i64 c2.bk] 28)).alloc (.cells #[.int .u64 0, .int .i64 0, .int .i64 0, .int .i64 0, .int .u64 0, .int .i64 0, .int .i64 0, .int .i64 0, .int .i64 0] 74)) from (((Touch.refl (fun _ => False) w).alloc (.cells #[.int .u64 id, .int .i64 con, .int .i64 1, .int .i64 lev, .int .u64 gen, .int .i64 fr, .int .i64 le, .int .i64 du, .int .i64 to_] 74)).alloc (.cells #[.int .i64 c2.cal, .slice A c2.lv.length n, .int .i64 c2.rt, .int .i64 c2.bk] 28)).alloc (.cells #[.int .u64 0, .int .i64 0, .int .i64 0, .int .i64 0, .int .u64 0, .int .i64 0, .int .i64 0, .int .i64 0, .int .i64 0] 74))
  have HBX0_0 := Lib.hid (show Blk (((w.alloc (.cells #[.int .u64 id, .int .i64 con, .int .i64 1, .int .i64 lev, .int .u64 gen, .int .i64 fr, .int .i64 le, .int .i64 du, .int .i64 to_] 74)).alloc (.cells #[.int .i64 c2.cal, .slice A c2.lv.length n, .int .i64 c2.rt, .int .i64 c2.bk] 28)).alloc (.cells #[.int .u64 0, .int .i64 0, .int .i64 0, .int .i64 0, .int .u64 0, .int .i64 0, .int .i64 0, .int .i64 0, .int .i64 0] 74)) w.heap.size 74 #[.int .u64 id, .int .i64 con, .int .i64 1, .int .i64 lev, .int .u64 gen, .int .i64 fr, .int .i64 le, .int .i64 du, .int .i64 to_] by simpa using ((Blk.new w 74 #[.int .u64 id, .int .i64 con, .int .i64 1, .int .i64 lev, .int .u64 gen, .int .i64 fr, .int .i64 le, .int .i64 du, .int .i64 to_]).alloc (.cells #[.int .i64 c2.cal, .slice A c2.lv.length n, .int .i64 c2.rt, .int .i64 c2.bk] 28)).alloc (.cells #[.int .u64 0, .int .i64 0, .int .i64 0, .int .i64 0, .int .u64 0, .int .i64 0, .int .i64 0, .int .i64 0, .int .i64 0] 74))
  have HBX1_0 := Lib.hid (show Blk (((w.alloc (.cells #[.int .u64 id, .int .i64 con, .int .i64 1, .int .i64 lev, .int .u64 gen, .int .i64 fr, .int .i64 le, .int .i64 du, .int .i64 to_] 74)).alloc (.cells #[.int .i64 c2.cal, .slice A c2.lv.length n, .int .i64 c2.rt, .int .i64 c2.bk] 28)).alloc (.cells #[.int .u64 0, .int .i64 0, .int .i64 0, .int .i64 0, .int .u64 0, .int .i64 0, .int .i64 0, .int .i64 0, .int .i64 0] 74)) (w.heap.size + 1) 28 #[.int .i64 c2.cal, .slice A c2.lv.length n, .int .i64 c2.rt, .int .i64 c2.bk] by simpa using (Blk.new (w.alloc (.cells #[.int .u64 id, .int .i64 con, .int .i64 1, .int .i64 lev, .int .u64 gen, .int .i64 fr, .int .i64 le, .int .i64 du, .int .i64 to_] 74)) 28 #[.int .i64 c2.cal, .slice A c2.lv.length n, .int .i64 c2.rt, .int .i64 c2.bk]).alloc (.cells #[.int .u64 0, .int .i64 0, .int .i64 0, .int .i64 0, .int .u64 0, .int .i64 0, .int .i64 0, .int .i64 0, .int .i64 0] 74))
  have HBX2_0 := Lib.hid (show Blk (((w.alloc (.cells #[.int .u64 id, .int .i64 con, .int .i64 1, .int .i64 lev, .int .u64 gen, .int .i64 fr, .int .i64 le, .int .i64 du, .int .i64 to_] 74)).alloc (.cells #[.int .i64 c2.cal, .slice A c2.lv.length n, .int .i64 c2.rt, .int .i64 c2.bk] 28)).alloc (.cells #[.int .u64 0, .int .i64 0, .int .i64 0, .int .i64 0, .int .u64 0, .int .i64 0, .int .i64 0, .int .i64 0, .int .i64 0] 74)) (w.heap.size + 2) 74 #[.int .u64 0, .int .i64 0, .int .i64 0, .int .i64 0, .int .u64 0, .int .i64 0, .int .i64 0, .int .i64 0, .int .i64 0] by simpa using Blk.new ((w.alloc (.cells #[.int .u64 id, .int .i64 con, .int .i64 1, .int .i64 lev, .int .u64 gen, .int .i64 fr, .int .i64 le, .int .i64 du, .int .i64 to_] 74)).alloc (.cells #[.int .i64 c2.cal, .slice A c2.lv.length n, .int .i64 c2.rt, .int .i64 c2.bk] 28)) 74 #[.int .u64 0, .int .i64 0, .int .i64 0, .int .i64 0, .int .u64 0, .int .i64 0, .int .i64 0, .int .i64 0, .int .i64 0])
  have HK0 := Lib.hid (h.shrink.none HT0.out)
  have HH := Lib.hid h
  have hbl := h.bl
  by_cases h1 : now < du
  · have HV := Lib.hid (HO.out.trans (if_pos h1))
    generalize tfireV c ⟨id, con, 1, lev, gen, fr, le, du, to_⟩ c2 now = v at *
    clear HO h hl hF
    go_enter Try.func53, Try.ntmps53
    go_wp2_with fail
    refine bodyPost_ret (v := .tuple #[.agg #[.int .u64 0, .int .i64 0, .int .i64 0, .int .i64 0, .int .u64 0, .int .i64 0, .int .i64 0, .int .i64 0, .int .i64 0], .int .i64 0, .int .i64 52]) (by simp [results, Try.results53, go_sem]) rfl ?_
    have hf := CkAt.wrap0 HH.out (HT0.out.mono (S' := fun q => w.heap.size ≤ q) (fun _ _ e => e.elim))
    rw [HV.out]
    exact ⟨rfl, hf.1, hf.2⟩
  replace HO := Lib.hid (HO.out.trans (if_neg h1))
  have HC := Lib.hid (fun w1 hr => kcheck_any F A n c2 w1 hr)
  have HG := Lib.hid (show goodE c2 = if goodB c2 = true then 0 else 2 from rfl)
  cases hg : goodB c2
  · rw [hg] at HG
    have HE := Lib.hid (show goodE c2 = 2 by rw [HG.out]; rfl)
    have HV := Lib.hid (HO.out.trans (if_pos (.inl hg)))
    generalize goodE c2 = ge at *
    generalize tfireV c ⟨id, con, 1, lev, gen, fr, le, du, to_⟩ c2 now = v at *
    clear HO h hl hF hg HG
    go_enter Try.func53, Try.ntmps53
    go_wp2_with (first
      | (go_at_call 79; go_must (refine ((HC.out _ (by exact HL.out.touch HT0.out (fun _ _ e => e)))).mono ?_); rintro e w1 ⟨rfl, t1⟩; rw [HE.out]; have hz1 := t1.size; (try simp at hz1); have HT1 := Lib.hid ((HT0.out).trans t1 (fun _ _ e => e.elim)); have hb := t1.blk (HBX0_0.out) (fun e => e); have cX0_0 := hb.cell 0; have cX0_1 := hb.cell 1; have cX0_2 := hb.cell 2; have cX0_3 := hb.cell 3; have cX0_4 := hb.cell 4; have cX0_5 := hb.cell 5; have cX0_6 := hb.cell 6; have cX0_7 := hb.cell 7; have cX0_8 := hb.cell 8; simp at cX0_0 cX0_1 cX0_2 cX0_3 cX0_4 cX0_5 cX0_6 cX0_7 cX0_8; have HBX0_1 := Lib.hid hb; clear hb; have hb := t1.blk (HBX1_0.out) (fun e => e); have cX1_0 := hb.cell 0; have cX1_1 := hb.cell 1; have cX1_2 := hb.cell 2; have cX1_3 := hb.cell 3; simp at cX1_0 cX1_1 cX1_2 cX1_3; have HBX1_1 := Lib.hid hb; clear hb; have hb := t1.blk (HBX2_0.out) (fun e => e); have cX2_0 := hb.cell 0; have cX2_1 := hb.cell 1; have cX2_2 := hb.cell 2; have cX2_3 := hb.cell 3; have cX2_4 := hb.cell 4; have cX2_5 := hb.cell 5; have cX2_6 := hb.cell 6; have cX2_7 := hb.cell 7; have cX2_8 := hb.cell 8; simp at cX2_0 cX2_1 cX2_2 cX2_3 cX2_4 cX2_5 cX2_6 cX2_7 cX2_8; have HBX2_1 := Lib.hid hb; clear hb; have HK1 := Lib.hid (HK0.out.none t1); have z0 := HBX2_1.out.frozen 0; have z1 := HBX2_1.out.frozen 1; have z2 := HBX2_1.out.frozen 2; have z3 := HBX2_1.out.frozen 3; have z4 := HBX2_1.out.frozen 4; have z5 := HBX2_1.out.frozen 5; have z6 := HBX2_1.out.frozen 6; have z7 := HBX2_1.out.frozen 7; have z8 := HBX2_1.out.frozen 8; clear t1))
    have hs := (((((((((HBX2_1.out).set_ 0 (.int .u64 0)).set_ 1 (.int .i64 0)).set_ 2 (.int .i64 0)).set_ 3 (.int .i64 0)).set_ 4 (.int .u64 0)).set_ 5 (.int .i64 0)).set_ 6 (.int .i64 0)).set_ 7 (.int .i64 0)).set_ 8 (.int .i64 0)
    have e0 := hs.cell 0; have e1 := hs.cell 1; have e2 := hs.cell 2; have e3 := hs.cell 3; have e4 := hs.cell 4; have e5 := hs.cell 5; have e6 := hs.cell 6; have e7 := hs.cell 7; have e8 := hs.cell 8
    simp at e0 e1 e2 e3 e4 e5 e6 e7 e8
    refine bodyPost_ret (v := .tuple #[.agg #[.int .u64 0, .int .i64 0, .int .i64 0, .int .i64 0, .int .u64 0, .int .i64 0, .int .i64 0, .int .i64 0, .int .i64 0], .int .i64 0, .int .i64 2]) (by simp [results, Try.results53, go_sem, e0, e1, e2, e3, e4, e5, e6, e7, e8]) rfl ?_
    have tf := (((((((((Touch.refl (fun q => w.heap.size ≤ q) w1).set (b := w.heap.size + 2) (o := 0) (fun _ => by omega) (.int .u64 0)).set (b := w.heap.size + 2) (o := 1) (fun _ => by omega) (.int .i64 0)).set (b := w.heap.size + 2) (o := 2) (fun _ => by omega) (.int .i64 0)).set (b := w.heap.size + 2) (o := 3) (fun _ => by omega) (.int .i64 0)).set (b := w.heap.size + 2) (o := 4) (fun _ => by omega) (.int .u64 0)).set (b := w.heap.size + 2) (o := 5) (fun _ => by omega) (.int .i64 0)).set (b := w.heap.size + 2) (o := 6) (fun _ => by omega) (.int .i64 0)).set (b := w.heap.size + 2) (o := 7) (fun _ => by omega) (.int .i64 0)).set (b := w.heap.size + 2) (o := 8) (fun _ => by omega) (.int .i64 0)
    have hf := CkAt.wrap0 HH.out ((HT1.out.mono (S' := fun q => w.heap.size ≤ q) (fun _ _ e => e.elim)).trans tf (fun q hq e => e))
    rw [HV.out]
    exact ⟨rfl, hf.1, hf.2⟩
  have HE := Lib.hid (show goodE c2 = 0 by rw [HG.out, hg]; rfl)
  have hgl := good_hd hg
  by_cases h2 : lev < 0
  · have HV := Lib.hid (HO.out.trans (if_pos (.inr (.inl h2))))
    generalize goodE c2 = ge at *
    generalize tfireV c ⟨id, con, 1, lev, gen, fr, le, du, to_⟩ c2 now = v at *
    clear HO h hl hF hg HG
    go_enter Try.func53, Try.ntmps53
    go_wp2_with (first
      | (go_at_call 79; go_must (refine ((HC.out _ (by exact HL.out.touch HT0.out (fun _ _ e => e)))).mono ?_); rintro e w1 ⟨rfl, t1⟩; rw [HE.out]; have hz1 := t1.size; (try simp at hz1); have HT1 := Lib.hid ((HT0.out).trans t1 (fun _ _ e => e.elim)); have hb := t1.blk (HBX0_0.out) (fun e => e); have cX0_0 := hb.cell 0; have cX0_1 := hb.cell 1; have cX0_2 := hb.cell 2; have cX0_3 := hb.cell 3; have cX0_4 := hb.cell 4; have cX0_5 := hb.cell 5; have cX0_6 := hb.cell 6; have cX0_7 := hb.cell 7; have cX0_8 := hb.cell 8; simp at cX0_0 cX0_1 cX0_2 cX0_3 cX0_4 cX0_5 cX0_6 cX0_7 cX0_8; have HBX0_1 := Lib.hid hb; clear hb; have hb := t1.blk (HBX1_0.out) (fun e => e); have cX1_0 := hb.cell 0; have cX1_1 := hb.cell 1; have cX1_2 := hb.cell 2; have cX1_3 := hb.cell 3; simp at cX1_0 cX1_1 cX1_2 cX1_3; have HBX1_1 := Lib.hid hb; clear hb; have hb := t1.blk (HBX2_0.out) (fun e => e); have cX2_0 := hb.cell 0; have cX2_1 := hb.cell 1; have cX2_2 := hb.cell 2; have cX2_3 := hb.cell 3; have cX2_4 := hb.cell 4; have cX2_5 := hb.cell 5; have cX2_6 := hb.cell 6; have cX2_7 := hb.cell 7; have cX2_8 := hb.cell 8; simp at cX2_0 cX2_1 cX2_2 cX2_3 cX2_4 cX2_5 cX2_6 cX2_7 cX2_8; have HBX2_1 := Lib.hid hb; clear hb; have HK1 := Lib.hid (HK0.out.none t1); have z0 := HBX2_1.out.frozen 0; have z1 := HBX2_1.out.frozen 1; have z2 := HBX2_1.out.frozen 2; have z3 := HBX2_1.out.frozen 3; have z4 := HBX2_1.out.frozen 4; have z5 := HBX2_1.out.frozen 5; have z6 := HBX2_1.out.frozen 6; have z7 := HBX2_1.out.frozen 7; have z8 := HBX2_1.out.frozen 8; clear t1))
    have hs := (((((((((HBX2_1.out).set_ 0 (.int .u64 0)).set_ 1 (.int .i64 0)).set_ 2 (.int .i64 0)).set_ 3 (.int .i64 0)).set_ 4 (.int .u64 0)).set_ 5 (.int .i64 0)).set_ 6 (.int .i64 0)).set_ 7 (.int .i64 0)).set_ 8 (.int .i64 0)
    have e0 := hs.cell 0; have e1 := hs.cell 1; have e2 := hs.cell 2; have e3 := hs.cell 3; have e4 := hs.cell 4; have e5 := hs.cell 5; have e6 := hs.cell 6; have e7 := hs.cell 7; have e8 := hs.cell 8
    simp at e0 e1 e2 e3 e4 e5 e6 e7 e8
    refine bodyPost_ret (v := .tuple #[.agg #[.int .u64 0, .int .i64 0, .int .i64 0, .int .i64 0, .int .u64 0, .int .i64 0, .int .i64 0, .int .i64 0, .int .i64 0], .int .i64 0, .int .i64 2]) (by simp [results, Try.results53, go_sem, e0, e1, e2, e3, e4, e5, e6, e7, e8]) rfl ?_
    have tf := (((((((((Touch.refl (fun q => w.heap.size ≤ q) w1).set (b := w.heap.size + 2) (o := 0) (fun _ => by omega) (.int .u64 0)).set (b := w.heap.size + 2) (o := 1) (fun _ => by omega) (.int .i64 0)).set (b := w.heap.size + 2) (o := 2) (fun _ => by omega) (.int .i64 0)).set (b := w.heap.size + 2) (o := 3) (fun _ => by omega) (.int .i64 0)).set (b := w.heap.size + 2) (o := 4) (fun _ => by omega) (.int .u64 0)).set (b := w.heap.size + 2) (o := 5) (fun _ => by omega) (.int .i64 0)).set (b := w.heap.size + 2) (o := 6) (fun _ => by omega) (.int .i64 0)).set (b := w.heap.size + 2) (o := 7) (fun _ => by omega) (.int .i64 0)).set (b := w.heap.size + 2) (o := 8) (fun _ => by omega) (.int .i64 0)
    have hf := CkAt.wrap0 HH.out ((HT1.out.mono (S' := fun q => w.heap.size ≤ q) (fun _ _ e => e.elim)).trans tf (fun q hq e => e))
    rw [HV.out]
    exact ⟨rfl, hf.1, hf.2⟩
  by_cases h3 : (c2.lv.length : Int) ≤ lev
  · have HV := Lib.hid (HO.out.trans (if_pos (.inr (.inr h3))))
    generalize goodE c2 = ge at *
    generalize tfireV c ⟨id, con, 1, lev, gen, fr, le, du, to_⟩ c2 now = v at *
    clear HO h hl hF hg HG
    go_enter Try.func53, Try.ntmps53
    go_wp2_with (first
      | (go_at_call 79; go_must (refine ((HC.out _ (by exact HL.out.touch HT0.out (fun _ _ e => e)))).mono ?_); rintro e w1 ⟨rfl, t1⟩; rw [HE.out]; have hz1 := t1.size; (try simp at hz1); have HT1 := Lib.hid ((HT0.out).trans t1 (fun _ _ e => e.elim)); have hb := t1.blk (HBX0_0.out) (fun e => e); have cX0_0 := hb.cell 0; have cX0_1 := hb.cell 1; have cX0_2 := hb.cell 2; have cX0_3 := hb.cell 3; have cX0_4 := hb.cell 4; have cX0_5 := hb.cell 5; have cX0_6 := hb.cell 6; have cX0_7 := hb.cell 7; have cX0_8 := hb.cell 8; simp at cX0_0 cX0_1 cX0_2 cX0_3 cX0_4 cX0_5 cX0_6 cX0_7 cX0_8; have HBX0_1 := Lib.hid hb; clear hb; have hb := t1.blk (HBX1_0.out) (fun e => e); have cX1_0 := hb.cell 0; have cX1_1 := hb.cell 1; have cX1_2 := hb.cell 2; have cX1_3 := hb.cell 3; simp at cX1_0 cX1_1 cX1_2 cX1_3; have HBX1_1 := Lib.hid hb; clear hb; have hb := t1.blk (HBX2_0.out) (fun e => e); have cX2_0 := hb.cell 0; have cX2_1 := hb.cell 1; have cX2_2 := hb.cell 2; have cX2_3 := hb.cell 3; have cX2_4 := hb.cell 4; have cX2_5 := hb.cell 5; have cX2_6 := hb.cell 6; have cX2_7 := hb.cell 7; have cX2_8 := hb.cell 8; simp at cX2_0 cX2_1 cX2_2 cX2_3 cX2_4 cX2_5 cX2_6 cX2_7 cX2_8; have HBX2_1 := Lib.hid hb; clear hb; have HK1 := Lib.hid (HK0.out.none t1); have z0 := HBX2_1.out.frozen 0; have z1 := HBX2_1.out.frozen 1; have z2 := HBX2_1.out.frozen 2; have z3 := HBX2_1.out.frozen 3; have z4 := HBX2_1.out.frozen 4; have z5 := HBX2_1.out.frozen 5; have z6 := HBX2_1.out.frozen 6; have z7 := HBX2_1.out.frozen 7; have z8 := HBX2_1.out.frozen 8; clear t1))
    have hs := (((((((((HBX2_1.out).set_ 0 (.int .u64 0)).set_ 1 (.int .i64 0)).set_ 2 (.int .i64 0)).set_ 3 (.int .i64 0)).set_ 4 (.int .u64 0)).set_ 5 (.int .i64 0)).set_ 6 (.int .i64 0)).set_ 7 (.int .i64 0)).set_ 8 (.int .i64 0)
    have e0 := hs.cell 0; have e1 := hs.cell 1; have e2 := hs.cell 2; have e3 := hs.cell 3; have e4 := hs.cell 4; have e5 := hs.cell 5; have e6 := hs.cell 6; have e7 := hs.cell 7; have e8 := hs.cell 8
    simp at e0 e1 e2 e3 e4 e5 e6 e7 e8
    refine bodyPost_ret (v := .tuple #[.agg #[.int .u64 0, .int .i64 0, .int .i64 0, .int .i64 0, .int .u64 0, .int .i64 0, .int .i64 0, .int .i64 0, .int .i64 0], .int .i64 0, .int .i64 2]) (by simp [results, Try.results53, go_sem, e0, e1, e2, e3, e4, e5, e6, e7, e8]) rfl ?_
    have tf := (((((((((Touch.refl (fun q => w.heap.size ≤ q) w1).set (b := w.heap.size + 2) (o := 0) (fun _ => by omega) (.int .u64 0)).set (b := w.heap.size + 2) (o := 1) (fun _ => by omega) (.int .i64 0)).set (b := w.heap.size + 2) (o := 2) (fun _ => by omega) (.int .i64 0)).set (b := w.heap.size + 2) (o := 3) (fun _ => by omega) (.int .i64 0)).set (b := w.heap.size + 2) (o := 4) (fun _ => by omega) (.int .u64 0)).set (b := w.heap.size + 2) (o := 5) (fun _ => by omega) (.int .i64 0)).set (b := w.heap.size + 2) (o := 6) (fun _ => by omega) (.int .i64 0)).set (b := w.heap.size + 2) (o := 7) (fun _ => by omega) (.int .i64 0)).set (b := w.heap.size + 2) (o := 8) (fun _ => by omega) (.int .i64 0)
    have hf := CkAt.wrap0 HH.out ((HT1.out.mono (S' := fun q => w.heap.size ≤ q) (fun _ _ e => e.elim)).trans tf (fun q hq e => e))
    rw [HV.out]
    exact ⟨rfl, hf.1, hf.2⟩
  replace HO := Lib.hid (HO.out.trans (if_neg (by simp [hg]; omega)))
  have HS := Lib.hid (fun w1 => tstep_any ⟨id, con, 1, lev, gen, fr, le, du, to_⟩ w1)
  have HN := Lib.hid (fun w1 (hk : CkAt w1 k a p b c (fun q => G q ∧ q < w.heap.size)) (hl : SpR w1 F A c2.lv.length c2.lv) (hz : w.heap.size ≤ w1.heap.size) => knext_any k a p b c (fun q => G q ∧ q < w.heap.size) F A n c2 ⟨lev, fr, le, du⟩ now w1 hk hl (fun q hq => ⟨by have := (hF q hq).1; omega, (hF q hq).2⟩) hlen)
  simp only at HS HN
  generalize nextV c c2 ⟨lev, fr, le, du⟩ now = r at *
  generalize goodE c2 = ge at *
  generalize tfireV c ⟨id, con, 1, lev, gen, fr, le, du, to_⟩ c2 now = v at *
  have HFq := Lib.hid hF
  obtain ⟨⟨⟨s1, s2, s3, s4⟩, more⟩, er⟩ := r
  simp only at HN HO
  have HMT : ∃ mt, min to_ 2147483647 = mt ∧ -9223372036854775808 ≤ mt ∧ mt ≤ 2147483647 := ⟨_, rfl, by omega, by omega⟩
  obtain ⟨mt, hmt, hm1, hm2⟩ := HMT
  have hwm : IntKind.i64.wrap (mt + 1) = mt + 1 := IntWalk.i64_in _ (by omega)
  clear h hl hF hg HG
  go_enter Try.func53, Try.ntmps53
  go_wp2_with (first
    | (go_at_call 79; go_must (refine ((HC.out _ (by exact HL.out.touch HT0.out (fun _ _ e => e)))).mono ?_); rintro e w1 ⟨rfl, t1⟩; rw [HE.out]; have hz1 := t1.size; (try simp at hz1); have HT1 := Lib.hid ((HT0.out).trans t1 (fun _ _ e => e.elim)); have hb := t1.blk (HBX0_0.out) (fun e => e); have cX0_0 := hb.cell 0; have cX0_1 := hb.cell 1; have cX0_2 := hb.cell 2; have cX0_3 := hb.cell 3; have cX0_4 := hb.cell 4; have cX0_5 := hb.cell 5; have cX0_6 := hb.cell 6; have cX0_7 := hb.cell 7; have cX0_8 := hb.cell 8; simp at cX0_0 cX0_1 cX0_2 cX0_3 cX0_4 cX0_5 cX0_6 cX0_7 cX0_8; have HBX0_1 := Lib.hid hb; clear hb; have hb := t1.blk (HBX1_0.out) (fun e => e); have cX1_0 := hb.cell 0; have cX1_1 := hb.cell 1; have cX1_2 := hb.cell 2; have cX1_3 := hb.cell 3; simp at cX1_0 cX1_1 cX1_2 cX1_3; have HBX1_1 := Lib.hid hb; clear hb; have hb := t1.blk (HBX2_0.out) (fun e => e); have cX2_0 := hb.cell 0; have cX2_1 := hb.cell 1; have cX2_2 := hb.cell 2; have cX2_3 := hb.cell 3; have cX2_4 := hb.cell 4; have cX2_5 := hb.cell 5; have cX2_6 := hb.cell 6; have cX2_7 := hb.cell 7; have cX2_8 := hb.cell 8; simp at cX2_0 cX2_1 cX2_2 cX2_3 cX2_4 cX2_5 cX2_6 cX2_7 cX2_8; have HBX2_1 := Lib.hid hb; clear hb; have HK1 := Lib.hid (HK0.out.none t1); have z0 := HBX2_1.out.frozen 0; have z1 := HBX2_1.out.frozen 1; have z2 := HBX2_1.out.frozen 2; have z3 := HBX2_1.out.frozen 3; have z4 := HBX2_1.out.frozen 4; have z5 := HBX2_1.out.frozen 5; have z6 := HBX2_1.out.frozen 6; have z7 := HBX2_1.out.frozen 7; have z8 := HBX2_1.out.frozen 8; clear t1))
  have HDr := Lib.hid ((Touch.refl (fun _ => False) w1).drew)
  have HTd := Lib.hid (HT1.out.trans HDr.out (fun _ _ e => e))
  have HKd := Lib.hid (HK1.out.none HDr.out)
  have hbx := HDr.out.blk HBX0_1.out (fun e => e)
  have hbk := HDr.out.blk HBX1_1.out (fun e => e)
  have HBZd := Lib.hid (HDr.out.blk HBX2_1.out (fun e => e))
  have HBXd := Lib.hid hbx
  clear cX0_0 cX0_1 cX0_2 cX0_3 cX0_4 cX0_5 cX0_6 cX0_7 cX0_8 cX1_0 cX1_1 cX1_2 cX1_3 cX2_0 cX2_1 cX2_2 cX2_3 cX2_4 cX2_5 cX2_6 cX2_7 cX2_8 z0 z1 z2 z3 z4 z5 z6 z7 z8
  have x0 := hbx.cell 0; have x1 := hbx.cell 1; have x2 := hbx.cell 2; have x3 := hbx.cell 3; have x4 := hbx.cell 4; have x5 := hbx.cell 5; have x6 := hbx.cell 6; have x7 := hbx.cell 7; have x8 := hbx.cell 8; simp at x0 x1 x2 x3 x4 x5 x6 x7 x8
  have y0 := hbk.cell 0; have y1 := hbk.cell 1; have y2 := hbk.cell 2; have y3 := hbk.cell 3; simp at y0 y1 y2 y3
  have hlx := hbx.lt
  have hlk := hbk.lt
  have hzd : w.heap.size + 3 ≤ w1.drew.heap.size := by simp; omega
  clear hbx hbk
  refine wp_region_tree (.fork [(1, 0), (1, 1), (1, 2), (1, 4)] 3 10 (.fork [] 5 10 (.fin [(1, 6), (1, 7), (1, 8), (1, 9), (2, 10), (2, 11), (1, 12), (1, 13)]) (.fin [(2, 5), (1, 6), (1, 7), (1, 8), (1, 9), (2, 11), (1, 12), (1, 13)])) (.fin [(2, 3), (2, 5), (1, 6), (1, 7), (1, 8), (1, 9), (2, 11), (1, 12), (1, 13)])) (fun q => w.heap.size + 3 ≤ q ∨ q = b) (by kernel_rfl) (by kernel_rfl) (fun c a d v w h => by cases d <;> exact h) ?_
  refine treeFork ?_
  iterate 4
    apply plan_h
    · rfl
    · rfl
    · intro wh hT
      have hf0 := (hT.cell (p := ⟨w.heap.size, 0, none⟩) hlx (fun e => by simp only at e; omega)).trans x0
      have hf1 := (hT.cell (p := ⟨w.heap.size, 1, none⟩) hlx (fun e => by simp only at e; omega)).trans x1
      have hf2 := (hT.cell (p := ⟨w.heap.size, 2, none⟩) hlx (fun e => by simp only at e; omega)).trans x2
      have hf3 := (hT.cell (p := ⟨w.heap.size, 3, none⟩) hlx (fun e => by simp only at e; omega)).trans x3
      have hf4 := (hT.cell (p := ⟨w.heap.size, 4, none⟩) hlx (fun e => by simp only at e; omega)).trans x4
      have hf5 := (hT.cell (p := ⟨w.heap.size, 5, none⟩) hlx (fun e => by simp only at e; omega)).trans x5
      have hf6 := (hT.cell (p := ⟨w.heap.size, 6, none⟩) hlx (fun e => by simp only at e; omega)).trans x6
      have hf7 := (hT.cell (p := ⟨w.heap.size, 7, none⟩) hlx (fun e => by simp only at e; omega)).trans x7
      have hf8 := (hT.cell (p := ⟨w.heap.size, 8, none⟩) hlx (fun e => by simp only at e; omega)).trans x8
      have hf9 := (hT.cell (p := ⟨w.heap.size + 1, 0, none⟩) hlk (fun e => by simp only at e; omega)).trans y0
      have hf10 := (hT.cell (p := ⟨w.heap.size + 1, 1, none⟩) hlk (fun e => by simp only at e; omega)).trans y1
      have hf11 := (hT.cell (p := ⟨w.heap.size + 1, 2, none⟩) hlk (fun e => by simp only at e; omega)).trans y2
      have hf12 := (hT.cell (p := ⟨w.heap.size + 1, 3, none⟩) hlk (fun e => by simp only at e; omega)).trans y3
      go_simp
      try rfl
    go_frame
  clear x0 x1 x2 x3 x4 x5 x6 x7 x8 y0 y1 y2 y3
  apply tree_
  · rfl
  · rfl
  · rfl
  · rfl
  · intro Kc hKc
    go_simp
    refine (HS.out _).mono ?_
    rintro e w2 ⟨rfl, t2⟩
    refine hKc _ _ ⟨t2.mono (fun q hq e => e.elim), ?_⟩
    clear hKc Kc
    have hz2 : w1.heap.size ≤ w2.heap.size := by have := t2.size; simpa using this
    have HT2 := Lib.hid (HTd.out.trans t2 (fun _ _ e => e))
    have HK2 := Lib.hid (HKd.out.none t2)
    have HB0 := Lib.hid (t2.blk HBXd.out (fun e => e))
    have HB2 := Lib.hid (t2.blk HBZd.out (fun e => e))
    clear t2
    refine treeFork ?_
    apply tree_
    · rfl
    · rfl
    · rfl
    · rfl
    · intro Kc hKc
      go_simp
      refine (HN.out _ (by exact HK2.out) (by exact HL.out.touch HT2.out (fun _ _ e => e)) (by exact HT2.out.size)).mono ?_
      rintro e w3 ⟨rfl, ck, t3⟩
      refine hKc _ _ ⟨t3.mono (fun q hq e => .inr e), ?_⟩
      clear hKc Kc
      have hz3 : w2.heap.size ≤ w3.heap.size := t3.size
      have HCK := Lib.hid ck
      have HT3 := Lib.hid ((HT2.out.mono (S' := fun q => q = b) (fun _ _ e => e.elim)).trans t3 (fun _ _ e => e))
      have HB0' := Lib.hid (t3.blk HB0.out (by omega))
      have HB2' := Lib.hid (t3.blk HB2.out (by omega))
      clear ck t3
      refine treeFin ?_
      iterate 4
        apply plan_h
        · rfl
        · rfl
        · intro wh hT
          go_simp
          try rfl
        go_frame
      refine plan_a1 rfl (by rfl) (fun Kc hKc => ?_)
      go_simp
      refine hKc _ _ ⟨((Touch.refl (fun q => w.heap.size + 3 ≤ q ∨ q = b) w3).alloc (.cells #[.int .i64 0, .int .i64 0, .int .i64 0, .int .i64 0] 48)), ?_⟩
      clear hKc Kc
      refine plan_a1 rfl (by rfl) (fun Kc hKc => ?_)
      go_simp
      refine hKc _ _ ⟨Touch.swap (S := fun q => w.heap.size + 3 ≤ q ∨ q = b) (w := w3) (.inl (by omega)) _ _ _ _, ?_⟩
      clear hKc Kc
      iterate 2
        apply plan_h
        · rfl
        · rfl
        · intro wh hT
          go_simp
          try rfl
        go_frame
      refine plan_done ?_
      obtain ⟨V, hV⟩ : ∃ V, V = w3.alloc (.cells #[.int .i64 s1, .int .i64 s2, .int .i64 s3, .int .i64 s4] 48) := ⟨_, rfl⟩
      have HFI := Lib.hid (show FiSt w V k a p b c G w3.heap.size #[.int .u64 id, .int .i64 con, .int .i64 1, .int .i64 lev, .int .u64 gen, .int .i64 fr, .int .i64 le, .int .i64 du, .int .i64 to_] #[.int .i64 s1, .int .i64 s2, .int .i64 s3, .int .i64 s4] from hV ▸ by
        have ta := (Touch.refl (fun _ => False) w3).alloc (.cells #[.int .i64 s1, .int .i64 s2, .int .i64 s3, .int .i64 s4] 48)
        refine ⟨⟨_, HCK.out.none ta, fun e => ?_, fun q hq => ?_⟩, HT3.out.trans ta (fun _ _ e => e.elim), ta.blk HB0'.out (fun e => e), ta.blk HB2'.out (fun e => e), Blk.new _ _ _, by omega⟩
        · rcases e with e | e <;> omega
        · rcases hq with hq | hq
          · exact .inl hq
          · exact .inr (by simp; omega))
      rw [← hV]
      generalize w3.heap.size = N at *
      clear hV HB0' HB2' HT3 HCK
      cases more
      · have HV := Lib.hid (show v = ((⟨id, con, 3, lev, 0, 0, 0, 0, mt + 1⟩, lev), 0) by rw [HO.out, if_neg (by simp), ← hmt]; rfl)
        have HWi := Lib.hid (fun w1 => (with_any ⟨id, con, 1, lev, gen, fr, le, du, to_⟩ 3 ⟨lev, 0, 0, 0⟩ 0 w1 : Calls Try.prog 99 #[.agg #[.int .u64 id, .int .i64 con, .int .i64 1, .int .i64 lev, .int .u64 gen, .int .i64 fr, .int .i64 le, .int .i64 du, .int .i64 to_], .int .i64 3, .agg #[.int .i64 lev, .int .i64 0, .int .i64 0, .int .i64 0], .int .i64 0] w1 fun en w' => en = .returned (.tuple #[.agg #[.int .u64 id, .int .i64 con, .int .i64 3, .int .i64 lev, .int .u64 0, .int .i64 0, .int .i64 0, .int .i64 0, .int .i64 to_], .int .i64 0]) ∧ Touch (fun _ => False) w1 w'))
        clear HO
        obtain ⟨⟨Gn, ck, hGN, hG⟩, tV, b0, b2, bn, lo⟩ := HFI.out
        have HCK := Lib.hid ck
        have HGN := Lib.hid (And.intro hGN hG)
        have HTV := Lib.hid tV
        have hNl := bn.lt
        have x0 := b0.cell 0; have x1 := b0.cell 1; have x2 := b0.cell 2; have x3 := b0.cell 3; have x4 := b0.cell 4; have x5 := b0.cell 5; have x6 := b0.cell 6; have x7 := b0.cell 7; have x8 := b0.cell 8; simp at x0 x1 x2 x3 x4 x5 x6 x7 x8
        have fx0 := b0.frozen 0; have fx1 := b0.frozen 1; have fx2 := b0.frozen 2; have fx3 := b0.frozen 3; have fx4 := b0.frozen 4; have fx5 := b0.frozen 5; have fx6 := b0.frozen 6; have fx7 := b0.frozen 7; have fx8 := b0.frozen 8
        have nn0 := bn.cell 0; have nn1 := bn.cell 1; have nn2 := bn.cell 2; have nn3 := bn.cell 3; simp at nn0 nn1 nn2 nn3
        have fn0 := bn.frozen 0; have fn1 := bn.frozen 1; have fn2 := bn.frozen 2; have fn3 := bn.frozen 3
        have HB0 := Lib.hid b0
        have HB2 := Lib.hid b2
        have HBN := Lib.hid bn
        clear ck hGN hG tV b0 b2 bn
        have hn0 : ¬ w.heap.size = N := by omega
        have hn0' : ¬ N = w.heap.size := by omega
        go_wp2_with (first
          | (go_at_call 99; go_must (refine (HWi.out _).mono ?_); rintro e w4 ⟨rfl, t4⟩; have HB0' := Lib.hid (t4.blk (((((HB0.out).far (p := ⟨N, 0, none⟩) (by simp <;> omega) (.int .i64 lev)).far (p := ⟨N, 1, none⟩) (by simp <;> omega) (.int .i64 0)).far (p := ⟨N, 2, none⟩) (by simp <;> omega) (.int .i64 0)).far (p := ⟨N, 3, none⟩) (by simp <;> omega) (.int .i64 0)) (fun e => e)); have HB2' := Lib.hid (t4.blk (((((HB2.out).far (p := ⟨N, 0, none⟩) (by simp <;> omega) (.int .i64 lev)).far (p := ⟨N, 1, none⟩) (by simp <;> omega) (.int .i64 0)).far (p := ⟨N, 2, none⟩) (by simp <;> omega) (.int .i64 0)).far (p := ⟨N, 3, none⟩) (by simp <;> omega) (.int .i64 0)) (fun e => e)); have HT4 := Lib.hid t4; clear t4 x0 x1 x2 x3 x4 x5 x6 x7 x8 fx0 fx1 fx2 fx3 fx4 fx5 fx6 fx7 fx8 nn0 nn1 nn2 nn3 fn0 fn1 fn2 fn3)
          | (refine storeM rowTk _ _ rfl rfl (w.heap.size + 2) rfl #[.int .u64 id, .int .i64 con, .int .i64 3, .int .i64 lev, .int .u64 0, .int .i64 0, .int .i64 0, .int .i64 0, .int .i64 (mt + 1)] rfl _ _ (HB2w.out.far (p := ⟨w.heap.size, 8, none⟩) (by simp) (.int .i64 (mt + 1))) rfl rfl (tk_one ..) ?_; intro w6 hb6 t6; have HB6 := Lib.hid hb6; have HT6 := Lib.hid t6; clear hb6 t6)
          | (refine storeM rowTk _ _ rfl rfl w.heap.size rfl #[.int .u64 id, .int .i64 con, .int .i64 3, .int .i64 lev, .int .u64 0, .int .i64 0, .int .i64 0, .int .i64 0, .int .i64 to_] rfl _ _ HB0'.out rfl rfl (tk_one ..) ?_; intro w5 hb5 t5; have x8 := hb5.cell 8; have fx8 := hb5.frozen 8; simp at x8; have HB5 := Lib.hid hb5; have HB2w := Lib.hid (t5.blk HB2'.out (by omega)); have HT5 := Lib.hid t5; clear hb5 t5)
          | (refine loadC rowTk _ rfl rfl w.heap.size 0 rfl #[.int .u64 id, .int .i64 con, .int .i64 3, .int .i64 lev, .int .u64 0, .int .i64 0, .int .i64 0, .int .i64 0, .int .i64 (mt + 1)] rfl (by simpa using (HB5.out.set_ 8 (.int .i64 (mt + 1))).whole) ?_))
        have hs := HB6.out
        have e0 := hs.cell 0; have e1 := hs.cell 1; have e2 := hs.cell 2; have e3 := hs.cell 3; have e4 := hs.cell 4; have e5 := hs.cell 5; have e6 := hs.cell 6; have e7 := hs.cell 7; have e8 := hs.cell 8
        simp at e0 e1 e2 e3 e4 e5 e6 e7 e8
        refine bodyPost_ret (v := .tuple #[.agg #[.int .u64 id, .int .i64 con, .int .i64 3, .int .i64 lev, .int .u64 0, .int .i64 0, .int .i64 0, .int .i64 0, .int .i64 (mt + 1)], .int .i64 lev, .int .i64 0]) (by simp [results, Try.results53, go_sem, e0, e1, e2, e3, e4, e5, e6, e7, e8]) rfl ?_
        have tn : Touch (fun q => q = N) V (World.setCell (World.setCell (World.setCell (World.setCell V ⟨N, 0, none⟩ (.int .i64 lev)) ⟨N, 1, none⟩ (.int .i64 0)) ⟨N, 2, none⟩ (.int .i64 0)) ⟨N, 3, none⟩ (.int .i64 0)) := ((((Touch.refl (fun q => q = N) V).set (b := N) (o := 0) (fun _ => rfl) (.int .i64 lev)).set (b := N) (o := 1) (fun _ => rfl) (.int .i64 0)).set (b := N) (o := 2) (fun _ => rfl) (.int .i64 0)).set (b := N) (o := 3) (fun _ => rfl) (.int .i64 0)
        have tf := ((HT5.out.mono (S' := (fun q => w.heap.size ≤ q ∧ q < w.heap.size + 3)) (fun q hq e => by omega)).set (b := w.heap.size) (o := 8) (fun _ => ⟨by omega, by omega⟩) (.int .i64 (mt + 1))).trans HT6.out (fun q hq e => by omega)
        have hsz : V.heap.size ≤ (World.setCell (World.setCell (World.setCell (World.setCell V ⟨N, 0, none⟩ (.int .i64 lev)) ⟨N, 1, none⟩ (.int .i64 0)) ⟨N, 2, none⟩ (.int .i64 0)) ⟨N, 3, none⟩ (.int .i64 0)).heap.size := tn.size
        have hs4 := HT4.out.size
        have hf := CkAt.wrapG HH.out ((HCK.out.touch tn (fun e => by have := HH.out.bl; have := lo; omega) (fun q hq e => by subst e; exact HGN.out.1 hq)).none HT4.out) ((HTV.out.trans tn (fun q hq e => by omega)).trans HT4.out (fun _ _ e => e.elim)) (lo := w.heap.size + 3) (by omega) (fun q hq => by rcases HGN.out.2 q hq with hq | hq; exact .inl hq; exact .inr (by omega)) tf
        rw [HV.out]
        exact ⟨rfl, hf.1, hf.2⟩
      · have HV := Lib.hid (show v = ((⟨id, con, 1, s1, 0, s2, s3, s4, mt + 1⟩, lev), 0) by rw [HO.out, if_pos rfl, ← hmt]; rfl)
        have HWi := Lib.hid (fun w1 => (with_any ⟨id, con, 1, lev, gen, fr, le, du, to_⟩ 1 ⟨s1, s2, s3, s4⟩ 0 w1 : Calls Try.prog 99 #[.agg #[.int .u64 id, .int .i64 con, .int .i64 1, .int .i64 lev, .int .u64 gen, .int .i64 fr, .int .i64 le, .int .i64 du, .int .i64 to_], .int .i64 1, .agg #[.int .i64 s1, .int .i64 s2, .int .i64 s3, .int .i64 s4], .int .i64 0] w1 fun en w' => en = .returned (.tuple #[.agg #[.int .u64 id, .int .i64 con, .int .i64 1, .int .i64 s1, .int .u64 0, .int .i64 s2, .int .i64 s3, .int .i64 s4, .int .i64 to_], .int .i64 0]) ∧ Touch (fun _ => False) w1 w'))
        clear HO
        obtain ⟨⟨Gn, ck, hGN, hG⟩, tV, b0, b2, bn, lo⟩ := HFI.out
        have HCK := Lib.hid ck
        have HGN := Lib.hid (And.intro hGN hG)
        have HTV := Lib.hid tV
        have hNl := bn.lt
        have x0 := b0.cell 0; have x1 := b0.cell 1; have x2 := b0.cell 2; have x3 := b0.cell 3; have x4 := b0.cell 4; have x5 := b0.cell 5; have x6 := b0.cell 6; have x7 := b0.cell 7; have x8 := b0.cell 8; simp at x0 x1 x2 x3 x4 x5 x6 x7 x8
        have fx0 := b0.frozen 0; have fx1 := b0.frozen 1; have fx2 := b0.frozen 2; have fx3 := b0.frozen 3; have fx4 := b0.frozen 4; have fx5 := b0.frozen 5; have fx6 := b0.frozen 6; have fx7 := b0.frozen 7; have fx8 := b0.frozen 8
        have nn0 := bn.cell 0; have nn1 := bn.cell 1; have nn2 := bn.cell 2; have nn3 := bn.cell 3; simp at nn0 nn1 nn2 nn3
        have fn0 := bn.frozen 0; have fn1 := bn.frozen 1; have fn2 := bn.frozen 2; have fn3 := bn.frozen 3
        have HB0 := Lib.hid b0
        have HB2 := Lib.hid b2
        have HBN := Lib.hid bn
        clear ck hGN hG tV b0 b2 bn
        have hn0 : ¬ w.heap.size = N := by omega
        have hn0' : ¬ N = w.heap.size := by omega
        go_wp2_with (first
          | (go_at_call 99; go_must (refine (HWi.out _).mono ?_); rintro e w4 ⟨rfl, t4⟩; have HB0' := Lib.hid (t4.blk (HB0.out) (fun e => e)); have HB2' := Lib.hid (t4.blk (HB2.out) (fun e => e)); have HT4 := Lib.hid t4; clear t4 x0 x1 x2 x3 x4 x5 x6 x7 x8 fx0 fx1 fx2 fx3 fx4 fx5 fx6 fx7 fx8 nn0 nn1 nn2 nn3 fn0 fn1 fn2 fn3)
          | (refine storeM rowTk _ _ rfl rfl (w.heap.size + 2) rfl #[.int .u64 id, .int .i64 con, .int .i64 1, .int .i64 s1, .int .u64 0, .int .i64 s2, .int .i64 s3, .int .i64 s4, .int .i64 (mt + 1)] rfl _ _ (HB2w.out.far (p := ⟨w.heap.size, 8, none⟩) (by simp) (.int .i64 (mt + 1))) rfl rfl (tk_one ..) ?_; intro w6 hb6 t6; have HB6 := Lib.hid hb6; have HT6 := Lib.hid t6; clear hb6 t6)
          | (refine storeM rowTk _ _ rfl rfl w.heap.size rfl #[.int .u64 id, .int .i64 con, .int .i64 1, .int .i64 s1, .int .u64 0, .int .i64 s2, .int .i64 s3, .int .i64 s4, .int .i64 to_] rfl _ _ HB0'.out rfl rfl (tk_one ..) ?_; intro w5 hb5 t5; have x8 := hb5.cell 8; have fx8 := hb5.frozen 8; simp at x8; have HB5 := Lib.hid hb5; have HB2w := Lib.hid (t5.blk HB2'.out (by omega)); have HT5 := Lib.hid t5; clear hb5 t5)
          | (refine loadC rowTk _ rfl rfl w.heap.size 0 rfl #[.int .u64 id, .int .i64 con, .int .i64 1, .int .i64 s1, .int .u64 0, .int .i64 s2, .int .i64 s3, .int .i64 s4, .int .i64 (mt + 1)] rfl (by simpa using (HB5.out.set_ 8 (.int .i64 (mt + 1))).whole) ?_))
        have hs := HB6.out
        have e0 := hs.cell 0; have e1 := hs.cell 1; have e2 := hs.cell 2; have e3 := hs.cell 3; have e4 := hs.cell 4; have e5 := hs.cell 5; have e6 := hs.cell 6; have e7 := hs.cell 7; have e8 := hs.cell 8
        simp at e0 e1 e2 e3 e4 e5 e6 e7 e8
        refine bodyPost_ret (v := .tuple #[.agg #[.int .u64 id, .int .i64 con, .int .i64 1, .int .i64 s1, .int .u64 0, .int .i64 s2, .int .i64 s3, .int .i64 s4, .int .i64 (mt + 1)], .int .i64 lev, .int .i64 0]) (by simp [results, Try.results53, go_sem, e0, e1, e2, e3, e4, e5, e6, e7, e8]) rfl ?_
        have tn : Touch (fun q => q = N) V V := Touch.refl (fun q => q = N) V
        have tf := ((HT5.out.mono (S' := (fun q => w.heap.size ≤ q ∧ q < w.heap.size + 3)) (fun q hq e => by omega)).set (b := w.heap.size) (o := 8) (fun _ => ⟨by omega, by omega⟩) (.int .i64 (mt + 1))).trans HT6.out (fun q hq e => by omega)
        have hsz : V.heap.size ≤ V.heap.size := tn.size
        have hs4 := HT4.out.size
        have hf := CkAt.wrapG HH.out ((HCK.out.touch tn (fun e => by have := HH.out.bl; have := lo; omega) (fun q hq e => by subst e; exact HGN.out.1 hq)).none HT4.out) ((HTV.out.trans tn (fun q hq e => by omega)).trans HT4.out (fun _ _ e => e.elim)) (lo := w.heap.size + 3) (by omega) (fun q hq => by rcases HGN.out.2 q hq with hq | hq; exact .inl hq; exact .inr (by omega)) tf
        rw [HV.out]
        exact ⟨rfl, hf.1, hf.2⟩
    · intro Kc hKc
      go_simp
      refine hKc _ _ ⟨((Touch.refl (fun q => w.heap.size + 3 ≤ q ∨ q = b) w2).alloc (.cells #[.int .i64 0, .int .i64 0, .int .i64 0, .int .i64 0] 48)), ?_⟩
      clear hKc Kc
      have ta : Touch (fun _ => False) w2 (w2.alloc (.cells #[.int .i64 0, .int .i64 0, .int .i64 0, .int .i64 0] 48)) := (Touch.refl _ w2).alloc _
      have HT2a := Lib.hid (HT2.out.trans ta (fun _ _ e => e))
      have HK2a := Lib.hid (HK2.out.none ta)
      have HB0a := Lib.hid (ta.blk HB0.out (fun e => e))
      have HB2a := Lib.hid (ta.blk HB2.out (fun e => e))
      have HBNa := Lib.hid (Blk.new w2 48 #[.int .i64 0, .int .i64 0, .int .i64 0, .int .i64 0])
      clear ta
      refine treeFin ?_
      refine plan_a1 rfl (by rfl) (fun Kc hKc => ?_)
      go_simp
      refine (HN.out _ (by exact HK2a.out) (by exact HL.out.touch HT2a.out (fun _ _ e => e)) (by exact HT2a.out.size)).mono ?_
      rintro e w3 ⟨rfl, ck, t3⟩
      refine hKc _ _ ⟨t3.mono (fun q hq e => .inr e), ?_⟩
      clear hKc Kc
      have hz3 : w2.heap.size + 1 ≤ w3.heap.size := by have := t3.size; simpa using this
      have HCK := Lib.hid ck
      have HT3 := Lib.hid ((HT2a.out.mono (S' := fun q => q = b) (fun _ _ e => e.elim)).trans t3 (fun _ _ e => e))
      have HB0' := Lib.hid (t3.blk HB0a.out (by omega))
      have HB2' := Lib.hid (t3.blk HB2a.out (by omega))
      have hbn := t3.blk HBNa.out (by omega)
      have HBN' := Lib.hid hbn
      have nn0 := hbn.cell 0; have nn1 := hbn.cell 1; have nn2 := hbn.cell 2; have nn3 := hbn.cell 3; simp at nn0 nn1 nn2 nn3
      have fn0 := hbn.frozen 0; have fn1 := hbn.frozen 1; have fn2 := hbn.frozen 2; have fn3 := hbn.frozen 3
      clear ck t3 hbn
      iterate 4
        apply plan_h
        · rfl
        · rfl
        · intro wh hT
          go_simp
          try rfl
        go_frame
      refine plan_a1 rfl (by rfl) (fun Kc hKc => ?_)
      go_simp
      refine hKc _ _ ⟨(((((Touch.refl (fun q => w.heap.size + 3 ≤ q ∨ q = b) w3).set (b := w2.heap.size) (o := 0) (fun _ => .inl (by omega)) (.int .i64 s1)).set (b := w2.heap.size) (o := 1) (fun _ => .inl (by omega)) (.int .i64 s2)).set (b := w2.heap.size) (o := 2) (fun _ => .inl (by omega)) (.int .i64 s3)).set (b := w2.heap.size) (o := 3) (fun _ => .inl (by omega)) (.int .i64 s4) : Touch (fun q => w.heap.size + 3 ≤ q ∨ q = b) w3 (World.setCell (World.setCell (World.setCell (World.setCell w3 ⟨w2.heap.size, 0, none⟩ (.int .i64 s1)) ⟨w2.heap.size, 1, none⟩ (.int .i64 s2)) ⟨w2.heap.size, 2, none⟩ (.int .i64 s3)) ⟨w2.heap.size, 3, none⟩ (.int .i64 s4))), ?_⟩
      clear hKc Kc
      iterate 2
        apply plan_h
        · rfl
        · rfl
        · intro wh hT
          go_simp
          try rfl
        go_frame
      refine plan_done ?_
      obtain ⟨V, hV⟩ : ∃ V, V = (World.setCell (World.setCell (World.setCell (World.setCell w3 ⟨w2.heap.size, 0, none⟩ (.int .i64 s1)) ⟨w2.heap.size, 1, none⟩ (.int .i64 s2)) ⟨w2.heap.size, 2, none⟩ (.int .i64 s3)) ⟨w2.heap.size, 3, none⟩ (.int .i64 s4)) := ⟨_, rfl⟩
      have HFI := Lib.hid (show FiSt w V k a p b c G w2.heap.size #[.int .u64 id, .int .i64 con, .int .i64 1, .int .i64 lev, .int .u64 gen, .int .i64 fr, .int .i64 le, .int .i64 du, .int .i64 to_] #[.int .i64 s1, .int .i64 s2, .int .i64 s3, .int .i64 s4] from hV ▸ by
        have ta := ((((Touch.refl (fun q => q = w2.heap.size) w3).set (b := w2.heap.size) (o := 0) (fun _ => rfl) (.int .i64 s1)).set (b := w2.heap.size) (o := 1) (fun _ => rfl) (.int .i64 s2)).set (b := w2.heap.size) (o := 2) (fun _ => rfl) (.int .i64 s3)).set (b := w2.heap.size) (o := 3) (fun _ => rfl) (.int .i64 s4)
        refine ⟨⟨_, HCK.out.touch ta (by omega) (fun q hq e => ?_), fun e => ?_, fun q hq => ?_⟩, HT3.out.trans ta (fun q hq e => by omega), ta.blk HB0'.out (by omega), ta.blk HB2'.out (by omega), ((((HBN'.out).set_ 0 (.int .i64 s1)).set_ 1 (.int .i64 s2)).set_ 2 (.int .i64 s3)).set_ 3 (.int .i64 s4), by omega⟩
        · subst e; rcases hq with hq | hq
          · omega
          · simp at hq; omega
        · rcases e with e | e
          · omega
          · simp at e; omega
        · rcases hq with hq | hq
          · exact .inl hq
          · exact .inr (by simp at hq ⊢; omega))
      rw [← hV]
      have hNx : w.heap.size + 3 ≤ w2.heap.size := by omega
      generalize w2.heap.size = N at *
      clear hV HB0' HB2' HT3 HCK nn0 nn1 nn2 nn3 fn0 fn1 fn2 fn3 HBN' HBNa
      cases more
      · have HV := Lib.hid (show v = ((⟨id, con, 3, lev, 0, 0, 0, 0, mt + 1⟩, lev), 0) by rw [HO.out, if_neg (by simp), ← hmt]; rfl)
        have HWi := Lib.hid (fun w1 => (with_any ⟨id, con, 1, lev, gen, fr, le, du, to_⟩ 3 ⟨lev, 0, 0, 0⟩ 0 w1 : Calls Try.prog 99 #[.agg #[.int .u64 id, .int .i64 con, .int .i64 1, .int .i64 lev, .int .u64 gen, .int .i64 fr, .int .i64 le, .int .i64 du, .int .i64 to_], .int .i64 3, .agg #[.int .i64 lev, .int .i64 0, .int .i64 0, .int .i64 0], .int .i64 0] w1 fun en w' => en = .returned (.tuple #[.agg #[.int .u64 id, .int .i64 con, .int .i64 3, .int .i64 lev, .int .u64 0, .int .i64 0, .int .i64 0, .int .i64 0, .int .i64 to_], .int .i64 0]) ∧ Touch (fun _ => False) w1 w'))
        clear HO
        obtain ⟨⟨Gn, ck, hGN, hG⟩, tV, b0, b2, bn, lo⟩ := HFI.out
        have HCK := Lib.hid ck
        have HGN := Lib.hid (And.intro hGN hG)
        have HTV := Lib.hid tV
        have hNl := bn.lt
        have x0 := b0.cell 0; have x1 := b0.cell 1; have x2 := b0.cell 2; have x3 := b0.cell 3; have x4 := b0.cell 4; have x5 := b0.cell 5; have x6 := b0.cell 6; have x7 := b0.cell 7; have x8 := b0.cell 8; simp at x0 x1 x2 x3 x4 x5 x6 x7 x8
        have fx0 := b0.frozen 0; have fx1 := b0.frozen 1; have fx2 := b0.frozen 2; have fx3 := b0.frozen 3; have fx4 := b0.frozen 4; have fx5 := b0.frozen 5; have fx6 := b0.frozen 6; have fx7 := b0.frozen 7; have fx8 := b0.frozen 8
        have nn0 := bn.cell 0; have nn1 := bn.cell 1; have nn2 := bn.cell 2; have nn3 := bn.cell 3; simp at nn0 nn1 nn2 nn3
        have fn0 := bn.frozen 0; have fn1 := bn.frozen 1; have fn2 := bn.frozen 2; have fn3 := bn.frozen 3
        have HB0 := Lib.hid b0
        have HB2 := Lib.hid b2
        have HBN := Lib.hid bn
        clear ck hGN hG tV b0 b2 bn
        have hn0 : ¬ w.heap.size = N := by omega
        have hn0' : ¬ N = w.heap.size := by omega
        go_wp2_with (first
          | (go_at_call 99; go_must (refine (HWi.out _).mono ?_); rintro e w4 ⟨rfl, t4⟩; have HB0' := Lib.hid (t4.blk (((((HB0.out).far (p := ⟨N, 0, none⟩) (by simp <;> omega) (.int .i64 lev)).far (p := ⟨N, 1, none⟩) (by simp <;> omega) (.int .i64 0)).far (p := ⟨N, 2, none⟩) (by simp <;> omega) (.int .i64 0)).far (p := ⟨N, 3, none⟩) (by simp <;> omega) (.int .i64 0)) (fun e => e)); have HB2' := Lib.hid (t4.blk (((((HB2.out).far (p := ⟨N, 0, none⟩) (by simp <;> omega) (.int .i64 lev)).far (p := ⟨N, 1, none⟩) (by simp <;> omega) (.int .i64 0)).far (p := ⟨N, 2, none⟩) (by simp <;> omega) (.int .i64 0)).far (p := ⟨N, 3, none⟩) (by simp <;> omega) (.int .i64 0)) (fun e => e)); have HT4 := Lib.hid t4; clear t4 x0 x1 x2 x3 x4 x5 x6 x7 x8 fx0 fx1 fx2 fx3 fx4 fx5 fx6 fx7 fx8 nn0 nn1 nn2 nn3 fn0 fn1 fn2 fn3)
          | (refine storeM rowTk _ _ rfl rfl (w.heap.size + 2) rfl #[.int .u64 id, .int .i64 con, .int .i64 3, .int .i64 lev, .int .u64 0, .int .i64 0, .int .i64 0, .int .i64 0, .int .i64 (mt + 1)] rfl _ _ (HB2w.out.far (p := ⟨w.heap.size, 8, none⟩) (by simp) (.int .i64 (mt + 1))) rfl rfl (tk_one ..) ?_; intro w6 hb6 t6; have HB6 := Lib.hid hb6; have HT6 := Lib.hid t6; clear hb6 t6)
          | (refine storeM rowTk _ _ rfl rfl w.heap.size rfl #[.int .u64 id, .int .i64 con, .int .i64 3, .int .i64 lev, .int .u64 0, .int .i64 0, .int .i64 0, .int .i64 0, .int .i64 to_] rfl _ _ HB0'.out rfl rfl (tk_one ..) ?_; intro w5 hb5 t5; have x8 := hb5.cell 8; have fx8 := hb5.frozen 8; simp at x8; have HB5 := Lib.hid hb5; have HB2w := Lib.hid (t5.blk HB2'.out (by omega)); have HT5 := Lib.hid t5; clear hb5 t5)
          | (refine loadC rowTk _ rfl rfl w.heap.size 0 rfl #[.int .u64 id, .int .i64 con, .int .i64 3, .int .i64 lev, .int .u64 0, .int .i64 0, .int .i64 0, .int .i64 0, .int .i64 (mt + 1)] rfl (by simpa using (HB5.out.set_ 8 (.int .i64 (mt + 1))).whole) ?_))
        have hs := HB6.out
        have e0 := hs.cell 0; have e1 := hs.cell 1; have e2 := hs.cell 2; have e3 := hs.cell 3; have e4 := hs.cell 4; have e5 := hs.cell 5; have e6 := hs.cell 6; have e7 := hs.cell 7; have e8 := hs.cell 8
        simp at e0 e1 e2 e3 e4 e5 e6 e7 e8
        refine bodyPost_ret (v := .tuple #[.agg #[.int .u64 id, .int .i64 con, .int .i64 3, .int .i64 lev, .int .u64 0, .int .i64 0, .int .i64 0, .int .i64 0, .int .i64 (mt + 1)], .int .i64 lev, .int .i64 0]) (by simp [results, Try.results53, go_sem, e0, e1, e2, e3, e4, e5, e6, e7, e8]) rfl ?_
        have tn : Touch (fun q => q = N) V (World.setCell (World.setCell (World.setCell (World.setCell V ⟨N, 0, none⟩ (.int .i64 lev)) ⟨N, 1, none⟩ (.int .i64 0)) ⟨N, 2, none⟩ (.int .i64 0)) ⟨N, 3, none⟩ (.int .i64 0)) := ((((Touch.refl (fun q => q = N) V).set (b := N) (o := 0) (fun _ => rfl) (.int .i64 lev)).set (b := N) (o := 1) (fun _ => rfl) (.int .i64 0)).set (b := N) (o := 2) (fun _ => rfl) (.int .i64 0)).set (b := N) (o := 3) (fun _ => rfl) (.int .i64 0)
        have tf := ((HT5.out.mono (S' := (fun q => w.heap.size ≤ q ∧ q < w.heap.size + 3)) (fun q hq e => by omega)).set (b := w.heap.size) (o := 8) (fun _ => ⟨by omega, by omega⟩) (.int .i64 (mt + 1))).trans HT6.out (fun q hq e => by omega)
        have hsz : V.heap.size ≤ (World.setCell (World.setCell (World.setCell (World.setCell V ⟨N, 0, none⟩ (.int .i64 lev)) ⟨N, 1, none⟩ (.int .i64 0)) ⟨N, 2, none⟩ (.int .i64 0)) ⟨N, 3, none⟩ (.int .i64 0)).heap.size := tn.size
        have hs4 := HT4.out.size
        have hf := CkAt.wrapG HH.out ((HCK.out.touch tn (fun e => by have := HH.out.bl; have := lo; omega) (fun q hq e => by subst e; exact HGN.out.1 hq)).none HT4.out) ((HTV.out.trans tn (fun q hq e => by omega)).trans HT4.out (fun _ _ e => e.elim)) (lo := w.heap.size + 3) (by omega) (fun q hq => by rcases HGN.out.2 q hq with hq | hq; exact .inl hq; exact .inr (by omega)) tf
        rw [HV.out]
        exact ⟨rfl, hf.1, hf.2⟩
      · have HV := Lib.hid (show v = ((⟨id, con, 1, s1, 0, s2, s3, s4, mt + 1⟩, lev), 0) by rw [HO.out, if_pos rfl, ← hmt]; rfl)
        have HWi := Lib.hid (fun w1 => (with_any ⟨id, con, 1, lev, gen, fr, le, du, to_⟩ 1 ⟨s1, s2, s3, s4⟩ 0 w1 : Calls Try.prog 99 #[.agg #[.int .u64 id, .int .i64 con, .int .i64 1, .int .i64 lev, .int .u64 gen, .int .i64 fr, .int .i64 le, .int .i64 du, .int .i64 to_], .int .i64 1, .agg #[.int .i64 s1, .int .i64 s2, .int .i64 s3, .int .i64 s4], .int .i64 0] w1 fun en w' => en = .returned (.tuple #[.agg #[.int .u64 id, .int .i64 con, .int .i64 1, .int .i64 s1, .int .u64 0, .int .i64 s2, .int .i64 s3, .int .i64 s4, .int .i64 to_], .int .i64 0]) ∧ Touch (fun _ => False) w1 w'))
        clear HO
        obtain ⟨⟨Gn, ck, hGN, hG⟩, tV, b0, b2, bn, lo⟩ := HFI.out
        have HCK := Lib.hid ck
        have HGN := Lib.hid (And.intro hGN hG)
        have HTV := Lib.hid tV
        have hNl := bn.lt
        have x0 := b0.cell 0; have x1 := b0.cell 1; have x2 := b0.cell 2; have x3 := b0.cell 3; have x4 := b0.cell 4; have x5 := b0.cell 5; have x6 := b0.cell 6; have x7 := b0.cell 7; have x8 := b0.cell 8; simp at x0 x1 x2 x3 x4 x5 x6 x7 x8
        have fx0 := b0.frozen 0; have fx1 := b0.frozen 1; have fx2 := b0.frozen 2; have fx3 := b0.frozen 3; have fx4 := b0.frozen 4; have fx5 := b0.frozen 5; have fx6 := b0.frozen 6; have fx7 := b0.frozen 7; have fx8 := b0.frozen 8
        have nn0 := bn.cell 0; have nn1 := bn.cell 1; have nn2 := bn.cell 2; have nn3 := bn.cell 3; simp at nn0 nn1 nn2 nn3
        have fn0 := bn.frozen 0; have fn1 := bn.frozen 1; have fn2 := bn.frozen 2; have fn3 := bn.frozen 3
        have HB0 := Lib.hid b0
        have HB2 := Lib.hid b2
        have HBN := Lib.hid bn
        clear ck hGN hG tV b0 b2 bn
        have hn0 : ¬ w.heap.size = N := by omega
        have hn0' : ¬ N = w.heap.size := by omega
        go_wp2_with (first
          | (go_at_call 99; go_must (refine (HWi.out _).mono ?_); rintro e w4 ⟨rfl, t4⟩; have HB0' := Lib.hid (t4.blk (HB0.out) (fun e => e)); have HB2' := Lib.hid (t4.blk (HB2.out) (fun e => e)); have HT4 := Lib.hid t4; clear t4 x0 x1 x2 x3 x4 x5 x6 x7 x8 fx0 fx1 fx2 fx3 fx4 fx5 fx6 fx7 fx8 nn0 nn1 nn2 nn3 fn0 fn1 fn2 fn3)
          | (refine storeM rowTk _ _ rfl rfl (w.heap.size + 2) rfl #[.int .u64 id, .int .i64 con, .int .i64 1, .int .i64 s1, .int .u64 0, .int .i64 s2, .int .i64 s3, .int .i64 s4, .int .i64 (mt + 1)] rfl _ _ (HB2w.out.far (p := ⟨w.heap.size, 8, none⟩) (by simp) (.int .i64 (mt + 1))) rfl rfl (tk_one ..) ?_; intro w6 hb6 t6; have HB6 := Lib.hid hb6; have HT6 := Lib.hid t6; clear hb6 t6)
          | (refine storeM rowTk _ _ rfl rfl w.heap.size rfl #[.int .u64 id, .int .i64 con, .int .i64 1, .int .i64 s1, .int .u64 0, .int .i64 s2, .int .i64 s3, .int .i64 s4, .int .i64 to_] rfl _ _ HB0'.out rfl rfl (tk_one ..) ?_; intro w5 hb5 t5; have x8 := hb5.cell 8; have fx8 := hb5.frozen 8; simp at x8; have HB5 := Lib.hid hb5; have HB2w := Lib.hid (t5.blk HB2'.out (by omega)); have HT5 := Lib.hid t5; clear hb5 t5)
          | (refine loadC rowTk _ rfl rfl w.heap.size 0 rfl #[.int .u64 id, .int .i64 con, .int .i64 1, .int .i64 s1, .int .u64 0, .int .i64 s2, .int .i64 s3, .int .i64 s4, .int .i64 (mt + 1)] rfl (by simpa using (HB5.out.set_ 8 (.int .i64 (mt + 1))).whole) ?_))
        have hs := HB6.out
        have e0 := hs.cell 0; have e1 := hs.cell 1; have e2 := hs.cell 2; have e3 := hs.cell 3; have e4 := hs.cell 4; have e5 := hs.cell 5; have e6 := hs.cell 6; have e7 := hs.cell 7; have e8 := hs.cell 8
        simp at e0 e1 e2 e3 e4 e5 e6 e7 e8
        refine bodyPost_ret (v := .tuple #[.agg #[.int .u64 id, .int .i64 con, .int .i64 1, .int .i64 s1, .int .u64 0, .int .i64 s2, .int .i64 s3, .int .i64 s4, .int .i64 (mt + 1)], .int .i64 lev, .int .i64 0]) (by simp [results, Try.results53, go_sem, e0, e1, e2, e3, e4, e5, e6, e7, e8]) rfl ?_
        have tn : Touch (fun q => q = N) V V := Touch.refl (fun q => q = N) V
        have tf := ((HT5.out.mono (S' := (fun q => w.heap.size ≤ q ∧ q < w.heap.size + 3)) (fun q hq e => by omega)).set (b := w.heap.size) (o := 8) (fun _ => ⟨by omega, by omega⟩) (.int .i64 (mt + 1))).trans HT6.out (fun q hq e => by omega)
        have hsz : V.heap.size ≤ V.heap.size := tn.size
        have hs4 := HT4.out.size
        have hf := CkAt.wrapG HH.out ((HCK.out.touch tn (fun e => by have := HH.out.bl; have := lo; omega) (fun q hq e => by subst e; exact HGN.out.1 hq)).none HT4.out) ((HTV.out.trans tn (fun q hq e => by omega)).trans HT4.out (fun _ _ e => e.elim)) (lo := w.heap.size + 3) (by omega) (fun q hq => by rcases HGN.out.2 q hq with hq | hq; exact .inl hq; exact .inr (by omega)) tf
        rw [HV.out]
        exact ⟨rfl, hf.1, hf.2⟩
  · intro Kc hKc
    go_simp
    refine hKc _ _ ⟨((Touch.refl (fun q => w.heap.size + 3 ≤ q ∨ q = b) w1.drew).alloc (.cells #[.int .i64 0, .int .i64 0, .int .i64 0, .int .i64 0] 48)), ?_⟩
    clear hKc Kc
    have ta : Touch (fun _ => False) w1.drew (w1.drew.alloc (.cells #[.int .i64 0, .int .i64 0, .int .i64 0, .int .i64 0] 48)) := (Touch.refl _ w1.drew).alloc _
    have HTa := Lib.hid (HTd.out.trans ta (fun _ _ e => e))
    have HKa := Lib.hid (HKd.out.none ta)
    have HB0a := Lib.hid (ta.blk HBXd.out (fun e => e))
    have HB2a := Lib.hid (ta.blk HBZd.out (fun e => e))
    have HBNa := Lib.hid (show Blk (w1.drew.alloc (.cells #[.int .i64 0, .int .i64 0, .int .i64 0, .int .i64 0] 48)) w1.heap.size 48 #[.int .i64 0, .int .i64 0, .int .i64 0, .int .i64 0] from Blk.new w1.drew 48 #[.int .i64 0, .int .i64 0, .int .i64 0, .int .i64 0])
    clear ta
    refine treeFin ?_
    refine plan_a1 rfl (by rfl) (fun Kc hKc => ?_)
    go_simp
    refine (HS.out _).mono ?_
    rintro e w2 ⟨rfl, t2⟩
    refine hKc _ _ ⟨t2.mono (fun q hq e => e.elim), ?_⟩
    clear hKc Kc
    have hz2 : w1.heap.size + 1 ≤ w2.heap.size := by have := t2.size; simpa using this
    have HT2 := Lib.hid (HTa.out.trans t2 (fun _ _ e => e))
    have HK2 := Lib.hid (HKa.out.none t2)
    have HB0 := Lib.hid (t2.blk HB0a.out (fun e => e))
    have HB2 := Lib.hid (t2.blk HB2a.out (fun e => e))
    have HBNb := Lib.hid (t2.blk HBNa.out (fun e => e))
    clear t2
    refine plan_a1 rfl (by rfl) (fun Kc hKc => ?_)
    go_simp
    refine (HN.out _ (by exact HK2.out) (by exact HL.out.touch HT2.out (fun _ _ e => e)) (by exact HT2.out.size)).mono ?_
    rintro e w3 ⟨rfl, ck, t3⟩
    refine hKc _ _ ⟨t3.mono (fun q hq e => .inr e), ?_⟩
    clear hKc Kc
    have hz3 : w2.heap.size ≤ w3.heap.size := t3.size
    have HCK := Lib.hid ck
    have HT3 := Lib.hid ((HT2.out.mono (S' := fun q => q = b) (fun _ _ e => e.elim)).trans t3 (fun _ _ e => e))
    have HB0' := Lib.hid (t3.blk HB0.out (by omega))
    have HB2' := Lib.hid (t3.blk HB2.out (by omega))
    have hbn := t3.blk HBNb.out (by omega)
    have HBN' := Lib.hid hbn
    have nn0 := hbn.cell 0; have nn1 := hbn.cell 1; have nn2 := hbn.cell 2; have nn3 := hbn.cell 3; simp at nn0 nn1 nn2 nn3
    have fn0 := hbn.frozen 0; have fn1 := hbn.frozen 1; have fn2 := hbn.frozen 2; have fn3 := hbn.frozen 3
    clear ck t3 hbn
    iterate 4
      apply plan_h
      · rfl
      · rfl
      · intro wh hT
        go_simp
        try rfl
      go_frame
    refine plan_a1 rfl (by rfl) (fun Kc hKc => ?_)
    go_simp
    refine hKc _ _ ⟨(((((Touch.refl (fun q => w.heap.size + 3 ≤ q ∨ q = b) w3).set (b := w1.heap.size) (o := 0) (fun _ => .inl (by omega)) (.int .i64 s1)).set (b := w1.heap.size) (o := 1) (fun _ => .inl (by omega)) (.int .i64 s2)).set (b := w1.heap.size) (o := 2) (fun _ => .inl (by omega)) (.int .i64 s3)).set (b := w1.heap.size) (o := 3) (fun _ => .inl (by omega)) (.int .i64 s4) : Touch (fun q => w.heap.size + 3 ≤ q ∨ q = b) w3 (World.setCell (World.setCell (World.setCell (World.setCell w3 ⟨w1.heap.size, 0, none⟩ (.int .i64 s1)) ⟨w1.heap.size, 1, none⟩ (.int .i64 s2)) ⟨w1.heap.size, 2, none⟩ (.int .i64 s3)) ⟨w1.heap.size, 3, none⟩ (.int .i64 s4))), ?_⟩
    clear hKc Kc
    iterate 2
      apply plan_h
      · rfl
      · rfl
      · intro wh hT
        go_simp
        try rfl
      go_frame
    refine plan_done ?_
    obtain ⟨V, hV⟩ : ∃ V, V = (World.setCell (World.setCell (World.setCell (World.setCell w3 ⟨w1.heap.size, 0, none⟩ (.int .i64 s1)) ⟨w1.heap.size, 1, none⟩ (.int .i64 s2)) ⟨w1.heap.size, 2, none⟩ (.int .i64 s3)) ⟨w1.heap.size, 3, none⟩ (.int .i64 s4)) := ⟨_, rfl⟩
    have HFI := Lib.hid (show FiSt w V k a p b c G w1.heap.size #[.int .u64 id, .int .i64 con, .int .i64 1, .int .i64 lev, .int .u64 gen, .int .i64 fr, .int .i64 le, .int .i64 du, .int .i64 to_] #[.int .i64 s1, .int .i64 s2, .int .i64 s3, .int .i64 s4] from hV ▸ by
      have ta := ((((Touch.refl (fun q => q = w1.heap.size) w3).set (b := w1.heap.size) (o := 0) (fun _ => rfl) (.int .i64 s1)).set (b := w1.heap.size) (o := 1) (fun _ => rfl) (.int .i64 s2)).set (b := w1.heap.size) (o := 2) (fun _ => rfl) (.int .i64 s3)).set (b := w1.heap.size) (o := 3) (fun _ => rfl) (.int .i64 s4)
      refine ⟨⟨_, HCK.out.touch ta (by omega) (fun q hq e => ?_), fun e => ?_, fun q hq => ?_⟩, HT3.out.trans ta (fun q hq e => by omega), ta.blk HB0'.out (by omega), ta.blk HB2'.out (by omega), ((((HBN'.out).set_ 0 (.int .i64 s1)).set_ 1 (.int .i64 s2)).set_ 2 (.int .i64 s3)).set_ 3 (.int .i64 s4), by omega⟩
      · subst e; rcases hq with hq | hq <;> omega
      · rcases e with e | e <;> omega
      · rcases hq with hq | hq
        · exact .inl hq
        · exact .inr (by simp; omega))
    rw [← hV]
    have hNx : w.heap.size + 3 ≤ w1.heap.size := by omega
    generalize w1.heap.size = N at *
    clear hV HB0' HB2' HT3 HCK nn0 nn1 nn2 nn3 fn0 fn1 fn2 fn3 HBN' HBNa HBNb
    cases more
    · have HV := Lib.hid (show v = ((⟨id, con, 3, lev, 0, 0, 0, 0, mt + 1⟩, lev), 0) by rw [HO.out, if_neg (by simp), ← hmt]; rfl)
      have HWi := Lib.hid (fun w1 => (with_any ⟨id, con, 1, lev, gen, fr, le, du, to_⟩ 3 ⟨lev, 0, 0, 0⟩ 0 w1 : Calls Try.prog 99 #[.agg #[.int .u64 id, .int .i64 con, .int .i64 1, .int .i64 lev, .int .u64 gen, .int .i64 fr, .int .i64 le, .int .i64 du, .int .i64 to_], .int .i64 3, .agg #[.int .i64 lev, .int .i64 0, .int .i64 0, .int .i64 0], .int .i64 0] w1 fun en w' => en = .returned (.tuple #[.agg #[.int .u64 id, .int .i64 con, .int .i64 3, .int .i64 lev, .int .u64 0, .int .i64 0, .int .i64 0, .int .i64 0, .int .i64 to_], .int .i64 0]) ∧ Touch (fun _ => False) w1 w'))
      clear HO
      obtain ⟨⟨Gn, ck, hGN, hG⟩, tV, b0, b2, bn, lo⟩ := HFI.out
      have HCK := Lib.hid ck
      have HGN := Lib.hid (And.intro hGN hG)
      have HTV := Lib.hid tV
      have hNl := bn.lt
      have x0 := b0.cell 0; have x1 := b0.cell 1; have x2 := b0.cell 2; have x3 := b0.cell 3; have x4 := b0.cell 4; have x5 := b0.cell 5; have x6 := b0.cell 6; have x7 := b0.cell 7; have x8 := b0.cell 8; simp at x0 x1 x2 x3 x4 x5 x6 x7 x8
      have fx0 := b0.frozen 0; have fx1 := b0.frozen 1; have fx2 := b0.frozen 2; have fx3 := b0.frozen 3; have fx4 := b0.frozen 4; have fx5 := b0.frozen 5; have fx6 := b0.frozen 6; have fx7 := b0.frozen 7; have fx8 := b0.frozen 8
      have nn0 := bn.cell 0; have nn1 := bn.cell 1; have nn2 := bn.cell 2; have nn3 := bn.cell 3; simp at nn0 nn1 nn2 nn3
      have fn0 := bn.frozen 0; have fn1 := bn.frozen 1; have fn2 := bn.frozen 2; have fn3 := bn.frozen 3
      have HB0 := Lib.hid b0
      have HB2 := Lib.hid b2
      have HBN := Lib.hid bn
      clear ck hGN hG tV b0 b2 bn
      have hn0 : ¬ w.heap.size = N := by omega
      have hn0' : ¬ N = w.heap.size := by omega
      go_wp2_with (first
        | (go_at_call 99; go_must (refine (HWi.out _).mono ?_); rintro e w4 ⟨rfl, t4⟩; have HB0' := Lib.hid (t4.blk (((((HB0.out).far (p := ⟨N, 0, none⟩) (by simp <;> omega) (.int .i64 lev)).far (p := ⟨N, 1, none⟩) (by simp <;> omega) (.int .i64 0)).far (p := ⟨N, 2, none⟩) (by simp <;> omega) (.int .i64 0)).far (p := ⟨N, 3, none⟩) (by simp <;> omega) (.int .i64 0)) (fun e => e)); have HB2' := Lib.hid (t4.blk (((((HB2.out).far (p := ⟨N, 0, none⟩) (by simp <;> omega) (.int .i64 lev)).far (p := ⟨N, 1, none⟩) (by simp <;> omega) (.int .i64 0)).far (p := ⟨N, 2, none⟩) (by simp <;> omega) (.int .i64 0)).far (p := ⟨N, 3, none⟩) (by simp <;> omega) (.int .i64 0)) (fun e => e)); have HT4 := Lib.hid t4; clear t4 x0 x1 x2 x3 x4 x5 x6 x7 x8 fx0 fx1 fx2 fx3 fx4 fx5 fx6 fx7 fx8 nn0 nn1 nn2 nn3 fn0 fn1 fn2 fn3)
        | (refine storeM rowTk _ _ rfl rfl (w.heap.size + 2) rfl #[.int .u64 id, .int .i64 con, .int .i64 3, .int .i64 lev, .int .u64 0, .int .i64 0, .int .i64 0, .int .i64 0, .int .i64 (mt + 1)] rfl _ _ (HB2w.out.far (p := ⟨w.heap.size, 8, none⟩) (by simp) (.int .i64 (mt + 1))) rfl rfl (tk_one ..) ?_; intro w6 hb6 t6; have HB6 := Lib.hid hb6; have HT6 := Lib.hid t6; clear hb6 t6)
        | (refine storeM rowTk _ _ rfl rfl w.heap.size rfl #[.int .u64 id, .int .i64 con, .int .i64 3, .int .i64 lev, .int .u64 0, .int .i64 0, .int .i64 0, .int .i64 0, .int .i64 to_] rfl _ _ HB0'.out rfl rfl (tk_one ..) ?_; intro w5 hb5 t5; have x8 := hb5.cell 8; have fx8 := hb5.frozen 8; simp at x8; have HB5 := Lib.hid hb5; have HB2w := Lib.hid (t5.blk HB2'.out (by omega)); have HT5 := Lib.hid t5; clear hb5 t5)
        | (refine loadC rowTk _ rfl rfl w.heap.size 0 rfl #[.int .u64 id, .int .i64 con, .int .i64 3, .int .i64 lev, .int .u64 0, .int .i64 0, .int .i64 0, .int .i64 0, .int .i64 (mt + 1)] rfl (by simpa using (HB5.out.set_ 8 (.int .i64 (mt + 1))).whole) ?_))
      have hs := HB6.out
      have e0 := hs.cell 0; have e1 := hs.cell 1; have e2 := hs.cell 2; have e3 := hs.cell 3; have e4 := hs.cell 4; have e5 := hs.cell 5; have e6 := hs.cell 6; have e7 := hs.cell 7; have e8 := hs.cell 8
      simp at e0 e1 e2 e3 e4 e5 e6 e7 e8
      refine bodyPost_ret (v := .tuple #[.agg #[.int .u64 id, .int .i64 con, .int .i64 3, .int .i64 lev, .int .u64 0, .int .i64 0, .int .i64 0, .int .i64 0, .int .i64 (mt + 1)], .int .i64 lev, .int .i64 0]) (by simp [results, Try.results53, go_sem, e0, e1, e2, e3, e4, e5, e6, e7, e8]) rfl ?_
      have tn : Touch (fun q => q = N) V (World.setCell (World.setCell (World.setCell (World.setCell V ⟨N, 0, none⟩ (.int .i64 lev)) ⟨N, 1, none⟩ (.int .i64 0)) ⟨N, 2, none⟩ (.int .i64 0)) ⟨N, 3, none⟩ (.int .i64 0)) := ((((Touch.refl (fun q => q = N) V).set (b := N) (o := 0) (fun _ => rfl) (.int .i64 lev)).set (b := N) (o := 1) (fun _ => rfl) (.int .i64 0)).set (b := N) (o := 2) (fun _ => rfl) (.int .i64 0)).set (b := N) (o := 3) (fun _ => rfl) (.int .i64 0)
      have tf := ((HT5.out.mono (S' := (fun q => w.heap.size ≤ q ∧ q < w.heap.size + 3)) (fun q hq e => by omega)).set (b := w.heap.size) (o := 8) (fun _ => ⟨by omega, by omega⟩) (.int .i64 (mt + 1))).trans HT6.out (fun q hq e => by omega)
      have hsz : V.heap.size ≤ (World.setCell (World.setCell (World.setCell (World.setCell V ⟨N, 0, none⟩ (.int .i64 lev)) ⟨N, 1, none⟩ (.int .i64 0)) ⟨N, 2, none⟩ (.int .i64 0)) ⟨N, 3, none⟩ (.int .i64 0)).heap.size := tn.size
      have hs4 := HT4.out.size
      have hf := CkAt.wrapG HH.out ((HCK.out.touch tn (fun e => by have := HH.out.bl; have := lo; omega) (fun q hq e => by subst e; exact HGN.out.1 hq)).none HT4.out) ((HTV.out.trans tn (fun q hq e => by omega)).trans HT4.out (fun _ _ e => e.elim)) (lo := w.heap.size + 3) (by omega) (fun q hq => by rcases HGN.out.2 q hq with hq | hq; exact .inl hq; exact .inr (by omega)) tf
      rw [HV.out]
      exact ⟨rfl, hf.1, hf.2⟩
    · have HV := Lib.hid (show v = ((⟨id, con, 1, s1, 0, s2, s3, s4, mt + 1⟩, lev), 0) by rw [HO.out, if_pos rfl, ← hmt]; rfl)
      have HWi := Lib.hid (fun w1 => (with_any ⟨id, con, 1, lev, gen, fr, le, du, to_⟩ 1 ⟨s1, s2, s3, s4⟩ 0 w1 : Calls Try.prog 99 #[.agg #[.int .u64 id, .int .i64 con, .int .i64 1, .int .i64 lev, .int .u64 gen, .int .i64 fr, .int .i64 le, .int .i64 du, .int .i64 to_], .int .i64 1, .agg #[.int .i64 s1, .int .i64 s2, .int .i64 s3, .int .i64 s4], .int .i64 0] w1 fun en w' => en = .returned (.tuple #[.agg #[.int .u64 id, .int .i64 con, .int .i64 1, .int .i64 s1, .int .u64 0, .int .i64 s2, .int .i64 s3, .int .i64 s4, .int .i64 to_], .int .i64 0]) ∧ Touch (fun _ => False) w1 w'))
      clear HO
      obtain ⟨⟨Gn, ck, hGN, hG⟩, tV, b0, b2, bn, lo⟩ := HFI.out
      have HCK := Lib.hid ck
      have HGN := Lib.hid (And.intro hGN hG)
      have HTV := Lib.hid tV
      have hNl := bn.lt
      have x0 := b0.cell 0; have x1 := b0.cell 1; have x2 := b0.cell 2; have x3 := b0.cell 3; have x4 := b0.cell 4; have x5 := b0.cell 5; have x6 := b0.cell 6; have x7 := b0.cell 7; have x8 := b0.cell 8; simp at x0 x1 x2 x3 x4 x5 x6 x7 x8
      have fx0 := b0.frozen 0; have fx1 := b0.frozen 1; have fx2 := b0.frozen 2; have fx3 := b0.frozen 3; have fx4 := b0.frozen 4; have fx5 := b0.frozen 5; have fx6 := b0.frozen 6; have fx7 := b0.frozen 7; have fx8 := b0.frozen 8
      have nn0 := bn.cell 0; have nn1 := bn.cell 1; have nn2 := bn.cell 2; have nn3 := bn.cell 3; simp at nn0 nn1 nn2 nn3
      have fn0 := bn.frozen 0; have fn1 := bn.frozen 1; have fn2 := bn.frozen 2; have fn3 := bn.frozen 3
      have HB0 := Lib.hid b0
      have HB2 := Lib.hid b2
      have HBN := Lib.hid bn
      clear ck hGN hG tV b0 b2 bn
      have hn0 : ¬ w.heap.size = N := by omega
      have hn0' : ¬ N = w.heap.size := by omega
      go_wp2_with (first
        | (go_at_call 99; go_must (refine (HWi.out _).mono ?_); rintro e w4 ⟨rfl, t4⟩; have HB0' := Lib.hid (t4.blk (HB0.out) (fun e => e)); have HB2' := Lib.hid (t4.blk (HB2.out) (fun e => e)); have HT4 := Lib.hid t4; clear t4 x0 x1 x2 x3 x4 x5 x6 x7 x8 fx0 fx1 fx2 fx3 fx4 fx5 fx6 fx7 fx8 nn0 nn1 nn2 nn3 fn0 fn1 fn2 fn3)
        | (refine storeM rowTk _ _ rfl rfl (w.heap.size + 2) rfl #[.int .u64 id, .int .i64 con, .int .i64 1, .int .i64 s1, .int .u64 0, .int .i64 s2, .int .i64 s3, .int .i64 s4, .int .i64 (mt + 1)] rfl _ _ (HB2w.out.far (p := ⟨w.heap.size, 8, none⟩) (by simp) (.int .i64 (mt + 1))) rfl rfl (tk_one ..) ?_; intro w6 hb6 t6; have HB6 := Lib.hid hb6; have HT6 := Lib.hid t6; clear hb6 t6)
        | (refine storeM rowTk _ _ rfl rfl w.heap.size rfl #[.int .u64 id, .int .i64 con, .int .i64 1, .int .i64 s1, .int .u64 0, .int .i64 s2, .int .i64 s3, .int .i64 s4, .int .i64 to_] rfl _ _ HB0'.out rfl rfl (tk_one ..) ?_; intro w5 hb5 t5; have x8 := hb5.cell 8; have fx8 := hb5.frozen 8; simp at x8; have HB5 := Lib.hid hb5; have HB2w := Lib.hid (t5.blk HB2'.out (by omega)); have HT5 := Lib.hid t5; clear hb5 t5)
        | (refine loadC rowTk _ rfl rfl w.heap.size 0 rfl #[.int .u64 id, .int .i64 con, .int .i64 1, .int .i64 s1, .int .u64 0, .int .i64 s2, .int .i64 s3, .int .i64 s4, .int .i64 (mt + 1)] rfl (by simpa using (HB5.out.set_ 8 (.int .i64 (mt + 1))).whole) ?_))
      have hs := HB6.out
      have e0 := hs.cell 0; have e1 := hs.cell 1; have e2 := hs.cell 2; have e3 := hs.cell 3; have e4 := hs.cell 4; have e5 := hs.cell 5; have e6 := hs.cell 6; have e7 := hs.cell 7; have e8 := hs.cell 8
      simp at e0 e1 e2 e3 e4 e5 e6 e7 e8
      refine bodyPost_ret (v := .tuple #[.agg #[.int .u64 id, .int .i64 con, .int .i64 1, .int .i64 s1, .int .u64 0, .int .i64 s2, .int .i64 s3, .int .i64 s4, .int .i64 (mt + 1)], .int .i64 lev, .int .i64 0]) (by simp [results, Try.results53, go_sem, e0, e1, e2, e3, e4, e5, e6, e7, e8]) rfl ?_
      have tn : Touch (fun q => q = N) V V := Touch.refl (fun q => q = N) V
      have tf := ((HT5.out.mono (S' := (fun q => w.heap.size ≤ q ∧ q < w.heap.size + 3)) (fun q hq e => by omega)).set (b := w.heap.size) (o := 8) (fun _ => ⟨by omega, by omega⟩) (.int .i64 (mt + 1))).trans HT6.out (fun q hq e => by omega)
      have hsz : V.heap.size ≤ V.heap.size := tn.size
      have hs4 := HT4.out.size
      have hf := CkAt.wrapG HH.out ((HCK.out.touch tn (fun e => by have := HH.out.bl; have := lo; omega) (fun q hq e => by subst e; exact HGN.out.1 hq)).none HT4.out) ((HTV.out.trans tn (fun q hq e => by omega)).trans HT4.out (fun _ _ e => e.elim)) (lo := w.heap.size + 3) (by omega) (fun q hq => by rcases HGN.out.2 q hq with hq | hq; exact .inl hq; exact .inr (by omega)) tf
      rw [HV.out]
      exact ⟨rfl, hf.1, hf.2⟩
end PF
end Go.Proofs.Ytcblbjhhlnmkjaa
