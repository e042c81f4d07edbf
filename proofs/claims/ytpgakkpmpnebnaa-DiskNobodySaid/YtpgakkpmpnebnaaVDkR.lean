/- The reference's disk: without, with. -/
import Derived.Test.YtpgakkpmpnebnaaVDkQ
namespace Go.Proofs.Ytpgakkpmpnebnaa
open Go.RowKit Go.Maps
set_option maxHeartbeats 4000000
set_option maxRecDepth 100000
set_option linter.unusedVariables false
attribute [local irreducible] wpPlan

theorem infoFi : (Try.prog.info? 82).map (fun i => (i.zero, i.size, i.bytes)) = some (some (.agg #[.string ByteArray.empty, .string ByteArray.empty, .int .i64 0]), 3, 40) := by kernel_rfl
theorem outF_take {fs : List Fi} {i : Nat} {f : Fi} (hf : fs[i]? = some f) (nm : List UInt8) : outF (fs.take (i + 1)) nm = outF (fs.take i) nm ++ (if (f.nm == nm) = true then [] else [f]) := by
  rw [List.take_add_one, hf]
  unfold outF
  rw [List.filter_append]
  congr 1
  cases h : f.nm == nm <;> simp [h]
theorem appFi {w : World} {l : Value} {r : Option Nat} {xs : List Fi} (ho : Own w 82 3 l r xs.length (xs.flatMap fiC)) (f : Fi) {w' : World} {v : Value} {r' : Option Nat} (h : Own w' 82 3 v r' (xs.length + 1) (xs.flatMap fiC ++ fiC f)) : Own w' 82 3 v r' (xs ++ [f]).length ((xs ++ [f]).flatMap fiC) := by
  simpa using h
theorem Own.rf {w : World} {v : Value} {r : Option Nat} {xs : List Fi} (h : Own w 82 3 v r xs.length (xs.flatMap fiC)) : ∃ A c, v = .slice A xs.length c ∧ RfF w (fun q => r = some q) A xs := Own.rdZ' h
theorem fin5 {w : World} {g : Nat} {T : TypeId} {u0 u1 u2 u3 u4 : Value} (h : Blk w g T #[u0, u1, u2, u3, u4]) (v0 v1 v2 v3 v4 : Value) : (((((w.setCell ⟨g, 0, none⟩ v0).setCell ⟨g, 1, none⟩ v1).setCell ⟨g, 2, none⟩ v2).setCell ⟨g, 3, none⟩ v3).setCell ⟨g, 4, none⟩ v4).rangeAt g 0 (#[v0, v1, v2, v3, v4] : Array Value).toList := by
  have := (((((h.set_ 0 v0).set_ 1 v1).set_ 2 v2).set_ 3 v3).set_ 4 v4).whole
  simpa using this
theorem tch5 {w : World} (g : Nat) (v0 v1 v2 v3 v4 : Value) : Touch (fun q => q = g) w (((((w.setCell ⟨g, 0, none⟩ v0).setCell ⟨g, 1, none⟩ v1).setCell ⟨g, 2, none⟩ v2).setCell ⟨g, 3, none⟩ v3).setCell ⟨g, 4, none⟩ v4) :=
  (((((Touch.refl (fun q => q = g) w).set (b := g) (o := 0) (fun _ => rfl) v0).set (b := g) (o := 1) (fun _ => rfl) v1).set (b := g) (o := 2) (fun _ => rfl) v2).set (b := g) (o := 3) (fun _ => rfl) v3).set (b := g) (o := 4) (fun _ => rfl) v4
/-- What with and without tell. -/
def RxP (D : Dk) (w : World) (e : Ending) (w' : World) : Prop :=
  ∃ A' c', e = .returned (.agg (rdA A' c' D)) ∧ RfF w' (fun q => w.heap.size ≤ q ∧ q < w'.heap.size) A' D.fs ∧ Touch (fun _ => False) w w'
theorem fwithout_any (D : Dk) (F : Nat → Prop) (A : Option Addr) (c : Nat) (nm : List UInt8) (w : World) (hr : RfF w F A D.fs) (hn : D.fs.length ≤ 128) :
    Calls Try.prog 110 #[.agg (rdA A c D), St nm] w (RxP { D with fs := outF D.fs nm } w) := by
  obtain ⟨room, fs, down, armed, steps⟩ := D
  simp only at hr hn ⊢
  have HR := Lib.hid hr
  obtain ⟨i0, hi0, hz0, hz1, hz2⟩ := info_parts infoFi
  have hrd : rdA A c ⟨room, fs, down, armed, steps⟩ = #[.int .i64 room, .slice A fs.length c, .bool down, .int .i64 armed, .int .u64 (steps : Int)] := rfl
  rw [hrd]
  clear hr hrd
  go_enter Try.func110, Try.ntmps110
  go_wp2_with fail
  obtain ⟨w1, hw1⟩ : ∃ w1, w1 = (w.alloc (.cells #[.int .i64 room, .slice A fs.length c, .bool down, .int .i64 armed, .int .u64 (steps : Int)] 67)).alloc (.cells #[.int .i64 0, .slice none 0 0, .bool false, .int .i64 0, .int .u64 0] 67) := ⟨_, rfl⟩
  have HT1 := Lib.hid (show Touch (fun _ => False) w w1 from hw1 ▸ T2 w _ _)
  have hb : Blk w1 w.heap.size 67 #[.int .i64 room, .slice A fs.length c, .bool down, .int .i64 armed, .int .u64 (steps : Int)] := hw1 ▸ ((Touch.refl (fun _ => False) _).alloc _).blk (Blk.new w _ _) (fun e => e)
  have hs1 : w1.heap.size = w.heap.size + 2 := by rw [hw1]; simp
  have hrs : Blk w1 (w.heap.size + 1) 67 #[.int .i64 0, .slice none 0 0, .bool false, .int .i64 0, .int .u64 0] := by
    have := Blk.new (w.alloc (.cells #[.int .i64 room, .slice A fs.length c, .bool down, .int .i64 armed, .int .u64 (steps : Int)] 67)) 67 #[.int .i64 0, .slice none 0 0, .bool false, .int .i64 0, .int .u64 0]
    rw [hw1]
    rwa [show (w.alloc (.cells #[.int .i64 room, .slice A fs.length c, .bool down, .int .i64 armed, .int .u64 (steps : Int)] 67)).heap.size = w.heap.size + 1 from by simp] at this
  have HB := Lib.hid hb
  have HRs := Lib.hid hrs
  have HR1 := Lib.hid (HR.out.touch HT1.out (fun _ _ e => e))
  rw [← hw1]
  clear hw1 hb hrs
  go_loopw [5, 6] (fun l s wr => ∃ (i : Nat) (r : Option Nat), i ≤ fs.length ∧ s = .int .i64 i ∧ Own wr 82 3 l r (outF (fs.take i) nm).length ((outF (fs.take i) nm).flatMap fiC) ∧ (∀ q, r = some q → w1.heap.size ≤ q) ∧ Touch (fun _ => False) w1 wr) (fun _ s _ => fs.length - (intOf s).toNat)
  case atStart => exact ⟨0, none, by omega, rfl, by simpa [outF] using Own.nil _ _ _, (fun _ h => by cases h), Touch.refl _ _⟩
  case round =>
    obtain ⟨i, r, hi, rfl, ho, hr, hT⟩ := hrel
    have hTs := hT.size
    have hb := hT.blk HB.out (fun e => e)
    have q1 := hb.cell 1
    simp at q1
    have HBr := Lib.hid hb
    have HRr := Lib.hid (hT.blk HRs.out (fun e => e))
    have HT := Lib.hid hT
    have HRk := Lib.hid hr
    have hol := ho.lt
    clear hb hT hr
    by_cases hin : i < fs.length
    · obtain ⟨f, hf⟩ : ∃ f, fs[i]? = some f := ⟨_, List.getElem?_eq_getElem hin⟩
      obtain ⟨g, off, rfl, hg, -, h0, h1, h2⟩ := (HR1.out.touch HT.out (fun _ _ e => e)).at_ hf
      have HTk := Lib.hid (outF_take hf nm)
      have hlo : (outF (fs.take i) nm).length ≤ 128 := Nat.le_trans (outF_len _ _) (by simp; omega)
      clear hf
      generalize outF (fs.take i) nm = xs at *
      cases he : f.nm == nm
      · have HE := Lib.hid he
        obtain ⟨A0, c0, hv0, -⟩ := ho.form
        subst hv0
        have HO := Lib.hid ho
        clear ho
        rw [he] at HTk
        go_wp2_with (
          at_builtin; refine wpList_own_append rfl _ _ 65 65 rfl 82 i0 _ 3 40 Try.underlying65 hi0 hz0 hz1 hz2 rfl _ r xs.length (xs.flatMap fiC) rfl (by exact HO.out.touch ((Touch.refl (fun _ => False) wr).alloc _) (fun _ _ e => e)) (.slice (some ⟨wr.heap.size, 0, none⟩) 1 1) 1 (fiC f) rfl (Src.lit (sz := 3) Try.underlying65 wr.heap.size 1 1 82 (#[St f.nm, St f.al, .int .i64 (f.kp : Int)]) (Blk.new _ _ _) rfl (fiC_one f)) (by simp only [maxLen]; omega) (by omega) ?_
          intro v9 r9 w4 ho9 t9 hr9
          have HO9 := Lib.hid (appFi HO.out f ho9)
          obtain ⟨A9, c9, rfl, -⟩ := ho9.form
          have ta := (Touch.refl (fun _ => False) wr).alloc (.cells #[St f.nm, St f.al, .int .i64 (f.kp : Int)] 82)
          have HT9 := Lib.hid ((HT.out.trans ta (fun _ _ e => e)).trans t9 (fun q hq e => by have := HRk.out q e; omega))
          have hsa : (wr.alloc (.cells #[St f.nm, St f.al, .int .i64 (f.kp : Int)] 82)).heap.size = wr.heap.size + 1 := by simp
          have HR9 := Lib.hid hr9
          have hs9 := HT9.out.size
          clear ho9 t9 hr9 ta; go_frame)
        go_roundw
        case rel =>
          refine ⟨i + 1, r9, by omega, by simp, by rw [HTk.out]; exact HO9.out, fun q hq => ?_, HT9.out⟩
          rcases HR9.out with e | ⟨k, e, hk⟩
          · exact HRk.out q (e ▸ hq)
          · rw [hq] at e; injection e with e; omega
        case measure => simp [intOf]; omega
      · have HE := Lib.hid he
        rw [he] at HTk
        have HO := Lib.hid ho
        clear ho
        go_wp2
        go_roundw
        case rel => exact ⟨i + 1, r, by omega, by simp, by rw [HTk.out]; simpa using HO.out, HRk.out, HT.out⟩
        case measure => simp [intOf]; omega
    · obtain rfl : i = fs.length := by omega
      rw [List.take_length] at ho
      obtain ⟨A0, c0, rfl, hrd⟩ := ho.rf
      have HRd := Lib.hid hrd
      clear ho hrd
      have p0 := HBr.out.cell 0; have p1 := HBr.out.cell 1; have p2 := HBr.out.cell 2; have p3 := HBr.out.cell 3; have p4 := HBr.out.cell 4; simp at p0 p1 p2 p3 p4
      have m0 := HBr.out.frozen 0; have m1 := HBr.out.frozen 1; have m2 := HBr.out.frozen 2; have m3 := HBr.out.frozen 3; have m4 := HBr.out.frozen 4
      have y0 := HRr.out.cell 0; have y1 := HRr.out.cell 1; have y2 := HRr.out.cell 2; have y3 := HRr.out.cell 3; have y4 := HRr.out.cell 4; simp at y0 y1 y2 y3 y4
      have z0 := HRr.out.frozen 0; have z1 := HRr.out.frozen 1; have z2 := HRr.out.frozen 2; have z3 := HRr.out.frozen 3; have z4 := HRr.out.frozen 4
      go_wp2
      have t8 : Touch (fun q => q = w.heap.size) wr (wr.setCell ⟨w.heap.size, 1, none⟩ (.slice A0 (outF fs nm).length c0)) := (Touch.refl (fun q => q = w.heap.size) wr).set (b := w.heap.size) (o := 1) (fun _ => rfl) _
      refine bodyPost_ret (results_cell1 (cs := rdA A0 c0 ⟨room, outF fs nm, down, armed, steps⟩) 4 rowRd rfl (by exact fin5 (HRr.out.far (p := ⟨w.heap.size, 1, none⟩) (by simp) _) _ _ _ _ _) rfl rfl) rfl ?_
      have t9 := (t8.mono (S' := fun q => q = w.heap.size ∨ q = w.heap.size + 1) (fun _ _ e => .inl e)).trans (tch5 (w := wr.setCell ⟨w.heap.size, 1, none⟩ (.slice A0 (outF fs nm).length c0)) (w.heap.size + 1) (.int .i64 room) (.slice A0 (outF fs nm).length c0) (.bool down) (.int .i64 armed) (.int .u64 (steps : Int))) (fun q _ e => .inr e)
      refine ⟨A0, c0, rfl, ?_, (HT1.out.trans HT.out (fun _ _ e => e)).trans t9 (fun q hq e => by omega)⟩
      have hz9 := t9.size
      exact (HRd.out.touch t9 (fun q hq e => by have := HRk.out q hq; omega)).mono (fun q hq => ⟨by have := HRk.out q hq; omega, by have := hol q hq; omega⟩)
theorem insF_hit {f y : Fi} {zs : List Fi} : ∀ (xs : List Fi), (∀ x ∈ xs, ltB f.nm x.nm = false) → ltB f.nm y.nm = true → insF f (xs ++ y :: zs) = xs ++ f :: y :: zs
  | [], _, h => by simp [insF, h]
  | x :: xs, h0, h => by
    rw [List.cons_append, insF, if_neg (by rw [h0 x (by simp)]; simp), insF_hit xs (fun z hz => h0 z (by simp [hz])) h]; rfl
theorem insF_app {f : Fi} {ys : List Fi} : ∀ (xs : List Fi), (∃ x ∈ xs, ltB f.nm x.nm = true) → insF f (xs ++ ys) = insF f xs ++ ys
  | [], h => by obtain ⟨x, hx, -⟩ := h; cases hx
  | x :: xs, h => by
    rw [List.cons_append, insF, insF]
    split
    · rfl
    · rename_i hn
      obtain ⟨z, hz, hl⟩ := h
      rcases List.mem_cons.1 hz with rfl | hz
      · exact absurd hl hn
      · rw [insF_app xs ⟨z, hz, hl⟩]; rfl
theorem insF_end {f : Fi} : ∀ (xs : List Fi), (∀ x ∈ xs, ltB f.nm x.nm = false) → insF f xs = xs ++ [f]
  | [], _ => rfl
  | x :: xs, h => by rw [insF, if_neg (by rw [h x (by simp)]; simp), insF_end xs (fun z hz => h z (by simp [hz]))]; rfl
theorem blk5 {w : World} {g : Nat} {T : TypeId} {u0 u1 u2 u3 u4 : Value} (h : Blk w g T #[u0, u1, u2, u3, u4]) (v0 v1 v2 v3 v4 : Value) : Blk (((((w.setCell ⟨g, 0, none⟩ v0).setCell ⟨g, 1, none⟩ v1).setCell ⟨g, 2, none⟩ v2).setCell ⟨g, 3, none⟩ v3).setCell ⟨g, 4, none⟩ v4) g T #[v0, v1, v2, v3, v4] := by
  have := ((((h.set_ 0 v0).set_ 1 v1).set_ 2 v2).set_ 3 v3).set_ 4 v4
  simpa using this
theorem blk3 {w : World} {g : Nat} {T : TypeId} {u0 u1 u2 : Value} (h : Blk w g T #[u0, u1, u2]) (v0 v1 v2 : Value) : Blk (((w.setCell ⟨g, 0, none⟩ v0).setCell ⟨g, 1, none⟩ v1).setCell ⟨g, 2, none⟩ v2) g T #[v0, v1, v2] := by
  have := ((h.set_ 0 v0).set_ 1 v1).set_ 2 v2
  simpa using this
theorem bk1 (w : World) (t1 t2 t3 : TypeId) (c1 c2 c3 : Array Value) : Blk (((w.alloc (.cells c1 t1)).alloc (.cells c2 t2)).alloc (.cells c3 t3)) w.heap.size t1 c1 := ((T2 _ _ _).blk (Blk.new w t1 c1) (fun e => e))
theorem bk2 (w : World) (t1 t2 t3 : TypeId) (c1 c2 c3 : Array Value) : Blk (((w.alloc (.cells c1 t1)).alloc (.cells c2 t2)).alloc (.cells c3 t3)) (w.heap.size + 1) t2 c2 := by
  have := ((Touch.refl (fun _ => False) _).alloc (.cells c3 t3)).blk (Blk.new (w.alloc (.cells c1 t1)) t2 c2) (fun e => e)
  rwa [show (w.alloc (.cells c1 t1)).heap.size = w.heap.size + 1 from by simp] at this
theorem bk3 (w : World) (t1 t2 t3 : TypeId) (c1 c2 c3 : Array Value) : Blk (((w.alloc (.cells c1 t1)).alloc (.cells c2 t2)).alloc (.cells c3 t3)) (w.heap.size + 2) t3 c3 := by
  have := Blk.new ((w.alloc (.cells c1 t1)).alloc (.cells c2 t2)) t3 c3
  rwa [show ((w.alloc (.cells c1 t1)).alloc (.cells c2 t2)).heap.size = w.heap.size + 2 from by simp] at this
theorem T3 (w : World) (o1 o2 o3 : Obj) : Touch (fun _ => False) w (((w.alloc o1).alloc o2).alloc o3) := (T2 w o1 o2).alloc o3
/-- What with has built so far. -/
def WthB (f : Fi) (fs : List Fi) (d : Bool) (i : Nat) (xs : List Fi) : Prop :=
  (d = false ∧ xs = fs.take i ∧ ∀ x ∈ fs.take i, ltB f.nm x.nm = false) ∨ (d = true ∧ xs = insF f (fs.take i) ∧ ∃ x ∈ fs.take i, ltB f.nm x.nm = true)
theorem WthB.len {f : Fi} {fs : List Fi} {d : Bool} {i : Nat} {xs : List Fi} (h : WthB f fs d i xs) (hn : fs.length ≤ 128) : xs.length ≤ 129 := by
  rcases h with ⟨-, rfl, -⟩ | ⟨-, rfl, -⟩
  · simp; omega
  · rw [insF_len]; simp; omega
theorem app_arm {ops : Array Oper} {rest : List Oper} {o : Oper} {a : Act} {w : World} {Q : Exit → Act → World → Prop} (hgd : o.guard = none) (s x : Operand)
    (ho : o.op = .call { callee := .builtin .append, args := #[s, x], argTypes := #[65, 65] }) (xs : List Fi) (r : Option Nat) (f : Fi) (b : Nat) (v : Value) (hsv : a.eval s = v)
    (hown : Own w 82 3 v r xs.length (xs.flatMap fiC)) (hx : a.eval x = .slice (some ⟨b, 0, none⟩) 1 1) (hb : Blk w b 82 #[St f.nm, St f.al, .int .i64 (f.kp : Int)]) (hl : xs.length ≤ 1000)
    (h : ∀ A' c' r' w', Own w' 82 3 (.slice A' (xs.length + 1) c') r' (xs ++ [f]).length ((xs ++ [f]).flatMap fiC) → Touch (fun k => r = some k) w w' → (r' = r ∨ ∃ k, r' = some k ∧ w.heap.size ≤ k) → wpList Try.prog ops Q rest (a.put o.dst (.slice A' (xs.length + 1) c')) w') : wpList Try.prog ops Q (o :: rest) a w := by
  obtain ⟨i0, hi0, hz0, hz1, hz2⟩ := info_parts infoFi
  refine wpList_own_append hgd s x 65 65 ho 82 i0 _ 3 40 Try.underlying65 hi0 hz0 hz1 hz2 rfl v r xs.length (xs.flatMap fiC) hsv hown (.slice (some ⟨b, 0, none⟩) 1 1) 1 (fiC f) hx (Src.lit (sz := 3) Try.underlying65 b 1 1 82 (#[St f.nm, St f.al, .int .i64 (f.kp : Int)]) hb rfl (fiC_one f)) (by simp only [maxLen]; omega) (by omega) ?_
  intro v9 r9 w4 ho9 t9 hr9
  obtain ⟨A9, c9, rfl, -⟩ := ho9.form
  exact h A9 c9 r9 w4 (appFi hown f ho9) t9 hr9
theorem WthB.skip {f e : Fi} {fs : List Fi} {i : Nat} {xs : List Fi} (h : WthB f fs true i xs) (he : fs[i]? = some e) : WthB f fs true (i + 1) (xs ++ [e]) := by
  rcases h with ⟨h, -, -⟩ | ⟨-, rfl, x, hx, hl⟩
  · cases h
  · refine .inr ⟨rfl, ?_, x, ?_, hl⟩
    · rw [List.take_add_one, he]; exact (insF_app _ ⟨x, hx, hl⟩).symm
    · rw [List.take_add_one]; exact List.mem_append.2 (.inl hx)
theorem WthB.here {f e : Fi} {fs : List Fi} {i : Nat} {xs : List Fi} (h : WthB f fs false i xs) (he : fs[i]? = some e) (hlt : ltB f.nm e.nm = true) : WthB f fs true (i + 1) ((xs ++ [f]) ++ [e]) := by
  rcases h with ⟨-, rfl, hl⟩ | ⟨h, -, -⟩
  · refine .inr ⟨rfl, ?_, e, ?_, hlt⟩
    · rw [List.take_add_one, he]; rw [show (some e).toList = [e] from rfl, insF_hit _ hl hlt]; simp
    · rw [List.take_add_one, he]; simp
  · cases h
theorem WthB.past {f e : Fi} {fs : List Fi} {i : Nat} {xs : List Fi} (h : WthB f fs false i xs) (he : fs[i]? = some e) (hlt : ltB f.nm e.nm = false) : WthB f fs false (i + 1) (xs ++ [e]) := by
  rcases h with ⟨-, rfl, hl⟩ | ⟨h, -, -⟩
  · refine .inl ⟨rfl, by rw [List.take_add_one, he]; rfl, fun x hx => ?_⟩
    rw [List.take_add_one, he] at hx
    rcases List.mem_append.1 hx with h | h
    · exact hl x h
    · obtain rfl : x = e := by simpa using h
      exact hlt
  · cases h
theorem WthB.endT {f : Fi} {fs xs : List Fi} (h : WthB f fs true fs.length xs) : xs = insF f fs := by
  rcases h with ⟨h, -, -⟩ | ⟨-, rfl, -⟩
  · cases h
  · rw [List.take_length]
theorem WthB.endF {f : Fi} {fs xs : List Fi} (h : WthB f fs false fs.length xs) : xs ++ [f] = insF f fs := by
  rcases h with ⟨-, rfl, hl⟩ | ⟨h, -, -⟩
  · rw [List.take_length] at hl ⊢; rw [insF_end _ hl]
  · cases h
theorem fwith_any (D : Dk) (F : Nat → Prop) (A : Option Addr) (c : Nat) (f : Fi) (w : World) (hr : RfF w F A D.fs) (hn : D.fs.length ≤ 128) :
    Calls Try.prog 109 #[.agg (rdA A c D), .agg #[St f.nm, St f.al, .int .i64 (f.kp : Int)]] w (RxP { D with fs := putF D.fs f } w) := by
  obtain ⟨room, fs, down, armed, steps⟩ := D
  simp only at hr hn ⊢
  obtain ⟨i0, hi0, hz0, hz1, hz2⟩ := info_parts infoFi
  obtain ⟨w1, hw1⟩ : ∃ w1, w1 = ((w.alloc (.cells #[.int .i64 room, .slice A fs.length c, .bool down, .int .i64 armed, .int .u64 (steps : Int)] 67)).alloc (.cells #[St f.nm, St f.al, .int .i64 (f.kp : Int)] 82)).alloc (.cells #[.int .i64 0, .slice none 0 0, .bool false, .int .i64 0, .int .u64 0] 67) := ⟨_, rfl⟩
  have HT1 := Lib.hid (show Touch (fun _ => False) w w1 from hw1 ▸ T3 w _ _ _)
  have HB1 := Lib.hid (show Blk w1 w.heap.size 67 #[.int .i64 room, .slice A fs.length c, .bool down, .int .i64 armed, .int .u64 (steps : Int)] from hw1 ▸ bk1 w _ _ _ _ _ _)
  have HF1 := Lib.hid (show Blk w1 (w.heap.size + 1) 82 #[St f.nm, St f.al, .int .i64 (f.kp : Int)] from hw1 ▸ bk2 w _ _ _ _ _ _)
  have HS1 := Lib.hid (show Blk w1 (w.heap.size + 2) 67 #[.int .i64 0, .slice none 0 0, .bool false, .int .i64 0, .int .u64 0] from hw1 ▸ bk3 w _ _ _ _ _ _)
  have hs1 : w1.heap.size = w.heap.size + 3 := by rw [hw1]; simp
  have HW1 := Lib.hid hw1
  have HWo := Lib.hid (fwithout_any ⟨room, fs, down, armed, steps⟩ F A c f.nm w1 (hr.touch HT1.out (fun _ _ e => e)) hn)
  have HP := Lib.hid (show putF fs f = insF f (outF fs f.nm) from rfl)
  have hol : (outF fs f.nm).length ≤ 128 := Nat.le_trans (outF_len _ _) hn
  rw [show rdA A c ⟨room, fs, down, armed, steps⟩ = #[.int .i64 room, .slice A fs.length c, .bool down, .int .i64 armed, .int .u64 (steps : Int)] from rfl] at HWo ⊢
  unfold RxP at HWo
  rw [HP.out]
  generalize outF fs f.nm = fo at *
  clear hw1 hr
  go_enter Try.func109, Try.ntmps109
  go_wp2_with (go_at_call 110; rw [← HW1.out]; go_must (refine HWo.out.mono ?_); rintro e w2 ⟨A2, c2, rfl, hr2, t2⟩
               rw [show rdA A2 c2 (⟨room, fo, down, armed, steps⟩ : Dk) = #[.int .i64 room, .slice A2 fo.length c2, .bool down, .int .i64 armed, .int .u64 (steps : Int)] from rfl]
               have HR2 := Lib.hid hr2
               have HT2 := Lib.hid t2
               have hs2 := t2.size
               have HB2 := Lib.hid (t2.blk HB1.out (fun e => e))
               have p0 := HB2.out.cell 0; have p1 := HB2.out.cell 1; have p2 := HB2.out.cell 2; have p3 := HB2.out.cell 3; have p4 := HB2.out.cell 4; simp at p0 p1 p2 p3 p4
               have m0 := HB2.out.frozen 0; have m1 := HB2.out.frozen 1; have m2 := HB2.out.frozen 2; have m3 := HB2.out.frozen 3; have m4 := HB2.out.frozen 4
               clear hr2 t2)
  have HB3 := Lib.hid (blk5 HB2.out (.int .i64 room) (.slice A2 fo.length c2) (.bool down) (.int .i64 armed) (.int .u64 (steps : Int)))
  have t3 := tch5 (w := w2) w.heap.size (.int .i64 room) (.slice A2 fo.length c2) (.bool down) (.int .i64 armed) (.int .u64 (steps : Int))
  obtain ⟨w3, hw3⟩ : ∃ w3, w3 = ((((w2.setCell ⟨w.heap.size, 0, none⟩ (.int .i64 room)).setCell ⟨w.heap.size, 1, none⟩ (.slice A2 fo.length c2)).setCell ⟨w.heap.size, 2, none⟩ (.bool down)).setCell ⟨w.heap.size, 3, none⟩ (.int .i64 armed)).setCell ⟨w.heap.size, 4, none⟩ (.int .u64 (steps : Int)) := ⟨_, rfl⟩
  rw [← hw3] at HB3 t3 ⊢
  have HT3 := Lib.hid t3
  have hs3 := t3.size
  have HF3 := Lib.hid (t3.blk (HT2.out.blk HF1.out (fun e => e)) (by omega))
  have HS3 := Lib.hid (t3.blk (HT2.out.blk HS1.out (fun e => e)) (by omega))
  have HR3 := Lib.hid (HR2.out.touch t3 (fun q hq e => by omega))
  clear hw3 t3 p0 p1 p2 p3 p4 m0 m1 m2 m3 m4
  go_loopw [5, 6, 7] (fun l d s wr => ∃ (i : Nat) (r : Option Nat) (xs : List Fi) (db : Bool), i ≤ fo.length ∧ s = .int .i64 i ∧ d = .bool db ∧ Own wr 82 3 l r xs.length (xs.flatMap fiC) ∧ WthB f fo db i xs ∧ (∀ q, r = some q → w3.heap.size ≤ q) ∧ Touch (fun _ => False) w3 wr) (fun _ _ s _ => fo.length - (intOf s).toNat)
  case atStart => exact ⟨0, none, [], false, by omega, rfl, rfl, by simpa using Own.nil _ _ _, .inl ⟨rfl, by simp, fun x hx => by simp at hx⟩, (fun _ h => by cases h), Touch.refl _ _⟩
  case round =>
    obtain ⟨i, r, xs, db, hi, rfl, rfl, ho, hwb, hr, hT⟩ := hrel
    have hTs := hT.size
    have hb := hT.blk HB3.out (fun e => e)
    have hfb := hT.blk HF3.out (fun e => e)
    have hxl := hwb.len hol
    have q1 := hb.cell 1
    have k0 := hfb.cell 0
    have k1 := hfb.cell 1
    have k2 := hfb.cell 2
    simp at q1 k0 k1 k2
    have HBr := Lib.hid hb
    have HT := Lib.hid hT
    have HRK := Lib.hid hr
    have HWB := Lib.hid hwb
    have hol' := ho.lt
    clear hb hfb hT hr hwb
    by_cases hin : i < fo.length
    · obtain ⟨e, he⟩ : ∃ e, fo[i]? = some e := ⟨_, List.getElem?_eq_getElem hin⟩
      obtain ⟨W, hW⟩ : ∃ W, W = wr.drew := ⟨_, rfl⟩
      have HTW := Lib.hid (HT.out.trans (show Touch (fun _ => False) wr W from hW ▸ (Touch.refl _ _).drew) (fun _ _ e => e))
      have tW : Touch (fun _ => False) wr W := hW ▸ (Touch.refl _ _).drew
      obtain ⟨g, off, rfl, hg3, -, h0, h1, h2⟩ := HR3.out.at_ he
      have H0 := Lib.hid h0
      have H1 := Lib.hid h1
      have H2 := Lib.hid h2
      have h0 := (HTW.out.cell (p := ⟨g, off + i * 3, none⟩) hg3 (fun e => e)).trans h0
      have h1 := (HTW.out.cell (p := ⟨g, off + i * 3 + 1, none⟩) hg3 (fun e => e)).trans h1
      have h2 := (HTW.out.cell (p := ⟨g, off + i * 3 + 2, none⟩) hg3 (fun e => e)).trans h2
      have hbW := HTW.out.blk HB3.out (fun e => e)
      have hfW := HTW.out.blk HF3.out (fun e => e)
      have y1 := hbW.cell 1
      have x0 := hfW.cell 0
      have x1 := hfW.cell 1
      have x2 := hfW.cell 2
      simp at y1 x0 x1 x2
      have HOW := Lib.hid (ho.touch tW (fun _ _ e => e))
      have HE := Lib.hid he
      obtain ⟨A0, c0, hv0, -⟩ := ho.form
      subst hv0
      clear ho he tW hbW hfW
      cases db
      · cases hl : ltB f.nm e.nm
        · have HL := Lib.hid hl
          have HWn := Lib.hid (HWB.out.past HE.out hl)
          go_wp2_with fail
          refine wp_region_plan [(0, 0), (0, 1), (0, 2), (0, 3), (0, 4), (0, 5), (0, 6), (0, 7), (0, 8), (0, 9), (0, 10), (0, 11), (0, 12)] (fun _ => False) (by kernel_rfl) (by kernel_rfl) (fun c a d v w h => by cases d <;> exact h) ?_
          rw [← hW]
          clear hW
          iterate 13
            refine plan_s1 rfl (by rfl) (fun Kc hKc => ?_)
            go_simp
            first
              | (refine hKc _ ?_)
            clear hKc Kc
          refine plan_done ?_
          go_wp2_with (
            at_builtin; refine app_arm rfl _ _ rfl xs r e _ _ rfl (by exact HOW.out.touch ((Touch.refl (fun _ => False) _).alloc _) (fun _ _ e => e)) rfl (Blk.new _ _ _) (by first | omega | (simp only [List.length_append, List.length_singleton]; omega)) ?_
            intro A9 c9 r9 w9 ho9 t9 hr9
            have HO9 := Lib.hid ho9
            have HT9 := Lib.hid ((HTW.out.trans ((Touch.refl (fun _ => False) _).alloc _) (fun _ _ e => e)).trans t9 (S := fun _ => False) (fun q hq e => by have := HRK.out q e; omega))
            have HRK9 := Lib.hid (show ∀ q, r9 = some q → w3.heap.size ≤ q from fun q hq => by
              rcases hr9 with e | ⟨k, e, hk⟩
              · exact HRK.out q (e ▸ hq)
              · rw [hq] at e; injection e with e; try simp at hk
                have := HTW.out.size; omega)
            have hs9 := HT9.out.size
            skip
            clear ho9 t9 hr9; go_frame)
          go_roundw
          case rel => exact ⟨i + 1, r9, xs ++ [e], false, by omega, by simp, by simp, HO9.out, HWn.out, HRK9.out, HT9.out⟩
          case measure => simp [intOf]; omega
        · have HL := Lib.hid hl
          have HWn := Lib.hid (HWB.out.here HE.out hl)
          go_wp2_with fail
          refine wp_region_plan [(0, 0), (0, 1), (0, 2), (0, 3), (0, 4), (0, 5), (0, 6), (0, 7), (0, 8), (0, 9), (0, 10), (0, 11), (0, 12)] (fun _ => False) (by kernel_rfl) (by kernel_rfl) (fun c a d v w h => by cases d <;> exact h) ?_
          rw [← hW]
          clear hW
          iterate 13
            refine plan_s1 rfl (by rfl) (fun Kc hKc => ?_)
            go_simp
            first
              | (refine hKc _ ?_)
            clear hKc Kc
          refine plan_done ?_
          go_wp2_with (first
            | (at_builtin; refine app_arm rfl _ _ rfl xs r f _ _ rfl (by exact HOW.out.touch ((Touch.refl (fun _ => False) _).alloc _) (fun _ _ e => e)) rfl (Blk.new _ _ _) (by first | omega | (simp only [List.length_append, List.length_singleton]; omega)) ?_
               intro A8 c8 r8 w8 ho9 t9 hr9
               have HO8 := Lib.hid ho9
               have HT8 := Lib.hid ((HTW.out.trans ((Touch.refl (fun _ => False) _).alloc _) (fun _ _ e => e)).trans t9 (S := fun _ => False) (fun q hq e => by have := HRK.out q e; omega))
               have HRK8 := Lib.hid (show ∀ q, r8 = some q → w3.heap.size ≤ q from fun q hq => by
                 rcases hr9 with e | ⟨k, e, hk⟩
                 · exact HRK.out q (e ▸ hq)
                 · rw [hq] at e; injection e with e; try simp at hk
                   have := HTW.out.size; omega)
               have hs8 := HT8.out.size
               have hb8 := HT8.out.blk HB3.out (fun e => e)
               have z1 := hb8.cell 1
               simp at z1
               have d0 := (HT8.out.cell (p := ⟨g, off + i * 3, none⟩) hg3 (fun e => e)).trans H0.out
               have d1 := (HT8.out.cell (p := ⟨g, off + i * 3 + 1, none⟩) hg3 (fun e => e)).trans H1.out
               have d2 := (HT8.out.cell (p := ⟨g, off + i * 3 + 2, none⟩) hg3 (fun e => e)).trans H2.out
               clear hb8
               clear ho9 t9 hr9; go_frame)
            | (at_builtin; refine app_arm rfl _ _ rfl (xs ++ [f]) r8 e _ _ rfl (by exact HO8.out.touch ((Touch.refl (fun _ => False) _).alloc _) (fun _ _ e => e)) rfl (Blk.new _ _ _) (by first | omega | (simp only [List.length_append, List.length_singleton]; omega)) ?_
               intro A9 c9 r9 w9 ho9 t9 hr9
               have HO9 := Lib.hid ho9
               have HT9 := Lib.hid ((HT8.out.trans ((Touch.refl (fun _ => False) _).alloc _) (fun _ _ e => e)).trans t9 (S := fun _ => False) (fun q hq e => by have := HRK8.out q e; omega))
               have HRK9 := Lib.hid (show ∀ q, r9 = some q → w3.heap.size ≤ q from fun q hq => by
                 rcases hr9 with e | ⟨k, e, hk⟩
                 · exact HRK8.out q (e ▸ hq)
                 · rw [hq] at e; injection e with e; try simp at hk
                   have := HT8.out.size; omega)
               have hs9 := HT9.out.size
               clear ho9 t9 hr9; go_frame))
          go_roundw
          case rel => exact ⟨i + 1, r9, (xs ++ [f]) ++ [e], true, by omega, by simp, by simp, by simpa using HO9.out, HWn.out, HRK9.out, HT9.out⟩
          case measure => simp [intOf]; omega
      · have HWn := Lib.hid (HWB.out.skip HE.out)
        go_wp2_with fail
        refine wp_region_plan [(0, 0), (0, 1), (0, 2), (0, 3), (0, 4), (0, 5), (0, 6), (0, 7), (0, 8), (0, 9), (0, 10), (0, 11), (0, 12)] (fun _ => False) (by kernel_rfl) (by kernel_rfl) (fun c a d v w h => by cases d <;> exact h) ?_
        rw [← hW]
        clear hW
        iterate 3
          refine plan_s1 rfl (by rfl) (fun Kc hKc => ?_)
          go_simp
          first
            | (refine hKc _ ?_)
          clear hKc Kc
        iterate 9
          refine plan_s rfl fun Kc hKc => ?_
          go_simp
          first
            | (refine hKc _ ?_)
          clear hKc Kc
        iterate 1
          refine plan_s1 rfl (by rfl) (fun Kc hKc => ?_)
          go_simp
          first
            | (refine hKc _ ?_)
          clear hKc Kc
        refine plan_done ?_
        go_wp2_with (
          at_builtin; refine app_arm rfl _ _ rfl xs r e _ _ rfl (by exact HOW.out.touch ((Touch.refl (fun _ => False) _).alloc _) (fun _ _ e => e)) rfl (Blk.new _ _ _) (by first | omega | (simp only [List.length_append, List.length_singleton]; omega)) ?_
          intro A9 c9 r9 w9 ho9 t9 hr9
          have HO9 := Lib.hid ho9
          have HT9 := Lib.hid ((HTW.out.trans ((Touch.refl (fun _ => False) _).alloc _) (fun _ _ e => e)).trans t9 (S := fun _ => False) (fun q hq e => by have := HRK.out q e; omega))
          have HRK9 := Lib.hid (show ∀ q, r9 = some q → w3.heap.size ≤ q from fun q hq => by
            rcases hr9 with e | ⟨k, e, hk⟩
            · exact HRK.out q (e ▸ hq)
            · rw [hq] at e; injection e with e; try simp at hk
              have := HTW.out.size; omega)
          have hs9 := HT9.out.size
          skip
          clear ho9 t9 hr9; go_frame)
        go_roundw
        case rel => exact ⟨i + 1, r9, xs ++ [e], true, by omega, by simp, by simp, HO9.out, HWn.out, HRK9.out, HT9.out⟩
        case measure => simp [intOf]; omega
    · obtain rfl : i = fo.length := by omega
      have HSr := Lib.hid (HT.out.blk HS3.out (fun e => e))
      cases db
      · have HXs := Lib.hid HWB.out.endF
        have HO := Lib.hid ho
        obtain ⟨A0, c0, hv0, -⟩ := ho.form
        subst hv0
        clear ho
        go_wp2_with (
          at_builtin; refine app_arm rfl _ _ rfl xs r f _ _ rfl (by exact HO.out.touch ((Touch.refl (fun _ => False) _).alloc _) (fun _ _ e => e)) rfl (Blk.new _ _ _) (by first | omega | (simp only [List.length_append, List.length_singleton]; omega)) ?_
          intro A9 c9 r9 w9 ho9 t9 hr9
          have HO9 := Lib.hid ho9
          have HT9 := Lib.hid ((HT.out.trans ((Touch.refl (fun _ => False) _).alloc _) (fun _ _ e => e)).trans t9 (S := fun _ => False) (fun q hq e => by have := HRK.out q e; omega))
          have HRK9 := Lib.hid (show ∀ q, r9 = some q → w3.heap.size ≤ q from fun q hq => by
            rcases hr9 with e | ⟨k, e, hk⟩
            · exact HRK.out q (e ▸ hq)
            · rw [hq] at e; injection e with e; try simp at hk
              have := HT.out.size; omega)
          have hs9 := HT9.out.size
          have hb8 := HT9.out.blk HB3.out (fun e => e)
          have p0 := hb8.cell 0; have p1 := hb8.cell 1; have p2 := hb8.cell 2; have p3 := hb8.cell 3; have p4 := hb8.cell 4; simp at p0 p1 p2 p3 p4
          have m0 := hb8.frozen 0; have m1 := hb8.frozen 1; have m2 := hb8.frozen 2; have m3 := hb8.frozen 3; have m4 := hb8.frozen 4
          have hr8 := HT9.out.blk HS3.out (fun e => e)
          have y0 := hr8.cell 0; have y1 := hr8.cell 1; have y2 := hr8.cell 2; have y3 := hr8.cell 3; have y4 := hr8.cell 4; simp at y0 y1 y2 y3 y4
          have z0 := hr8.frozen 0; have z1 := hr8.frozen 1; have z2 := hr8.frozen 2; have z3 := hr8.frozen 3; have z4 := hr8.frozen 4
          clear hb8 hr8
          clear ho9 t9 hr9; go_frame)
        have hz := congrArg List.length HXs.out
        simp only [List.length_append, List.length_singleton] at hz
        refine bodyPost_ret (results_cell1 (cs := rdA A9 c9 ⟨room, insF f fo, down, armed, steps⟩) 4 rowRd rfl (by have := fin5 ((HT9.out.blk HS3.out (fun e => e)).far (p := ⟨w.heap.size, 1, none⟩) (by simp) (.slice A9 (xs.length + 1) c9)) (.int .i64 room) (.slice A9 (xs.length + 1) c9) (.bool down) (.int .i64 armed) (.int .u64 (steps : Int)); rw [hz] at this; simp only [hz]; exact this) rfl rfl) rfl ?_
        obtain ⟨Ay, cy, hvy, hrd⟩ := Own.rf (xs := xs ++ [f]) HO9.out
        have hvy' := hvy
        simp only [List.length_append, List.length_singleton] at hvy'
        injection hvy' with e1 _ e2
        subst e1 e2
        have hol9 := HO9.out.lt
        have t8 : Touch (fun q => q = w.heap.size) w9 (w9.setCell ⟨w.heap.size, 1, none⟩ (.slice A9 (xs.length + 1) c9)) := (Touch.refl (fun q => q = w.heap.size) w9).set (b := w.heap.size) (o := 1) (fun _ => rfl) _
        have t9 := (t8.mono (S' := fun q => q = w.heap.size ∨ q = w.heap.size + 2) (fun _ _ e => .inl e)).trans (tch5 (w := w9.setCell ⟨w.heap.size, 1, none⟩ (.slice A9 (xs.length + 1) c9)) (w.heap.size + 2) (.int .i64 room) (.slice A9 (xs.length + 1) c9) (.bool down) (.int .i64 armed) (.int .u64 (steps : Int))) (fun q _ e => .inr e)
        refine ⟨A9, c9, rfl, ?_, ((((HT1.out.trans HT2.out (fun _ _ e => e)).mono (S' := fun _ => False) (fun _ _ e => e)).trans HT3.out (fun q hq e => by omega)).trans HT9.out (fun _ _ e => e)).trans t9 (fun q hq e => by omega)⟩
        rw [HXs.out] at hrd
        exact (hrd.touch t9 (fun q hq e => by have := HRK9.out q hq; omega)).mono (fun q hq => ⟨by have := HRK9.out q hq; omega, Nat.lt_of_lt_of_le (hol9 q hq) t9.size⟩)
      · have HXs := Lib.hid HWB.out.endT
        obtain ⟨A0, c0, rfl, hrd⟩ := ho.rf
        have HRd := Lib.hid hrd
        clear ho hrd
        have p0 := HBr.out.cell 0; have p1 := HBr.out.cell 1; have p2 := HBr.out.cell 2; have p3 := HBr.out.cell 3; have p4 := HBr.out.cell 4; simp at p0 p1 p2 p3 p4
        have m0 := HBr.out.frozen 0; have m1 := HBr.out.frozen 1; have m2 := HBr.out.frozen 2; have m3 := HBr.out.frozen 3; have m4 := HBr.out.frozen 4
        have y0 := HSr.out.cell 0; have y1 := HSr.out.cell 1; have y2 := HSr.out.cell 2; have y3 := HSr.out.cell 3; have y4 := HSr.out.cell 4; simp at y0 y1 y2 y3 y4
        have z0 := HSr.out.frozen 0; have z1 := HSr.out.frozen 1; have z2 := HSr.out.frozen 2; have z3 := HSr.out.frozen 3; have z4 := HSr.out.frozen 4
        go_wp2
        have t8 : Touch (fun q => q = w.heap.size) wr (wr.setCell ⟨w.heap.size, 1, none⟩ (.slice A0 xs.length c0)) := (Touch.refl (fun q => q = w.heap.size) wr).set (b := w.heap.size) (o := 1) (fun _ => rfl) _
        refine bodyPost_ret (results_cell1 (cs := rdA A0 c0 ⟨room, xs, down, armed, steps⟩) 4 rowRd rfl (by exact fin5 (HSr.out.far (p := ⟨w.heap.size, 1, none⟩) (by simp) _) _ _ _ _ _) rfl rfl) rfl ?_
        have t9 := (t8.mono (S' := fun q => q = w.heap.size ∨ q = w.heap.size + 2) (fun _ _ e => .inl e)).trans (tch5 (w := wr.setCell ⟨w.heap.size, 1, none⟩ (.slice A0 xs.length c0)) (w.heap.size + 2) (.int .i64 room) (.slice A0 xs.length c0) (.bool down) (.int .i64 armed) (.int .u64 (steps : Int))) (fun q _ e => .inr e)
        rw [← HXs.out]
        refine ⟨A0, c0, rfl, ?_, ((((HT1.out.trans HT2.out (fun _ _ e => e)).mono (S' := fun _ => False) (fun _ _ e => e)).trans HT3.out (fun q hq e => by omega)).trans HT.out (fun _ _ e => e)).trans t9 (fun q hq e => by omega)⟩
        have hz9 := t9.size
        exact (HRd.out.touch t9 (fun q hq e => by have := HRK.out q hq; omega)).mono (fun q hq => ⟨by have := HRK.out q hq; omega, Nat.lt_of_lt_of_le (hol' q hq) t9.size⟩)
end Go.Proofs.Ytpgakkpmpnebnaa
