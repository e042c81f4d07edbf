/- disk.Disk: Names, file. -/
import Derived.Test.YtpgakkpmpnebnaaVKmDk
import Derived.Test.YtpgakkpmpnebnaaOwnF
namespace Go.Proofs.Ytpgakkpmpnebnaa
open Go.RowKit Go.Maps
set_option maxHeartbeats 4000000
set_option maxRecDepth 100000
set_option linter.unusedVariables false
attribute [local irreducible] wpPlan

theorem sortedB_uniq : ∀ (a b : List (List UInt8)), a.Pairwise (fun x y => ltB x y = true) → b.Pairwise (fun x y => ltB x y = true) → (∀ x, x ∈ a ↔ x ∈ b) → a = b
  | [], [], _, _, _ => rfl
  | [], y :: b, _, _, h => absurd ((h y).2 (by simp)) (by simp)
  | x :: a, [], _, _, h => absurd ((h x).1 (by simp)) (by simp)
  | x :: a, y :: b, ha, hb, h => by
    obtain ⟨h1, h2⟩ := List.pairwise_cons.1 ha
    obtain ⟨h3, h4⟩ := List.pairwise_cons.1 hb
    have hxy : x = y := by
      rcases List.mem_cons.1 ((h x).1 (by simp)) with e | e
      · exact e
      · rcases List.mem_cons.1 ((h y).2 (by simp)) with e' | e'
        · exact e'.symm
        · have := ltB_trans (h1 y e') (h3 x e); rw [ltB_irr] at this; cases this
    subst hxy
    congr 1
    refine sortedB_uniq a b h2 h4 fun z => ⟨fun hz => ?_, fun hz => ?_⟩
    · rcases List.mem_cons.1 ((h z).1 (List.mem_cons_of_mem _ hz)) with e | e
      · subst e; have := h1 z hz; rw [ltB_irr] at this; cases this
      · exact e
    · rcases List.mem_cons.1 ((h z).2 (List.mem_cons_of_mem _ hz)) with e | e
      · subst e; have := h3 z hz; rw [ltB_irr] at this; cases this
      · exact e
def namesOf (fs : List Fi) : List (List UInt8) := fs.map Fi.nm
theorem names_uniq {fs : List Fi} (hs : Sorted fs) {f : Lit → Option Value} (hf : ∀ nm : List UInt8, inS nm → (f (.string nm)).isSome = (getF fs nm).isSome) (hn : ∀ x ∈ fs, inS x.nm) (zs : List (List UInt8)) (h1 : zs.Pairwise (· ≤ ·)) (h2 : zs.Nodup) (h3 : ∀ i, i ∈ zs ↔ inS i ∧ (f (.string i)).isSome = true) : zs = namesOf fs := by
  have hp : zs.Pairwise (fun x y => ltB x y = true) := (h1.and h2).imp (fun {a b} h => by
    obtain ⟨h, hne⟩ := h
    have := (leS_iff a b).1 (by simp [h])
    rcases ltB_tri a b with e | e | e
    · exact e
    · exact absurd e hne
    · rw [e] at this; cases this)
  refine sortedB_uniq _ _ hp (List.pairwise_map.2 hs) fun x => ?_
  rw [h3, namesOf, List.mem_map]
  constructor
  · rintro ⟨hi, hx⟩
    rw [hf x hi] at hx
    obtain ⟨y, hy⟩ := Option.isSome_iff_exists.1 hx
    obtain ⟨h4, h5⟩ := getF_some hy
    exact ⟨y, h4, h5⟩
  · rintro ⟨y, hy, rfl⟩
    exact ⟨hn y hy, by rw [hf _ (hn y hy), getF_of hs hy]; rfl⟩
/-- What Names tells. -/
def NmsP (fs : List Fi) (w : World) (e : Ending) (w' : World) : Prop :=
  ∃ A c, e = .returned (.slice A fs.length c) ∧ Rd w' (fun j => w.heap.size ≤ j ∧ j < w'.heap.size) A fs.length ((namesOf fs).map St) ∧ Touch (fun _ => False) w w'
theorem FlM.ff {w : World} {b : Nat} {fs : List Fi} {F : Nat → Prop} (h : FlM w b fs F) : ∃ f, MapV Try.prog 9 w b 128 f ∧ ∀ nm : List UInt8, inS nm → (f (.string nm)).isSome = (getF fs nm).isSome := by
  obtain ⟨f, hm, hs⟩ := h
  refine ⟨f, hm, fun nm hn => ?_⟩
  cases hc : getF fs nm with
  | none => rw [(hs nm hn).1 hc]; rfl
  | some x => obtain ⟨A, c, hf, -⟩ := (hs nm hn).2 x hc; rw [hf]; rfl
theorem Dk.Ok.inS {D : Dk} (h : D.Ok) : ∀ x ∈ D.fs, inS x.nm := fun x hx => by have := h.nm x hx; unfold Go.Proofs.Ytpgakkpmpnebnaa.inS; simp only [maxLen]; omega
theorem dnames_any {w : World} {g b m : Nat} {D : Dk} {F : Nat → Prop} (h : DkAt w g b m D F) :
    Calls Try.prog 35 #[.pointer (some ⟨g, 0, none⟩)] w (NmsP D.fs w) := by
  have q0 := h.blk.cell 0
  simp [dkA] at q0
  have HN := Lib.hid (dnone_any h)
  obtain ⟨f, hm, hs⟩ := h.mp.ff
  have HS := Lib.hid (show ∀ w1, w1 = w.alloc (.cells #[.map (some b)] 99) → Calls Try.prog 88 #[.func (.func 115) #[] #[.pointer (some ⟨w.heap.size, 0, none⟩)]] w1 (NmsP D.fs w1) from by
    rintro w1 rfl
    refine (sortedDk_any _ b 128 f _ (by simp) (by simp) (hm.touch ((Touch.refl (fun _ => False) w).alloc _) (fun e => e)) (by omega)).mono ?_
    rintro e w' ⟨A, c, zs, rfl, z1, z2, z3, z4, z5, z6, z7⟩
    obtain rfl := names_uniq h.ok.so hs h.ok.inS zs z1 z2 z3
    have hl : (namesOf D.fs).length = D.fs.length := by simp [namesOf]
    rw [hl] at z4 z6 ⊢
    refine ⟨A, c, rfl, ⟨z6.1, fun hn => ?_⟩, z7⟩
    obtain ⟨g', off, e, h1, h2, h3⟩ := z6.2 hn
    exact ⟨g', off, e, h1, ⟨h2, h1⟩, h3⟩)
  have HK := Lib.hid (mkeysDk_any (some b) w)
  clear h hm hs
  unfold NmsP at HS ⊢
  generalize D.fs.length = n at *
  generalize (namesOf D.fs).map St = xs at *
  go_enter Try.func35, Try.ntmps35
  go_wp2_with (first
    | (go_at_call 87; go_must (refine HN.out.mono ?_); rintro e w1 ⟨rfl, rfl⟩)
    | (go_at_call 89; go_must (refine HK.out.mono ?_); rintro e w1 ⟨rfl, hw1⟩; have HW1 := Lib.hid hw1; clear hw1)
    | (go_at_call 88; go_must (refine (HS.out w1 HW1.out).mono ?_); rintro e w2 ⟨A2, c2, rfl, hr2, t2⟩; have HR2 := Lib.hid hr2; have HT2 := Lib.hid t2; clear hr2 t2))
  go_ret
  have ta : Touch (fun _ => False) w w1 := HW1.out ▸ (Touch.refl _ w).alloc _
  exact ⟨A2, c2, rfl, HR2.out.mono (fun q hq => ⟨Nat.le_trans ta.size hq.1, hq.2⟩), ta.trans HT2.out (fun _ _ e => e)⟩
def fileE (D : Dk) (nm : List UInt8) : Int := if D.down = true then 50 else if (getF D.fs nm).isSome = true then 0 else 31
def fiZ : Fi := ⟨[], [], 0⟩
def fileV (D : Dk) (nm : List UInt8) : Fi := if D.down = true then fiZ else (getF D.fs nm).getD fiZ
/-- What file tells. -/
def FilP (D : Dk) (nm : List UInt8) (F : Nat → Prop) (w : World) (e : Ending) (w' : World) : Prop :=
  ∃ A c, e = .returned (.tuple #[.agg (ctA A (fileV D nm).al.length c (fileV D nm).kp), .int .i64 (fileE D nm)]) ∧ BtR w' F A c (fileV D nm).al ∧ Touch (fun _ => False) w w'
theorem BtR.nil (w : World) (F : Nat → Prop) : BtR w F none 0 [] := ⟨Rd.nil _ _ _, Nat.le_refl _, by simp⟩
theorem dfile_any {w : World} {g b m : Nat} {D : Dk} {F : Nat → Prop} (h : DkAt w g b m D F) (nm : List UInt8) (hn : nm.length ≤ 1000000) :
    Calls Try.prog 95 #[.pointer (some ⟨g, 0, none⟩), St nm] w (FilP D nm F w) := by
  have HB0 := Lib.hid (Blk.new w 149 #[.slice none 0 0, .int .i64 0])
  have HT0 := Lib.hid ((Touch.refl (fun _ => False) w).alloc (.cells #[.slice none 0 0, .int .i64 0] 149))
  have h0 := h.far HT0.out
  have HU := Lib.hid (dup_any h0)
  have HZn := Lib.hid (show (#[.slice none 0 0, .int .i64 0] : Array Value).size = 2 from rfl)
  have HZ1 := Lib.hid (show (#[.slice none 0 0, .int .i64 0] : Array Value).all (·.oneCell') = true from ctA_one none 0 0 0)
  have q0 := h0.blk.cell 0
  simp [dkA] at q0
  unfold FilP
  cases hd : D.down
  · have HE := Lib.hid (show upE D = 0 by rw [upE, hd]; rfl)
    rw [HE.out] at HU
    obtain ⟨f, hm, hs⟩ := h0.mp
    have hk : nm.length ≤ maxLen := by simp only [maxLen]; omega
    have hlk := hm.lookOk lawS Try.underlying99 (zeroCt _) (keyS hk)
    cases hg : getF D.fs nm with
    | none =>
      have HF := Lib.hid (show fileE D nm = 31 ∧ fileV D nm = fiZ by rw [fileE, fileV, hd, hg]; exact ⟨rfl, rfl⟩)
      rw [(hs nm hk).1 hg] at hlk
      simp only [Option.getD_none, Option.isSome_none, ctA] at hlk
      have HB0b := Lib.hid (HB0.out.alloc (.cells #[.slice none 0 0, .int .i64 0] 149))
      have HT0b := Lib.hid (HT0.out.alloc (.cells #[.slice none 0 0, .int .i64 0] 149))
      clear h h0 hm hs hd hg hk
      go_enter Try.func95, Try.ntmps95
      go_wp2_with (first
        | (go_at_call 94; go_must (refine HU.out.mono ?_); rintro e w1 ⟨rfl, rfl⟩)
        | (refine buildZ builtCt rfl rfl ?_)
        | ((with_reducible apply HB0b.out.st rowCt HZn.out HZn.out HZ1.out); exact rfl; exact rfl; exact rfl; exact rfl; intro w9 hb9 t9; have HB9 := Lib.hid hb9; have HT9 := Lib.hid (HT0b.out.trans t9 (S := fun _ => False) (fun q hq e => by omega)); clear hb9 t9))
      refine bodyPost_ret (results_cell2 4 5 rowCt HZn.out (HB9.out.whole) rfl rfl) rfl ?_
      rw [HF.out.1, HF.out.2]
      exact ⟨none, 0, rfl, BtR.nil _ _, HT9.out⟩
    | some x =>
      obtain ⟨A, c, hfv, hr⟩ := (hs nm hk).2 x hg
      have HF := Lib.hid (show fileE D nm = 0 ∧ fileV D nm = x by rw [fileE, fileV, hd, hg]; exact ⟨rfl, rfl⟩)
      rw [hfv] at hlk
      simp only [Option.getD_some, Option.isSome_some, ctA] at hlk
      have HR := Lib.hid (show BtR w F A c x.al from by
        obtain ⟨f', hm', hs'⟩ := h.mp
        obtain ⟨⟨h1, h2⟩, h3⟩ := hr
        refine ⟨⟨h1, fun hp => ?_⟩, h3⟩
        obtain ⟨g', off, e, h4, h5, h6⟩ := h2 hp
        have hlt := h.fl g' h5
        exact ⟨g', off, e, hlt, h5, fun j u hj => ((HT0.out.cell (p := ⟨g', off + j, none⟩) hlt (fun e => e)).symm.trans (h6 j u hj))⟩)
      have HB0b := Lib.hid (HB0.out.alloc (.cells #[.slice A x.al.length c, .int .i64 x.kp] 149))
      have HT0b := Lib.hid (HT0.out.alloc (.cells #[.slice A x.al.length c, .int .i64 x.kp] 149))
      have HXn := Lib.hid (show (#[.slice A x.al.length c, .int .i64 x.kp] : Array Value).size = 2 from rfl)
      have HX1 := Lib.hid (show (#[.slice A x.al.length c, .int .i64 x.kp] : Array Value).all (·.oneCell') = true from ctA_one A x.al.length c x.kp)
      clear h h0 hm hs hd hg hk hfv hr
      go_enter Try.func95, Try.ntmps95
      go_wp2_with (first
        | (go_at_call 94; go_must (refine HU.out.mono ?_); rintro e w1 ⟨rfl, rfl⟩)
        | ((with_reducible apply HB0b.out.st rowCt HZn.out HXn.out HX1.out); exact rfl; exact rfl; exact rfl; exact rfl; intro w9 hb9 t9; have HB9 := Lib.hid hb9; have HT9 := Lib.hid (HT0b.out.trans t9 (S := fun _ => False) (fun q hq e => by omega)); clear hb9 t9))
      refine bodyPost_ret (results_cell2 4 5 rowCt HXn.out (HB9.out.whole) rfl rfl) rfl ?_
      rw [HF.out.1, HF.out.2]
      exact ⟨A, c, rfl, HR.out.touch HT9.out (fun _ _ e => e), HT9.out⟩
  · have HE := Lib.hid (show upE D = 50 by rw [upE, hd]; rfl)
    rw [HE.out] at HU
    have HF := Lib.hid (show fileE D nm = 50 ∧ fileV D nm = fiZ by rw [fileE, fileV, hd]; exact ⟨rfl, rfl⟩)
    clear h h0 hd
    go_enter Try.func95, Try.ntmps95
    go_wp2_with (first
      | (go_at_call 94; go_must (refine HU.out.mono ?_); rintro e w1 ⟨rfl, rfl⟩)
      | (refine buildZ builtCt rfl rfl ?_)
      | ((with_reducible apply HB0.out.st rowCt HZn.out HZn.out HZ1.out); exact rfl; exact rfl; exact rfl; exact rfl; intro w9 hb9 t9; have HB9 := Lib.hid hb9; have HT9 := Lib.hid (HT0.out.trans t9 (S := fun _ => False) (fun q hq e => by omega)); clear hb9 t9))
    refine bodyPost_ret (results_cell2 4 5 rowCt HZn.out (HB9.out.whole) rfl rfl) rfl ?_
    rw [HF.out.1, HF.out.2]
    exact ⟨none, 0, rfl, BtR.nil _ _, HT9.out⟩
end Go.Proofs.Ytpgakkpmpnebnaa
