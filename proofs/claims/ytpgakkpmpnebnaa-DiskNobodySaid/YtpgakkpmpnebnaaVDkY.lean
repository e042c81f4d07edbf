/- The reference's disk: Crash. (written by genDkY.py) -/
import Derived.Test.YtpgakkpmpnebnaaVDkU
import Derived.Test.YtpgakkpmpnebnaaVDkR
import Derived.Test.YtpgakkpmpnebnaaVDkL
namespace Go.Proofs.Ytpgakkpmpnebnaa
open Go.RowKit Go.Maps
set_option maxHeartbeats 4000000
set_option maxRecDepth 100000
set_option linter.unusedVariables false
attribute [local irreducible] wpPlan

theorem headD_drop {ts : List Tr} {u : Nat} {t : Tr} (h : ts[u]? = some t) : (ts.drop u).headD ⟨0, 0⟩ = t := by
  obtain ⟨hl, he⟩ := List.getElem?_eq_some_iff.1 h
  rw [List.drop_eq_getElem_cons hl]
  exact he
theorem headD_none {ts : List Tr} {u : Nat} (h : ts.length ≤ u) : (ts.drop u).headD ⟨0, 0⟩ = ⟨0, 0⟩ := by
  rw [List.drop_eq_nil_of_le h]; rfl
theorem tail_drop {ts : List Tr} {u : Nat} : (ts.drop u).tail = ts.drop (u + 1) := by rw [List.tail_drop]
theorem fcrash_any (D : Dk) (F G : Nat → Prop) (A TA : Option Addr) (c tc : Nat) (ts : List Tr) (w : World) (hr : RfF w F A D.fs) (hok : D.Ok) (hT : TrR w G TA ts.length ts) (htk : ∀ t ∈ ts, t.keep < 65536 ∧ t.turn < 4294967296) (htl : ts.length ≤ 1000) :
    Calls Try.prog 82 #[.agg (rdA A c D), .slice TA ts.length tc] w (RxP (D.crash ts) w) := by
  obtain ⟨room, fs, down, armed, steps⟩ := D
  have hn := hok.n
  have hkp := Lib.hid hok.nm
  have hto := Lib.hid hok.tot
  simp only at hr hn hkp hto ⊢
  unfold Dk.crash
  simp only
  have HR := Lib.hid hr
  have HTs := Lib.hid hT
  have HTk := Lib.hid htk
  obtain ⟨i0, hi0, hz0, hz1, hz2⟩ := info_parts infoFi
  have hrd : rdA A c ⟨room, fs, down, armed, steps⟩ = #[.int .i64 room, .slice A fs.length c, .bool down, .int .i64 armed, .int .u64 (steps : Int)] := rfl
  rw [hrd]
  clear hr hrd hok hT htk
  go_enter Try.func82, Try.ntmps82
  go_wp2_with fail
  obtain ⟨w1, hw1⟩ : ∃ w1, w1 = (w.alloc (.cells #[.int .i64 room, .slice A fs.length c, .bool true, .int .i64 (-1), .int .u64 (steps : Int)] 67)).alloc (.cells #[.int .i64 0, .slice none 0 0, .bool false, .int .i64 0, .int .u64 0] 67) := ⟨_, rfl⟩
  have HT1 := Lib.hid (show Touch (fun _ => False) w w1 from hw1 ▸ T2 w _ _)
  have hb : Blk w1 w.heap.size 67 #[.int .i64 room, .slice A fs.length c, .bool true, .int .i64 (-1), .int .u64 (steps : Int)] := hw1 ▸ ((Touch.refl (fun _ => False) _).alloc _).blk (Blk.new w _ _) (fun e => e)
  have hs1 : w1.heap.size = w.heap.size + 2 := by rw [hw1]; simp
  have hrs : Blk w1 (w.heap.size + 1) 67 #[.int .i64 0, .slice none 0 0, .bool false, .int .i64 0, .int .u64 0] := by
    have := Blk.new (w.alloc (.cells #[.int .i64 room, .slice A fs.length c, .bool true, .int .i64 (-1), .int .u64 (steps : Int)] 67)) 67 #[.int .i64 0, .slice none 0 0, .bool false, .int .i64 0, .int .u64 0]
    rw [hw1]
    rwa [show (w.alloc (.cells #[.int .i64 room, .slice A fs.length c, .bool true, .int .i64 (-1), .int .u64 (steps : Int)] 67)).heap.size = w.heap.size + 1 from by simp] at this
  have HB := Lib.hid hb
  have HRs := Lib.hid hrs
  have HR1 := Lib.hid (HR.out.touch HT1.out (fun _ _ e => e))
  have HTs1 := Lib.hid (HTs.out.touch HT1.out (fun _ _ e => e))
  rw [← hw1]
  clear hw1 hb hrs
  go_loopw [5, 6, 7] (fun l us s wr => ∃ (i u : Nat) (L : List Fi) (r : Option Nat), i ≤ fs.length ∧ u ≤ i ∧ us = .int .i64 u ∧ s = .int .i64 i ∧ crashF fs ts = L ++ crashF (fs.drop i) (ts.drop u) ∧ L.length ≤ i ∧ Own wr 82 3 l r L.length (L.flatMap fiC) ∧ (∀ q, r = some q → w1.heap.size ≤ q) ∧ Touch (fun _ => False) w1 wr) (fun _ _ s _ => fs.length - (intOf s).toNat)
  case atStart => exact ⟨0, 0, [], none, by omega, by omega, rfl, rfl, by simp, by simp, by simpa using Own.nil _ _ _, (fun _ h => by cases h), Touch.refl _ _⟩
  case round =>
    obtain ⟨i, u, L, r, hi, hu, rfl, rfl, hcr, hLl, ho, hr, hT⟩ := hrel
    have hTs := hT.size
    have hb := hT.blk HB.out (fun e => e)
    have q1 := hb.cell 1
    simp at q1
    have HBr := Lib.hid hb
    have HRr := Lib.hid (hT.blk HRs.out (fun e => e))
    have HT := Lib.hid hT
    have HRk := Lib.hid hr
    have HCr := Lib.hid hcr
    have hol := Lib.hid ho.lt
    obtain ⟨A0, c0, hv0, -⟩ := ho.form
    subst hv0
    have HO := Lib.hid ho
    clear hb hT hr hcr ho
    by_cases hin : i < fs.length
    · obtain ⟨f, hf⟩ : ∃ f, fs[i]? = some f := ⟨_, List.getElem?_eq_getElem hin⟩
      have hdr : fs.drop i = f :: fs.drop (i + 1) := by rw [List.drop_eq_getElem_cons hin]; congr 1; rw [List.getElem?_eq_getElem hin] at hf; exact Option.some.inj hf
      obtain ⟨g, off, rfl, hg, -, h0, h1, h2⟩ := (HR1.out.touch HT.out (fun _ _ e => e)).at_ hf
      have hfm := List.mem_of_getElem? hf
      have hfo := hkp.out f hfm
      have hfl := Nat.le_trans (len_le_tot hfm) hto.out
      have hsa := stSize f.al
      rw [hdr] at HCr
      clear hf hdr hfm
      obtain ⟨wf, hwf⟩ : ∃ wf, wf = wr.alloc (.cells #[St f.nm, St f.al, .int .i64 (f.kp : Int)] 82) := ⟨_, rfl⟩
      have HWf := Lib.hid hwf
      have HTf := Lib.hid (show Touch (fun _ => False) wr wf from hwf ▸ (Touch.refl (fun _ => False) wr).alloc _)
      have HBf := Lib.hid (show Blk wf wr.heap.size 82 #[St f.nm, St f.al, .int .i64 (f.kp : Int)] from hwf ▸ Blk.new wr _ _)
      have hsf : wf.heap.size = wr.heap.size + 1 := by rw [hwf]; simp
      clear hwf
      by_cases hk : f.kp < f.al.length
      · have hki : (f.kp : Int) < (f.al.length : Int) := by omega
        by_cases hul : u < ts.length
        · obtain ⟨t, ht⟩ : ∃ t, ts[u]? = some t := ⟨_, List.getElem?_eq_getElem hul⟩
          have htm := HTk.out t (List.mem_of_getElem? ht)
          have HHt := Lib.hid ht
          obtain ⟨tg, to_, rfl, htg, -, ht0, ht1⟩ := (HTs1.out.touch HT.out (fun _ _ e => e)).at_ ht
          have hui : (u : Int) < (ts.length : Int) := by omega
          clear ht
          have HHd := Lib.hid (show (ts.drop u).headD ⟨0, 0⟩ = t from headD_drop HHt.out)
          obtain ⟨C, hC⟩ : ∃ C, C = cutA f t := ⟨_, rfl⟩
          obtain ⟨B, hB⟩ : ∃ B, B = tornF (f.al.drop f.kp) t := ⟨_, rfl⟩
          have hBl : B.length ≤ f.al.length - f.kp := by have := tornF_len (f.al.drop f.kp) t; rw [← hB] at this; simpa using this
          have hCB : f.al.take f.kp ++ B = C := by rw [hC, hB]; rfl
          have hCl : C.length ≤ f.al.length := by rw [← hCB]; simp; omega
          have hcl : ¬ 9223372036854775807 < f.kp + B.length := by omega
          have hadd : (⟨(f.al.take f.kp).toArray⟩ ++ ⟨B.toArray⟩ : ByteArray) = ⟨C.toArray⟩ := by rw [bytes_app, hCB]
          have hsC := stSize C
          have HTo := Lib.hid (show ∀ W, Calls Try.prog 112 #[St (f.al.drop f.kp), .agg #[.int .u16 (t.keep : Int), .int .u32 (t.turn : Int)]] W fun e w' => e = .returned (St B) ∧ Touch (fun _ => False) W w' from fun W => by
            have := ftorn_any (f.al.drop f.kp) t htm.1 htm.2 W (by simp; omega)
            unfold FtnP at this
            rw [← hB] at this
            exact this)
          have hsl := st_h f.al f.kp (by omega)
          have hsm := st_l f.al f.kp (by omega)
          have HCut := Lib.hid hC
          clear hB hCB hC
          obtain ⟨wt, hwt⟩ : ∃ wt, wt = wf.alloc (.cells #[.int .u16 (t.keep : Int), .int .u32 (t.turn : Int)] 172) := ⟨_, rfl⟩
          have HTt := Lib.hid (HTf.out.trans (show Touch (fun _ => False) wf wt from hwt ▸ (Touch.refl (fun _ => False) wf).alloc _) (fun _ _ e => e))
          have HBt := Lib.hid (show Blk wt (wr.heap.size + 1) 172 #[.int .u16 (t.keep : Int), .int .u32 (t.turn : Int)] from by rw [hwt, ← hsf]; exact Blk.new wf _ _)
          have HBft := Lib.hid ((show Touch (fun _ => False) wf wt from hwt ▸ (Touch.refl (fun _ => False) wf).alloc _).blk HBf.out (fun e => e))
          rw [HWf.out] at hwt
          obtain ⟨W, hW⟩ : ∃ W, W = wt.drew := ⟨_, rfl⟩
          have hTW : Touch (fun _ => False) wt W := hW ▸ (Touch.refl _ _).drew
          have HTW := Lib.hid (HTt.out.trans hTW (fun _ _ e => e))
          have hbW := hTW.blk HBft.out (fun e => e)
          have hyW := hTW.blk HBt.out (fun e => e)
          have x1 := hbW.cell 1
          have x2 := hbW.cell 2
          have x3 := hyW.cell 0
          have x4 := hyW.cell 1
          simp at x1 x2 x3 x4
          have hpl := hbW.lt
          have HBW := Lib.hid hbW
          clear hTW hbW hyW
          go_wp2_with fail
          rw [← hwt]
          refine wp_region_plan [(0, 5), (0, 6), (0, 7), (0, 8), (0, 9), (0, 10), (1, 0), (1, 1), (1, 2), (1, 3), (1, 4), (2, 11), (0, 12), (0, 13), (3, 14)] (fun _ => False) (by kernel_rfl) (by kernel_rfl) (fun c a d v w h => by cases d <;> exact h) ?_
          rw [← hW]
          clear hW hwt
          iterate 6
            refine plan_s1 rfl (by rfl) (fun Kc hKc => ?_)
            go_simp
            first
              | (refine hKc _ ?_)
            clear hKc Kc
          iterate 5
            apply plan_h
            · rfl
            · rfl
            · intro wh hT
              have hf0 := (hT.cell (p := ⟨wr.heap.size, 1, none⟩) hpl (fun e => e)).trans x1
              have hf1 := (hT.cell (p := ⟨wr.heap.size, 2, none⟩) hpl (fun e => e)).trans x2
              go_simp
              try rfl
            go_frame
          refine plan_a1 rfl (by rfl) (fun Kc hKc => ?_)
          go_simp
          refine (HTo.out _).mono ?_
          rintro e w3 ⟨rfl, t3⟩
          refine hKc _ _ ⟨t3, ?_⟩
          clear hKc Kc
          have HT3 := Lib.hid (HTW.out.trans t3 (fun _ _ e => e))
          have hb3 := t3.blk HBW.out (fun e => e)
          have y1 := hb3.frozen 1
          have y2 := hb3.cell 1
          simp at y2
          have HB3 := Lib.hid hb3
          have hs3 := HT3.out.size
          clear t3 x1 x2 x3 x4 hb3
          iterate 2
            refine plan_s1 rfl (by rfl) (fun Kc hKc => ?_)
            go_simp
            first
              | (refine hKc _ ?_)
            clear hKc Kc
          refine plan_b1 rfl (by rfl) (fun Kc hKc => ?_)
          go_simp
          refine hKc _ _ ?_
          clear hKc Kc
          refine plan_done ?_
          obtain ⟨v4, hv4⟩ : ∃ v4, v4 = w3.setCell ⟨wr.heap.size, 1, none⟩ (St C) := ⟨_, rfl⟩
          have hb4 : Blk v4 wr.heap.size 82 #[St f.nm, St C, .int .i64 (f.kp : Int)] := by
            have := HB3.out.set_ 1 (St C)
            rw [hv4]
            simpa using this
          have t4 : Touch (fun q => q = wr.heap.size) w3 v4 := hv4 ▸ (Touch.refl (fun q => q = wr.heap.size) w3).set (b := wr.heap.size) (o := 1) (fun _ => rfl) _
          have HT4 := Lib.hid ((HT3.out.mono (S' := fun q => q = wr.heap.size) (fun _ _ e => e.elim)).trans t4 (fun q _ e => e))
          rw [← hv4]
          have hs4 := t4.size
          have p0 := hb4.cell 0
          have p1 := hb4.cell 1
          have p2 := hb4.cell 2
          have m2 := hb4.frozen 2
          simp at p0 p1 p2
          have HT5 := Lib.hid (show Touch (fun _ => False) wr (v4.setCell ⟨wr.heap.size, 2, none⟩ (.int .i64 (C.length : Int))) from HT4.out.trans ((Touch.refl (fun q => q = wr.heap.size) v4).set (b := wr.heap.size) (o := 2) (fun _ => rfl) _) (fun q hq e => by omega) |>.mono (fun q hq e => by omega))
          clear hv4 hb4 t4 hadd hsl hsm y1 y2
          by_cases ha : C.length = 0
          · have hze : ¬ (0 : Int) < (C.length : Int) := by omega
            have HV := Lib.hid (show crashF fs ts = L ++ crashF (fs.drop (i + 1)) (ts.drop (u + 1)) by rw [HCr.out, crash_torn hk, HHd.out, ← HCut.out, if_neg (by omega), tail_drop]; rfl)
            clear ha
            go_wp2
            go_roundw
            case rel =>
              refine ⟨i + 1, u + 1, L, r, by omega, by omega, by simp, by simp, HV.out, by omega, HO.out.touch HT5.out (fun _ _ e => e), HRk.out, HT.out.trans HT5.out (fun _ _ e => e)⟩
            case measure => simp [intOf]; omega
          · have hze : (0 : Int) < (C.length : Int) := by omega
            have HV := Lib.hid (show crashF fs ts = (L ++ [(⟨f.nm, C, C.length⟩ : Fi)]) ++ crashF (fs.drop (i + 1)) (ts.drop (u + 1)) by rw [HCr.out, crash_torn hk, HHd.out, ← HCut.out, if_pos (by omega), tail_drop]; simp)
            clear ha
            obtain ⟨gn, hgn⟩ : ∃ gn, gn = v4.heap.size := ⟨_, rfl⟩
            go_wp2_with (
              at_builtin; refine wpList_own_append rfl _ _ 65 65 rfl 82 i0 _ 3 40 Try.underlying65 hi0 hz0 hz1 hz2 rfl _ r L.length (L.flatMap fiC) rfl (by exact HO.out.touch (HT5.out.alloc _) (fun _ _ e => e)) (.slice (some ⟨v4.heap.size, 0, none⟩) 1 1) 1 (fiC ⟨f.nm, C, C.length⟩) rfl (Src.lit (sz := 3) Try.underlying65 (v4.heap.size) 1 1 82 (#[St f.nm, St C, .int .i64 (C.length : Int)]) (by have := Blk.new (v4.setCell ⟨wr.heap.size, 2, none⟩ (.int .i64 (C.length : Int))) 82 #[St f.nm, St C, .int .i64 (C.length : Int)]; rwa [show (v4.setCell ⟨wr.heap.size, 2, none⟩ (.int .i64 (C.length : Int))).heap.size = v4.heap.size from by simp [World.setCell]] at this) rfl (fiC_one ⟨f.nm, C, C.length⟩)) (by simp only [maxLen]; omega) (by omega) ?_
              intro v9 r9 w9 ho9 t9 hr9
              have HO9 := Lib.hid (appFi HO.out ⟨f.nm, C, C.length⟩ ho9)
              obtain ⟨A9, c9, rfl, -⟩ := ho9.form
              have HT9 := Lib.hid ((HT.out.trans (HT5.out.alloc _) (fun _ _ e => e)).trans t9 (fun q hq e => by have := HRk.out q e; omega))
              have hz9 := (HT5.out.alloc (.cells #[St f.nm, St C, .int .i64 (C.length : Int)] 82)).size
              have HR9 := Lib.hid hr9
              clear ho9 t9 hr9; go_frame)
            go_roundw
            case rel =>
              refine ⟨i + 1, u + 1, L ++ [(⟨f.nm, C, C.length⟩ : Fi)], r9, by omega, by omega, by simp, by simp, HV.out, by simp; omega, HO9.out, fun q hq => ?_, HT9.out⟩
              rcases HR9.out with e | ⟨k, e, hk9⟩
              · exact HRk.out q (e ▸ hq)
              · rw [hq] at e; injection e with e; omega
            case measure => simp [intOf]; omega
        · have hui : ¬ (u : Int) < (ts.length : Int) := by omega
          have HHd := Lib.hid (show (ts.drop u).headD ⟨0, 0⟩ = ⟨0, 0⟩ from headD_none (by omega))
          obtain ⟨C, hC⟩ : ∃ C, C = cutA f ⟨0, 0⟩ := ⟨_, rfl⟩
          obtain ⟨B, hB⟩ : ∃ B, B = tornF (f.al.drop f.kp) ⟨0, 0⟩ := ⟨_, rfl⟩
          have hBl : B.length ≤ f.al.length - f.kp := by have := tornF_len (f.al.drop f.kp) ⟨0, 0⟩; rw [← hB] at this; simpa using this
          have hCB : f.al.take f.kp ++ B = C := by rw [hC, hB]; rfl
          have hCl : C.length ≤ f.al.length := by rw [← hCB]; simp; omega
          have hcl : ¬ 9223372036854775807 < f.kp + B.length := by omega
          have hadd : (⟨(f.al.take f.kp).toArray⟩ ++ ⟨B.toArray⟩ : ByteArray) = ⟨C.toArray⟩ := by rw [bytes_app, hCB]
          have hsC := stSize C
          have HTo := Lib.hid (show ∀ W, Calls Try.prog 112 #[St (f.al.drop f.kp), .agg #[.int .u16 0, .int .u32 0]] W fun e w' => e = .returned (St B) ∧ Touch (fun _ => False) W w' from fun W => by
            have := ftorn_any (f.al.drop f.kp) ⟨0, 0⟩ (by simp) (by simp) W (by simp; omega)
            unfold FtnP at this
            rw [← hB] at this
            exact this)
          have hsl := st_h f.al f.kp (by omega)
          have hsm := st_l f.al f.kp (by omega)
          have HCut := Lib.hid hC
          clear hB hCB hC
          obtain ⟨wt, hwt⟩ : ∃ wt, wt = wf.alloc (.cells #[.int .u16 0, .int .u32 0] 172) := ⟨_, rfl⟩
          have HTt := Lib.hid (HTf.out.trans (show Touch (fun _ => False) wf wt from hwt ▸ (Touch.refl (fun _ => False) wf).alloc _) (fun _ _ e => e))
          have HBt := Lib.hid (show Blk wt (wr.heap.size + 1) 172 #[.int .u16 0, .int .u32 0] from by rw [hwt, ← hsf]; exact Blk.new wf _ _)
          have HBft := Lib.hid ((show Touch (fun _ => False) wf wt from hwt ▸ (Touch.refl (fun _ => False) wf).alloc _).blk HBf.out (fun e => e))
          rw [HWf.out] at hwt
          obtain ⟨W, hW⟩ : ∃ W, W = wt.drew := ⟨_, rfl⟩
          have hTW : Touch (fun _ => False) wt W := hW ▸ (Touch.refl _ _).drew
          have HTW := Lib.hid (HTt.out.trans hTW (fun _ _ e => e))
          have hbW := hTW.blk HBft.out (fun e => e)
          have hyW := hTW.blk HBt.out (fun e => e)
          have x1 := hbW.cell 1
          have x2 := hbW.cell 2
          have x3 := hyW.cell 0
          have x4 := hyW.cell 1
          simp at x1 x2 x3 x4
          have hpl := hbW.lt
          have HBW := Lib.hid hbW
          clear hTW hbW hyW
          go_wp2_with fail
          rw [← hwt]
          refine wp_region_plan [(0, 5), (0, 6), (0, 7), (0, 8), (0, 9), (0, 10), (1, 0), (1, 1), (1, 2), (1, 3), (1, 4), (2, 11), (0, 12), (0, 13), (3, 14)] (fun _ => False) (by kernel_rfl) (by kernel_rfl) (fun c a d v w h => by cases d <;> exact h) ?_
          rw [← hW]
          clear hW hwt
          iterate 6
            refine plan_s1 rfl (by rfl) (fun Kc hKc => ?_)
            go_simp
            first
              | (refine hKc _ ?_)
            clear hKc Kc
          iterate 5
            apply plan_h
            · rfl
            · rfl
            · intro wh hT
              have hf0 := (hT.cell (p := ⟨wr.heap.size, 1, none⟩) hpl (fun e => e)).trans x1
              have hf1 := (hT.cell (p := ⟨wr.heap.size, 2, none⟩) hpl (fun e => e)).trans x2
              go_simp
              try rfl
            go_frame
          refine plan_a1 rfl (by rfl) (fun Kc hKc => ?_)
          go_simp
          refine (HTo.out _).mono ?_
          rintro e w3 ⟨rfl, t3⟩
          refine hKc _ _ ⟨t3, ?_⟩
          clear hKc Kc
          have HT3 := Lib.hid (HTW.out.trans t3 (fun _ _ e => e))
          have hb3 := t3.blk HBW.out (fun e => e)
          have y1 := hb3.frozen 1
          have y2 := hb3.cell 1
          simp at y2
          have HB3 := Lib.hid hb3
          have hs3 := HT3.out.size
          clear t3 x1 x2 x3 x4 hb3
          iterate 2
            refine plan_s1 rfl (by rfl) (fun Kc hKc => ?_)
            go_simp
            first
              | (refine hKc _ ?_)
            clear hKc Kc
          refine plan_b1 rfl (by rfl) (fun Kc hKc => ?_)
          go_simp
          refine hKc _ _ ?_
          clear hKc Kc
          refine plan_done ?_
          obtain ⟨v4, hv4⟩ : ∃ v4, v4 = w3.setCell ⟨wr.heap.size, 1, none⟩ (St C) := ⟨_, rfl⟩
          have hb4 : Blk v4 wr.heap.size 82 #[St f.nm, St C, .int .i64 (f.kp : Int)] := by
            have := HB3.out.set_ 1 (St C)
            rw [hv4]
            simpa using this
          have t4 : Touch (fun q => q = wr.heap.size) w3 v4 := hv4 ▸ (Touch.refl (fun q => q = wr.heap.size) w3).set (b := wr.heap.size) (o := 1) (fun _ => rfl) _
          have HT4 := Lib.hid ((HT3.out.mono (S' := fun q => q = wr.heap.size) (fun _ _ e => e.elim)).trans t4 (fun q _ e => e))
          rw [← hv4]
          have hs4 := t4.size
          have p0 := hb4.cell 0
          have p1 := hb4.cell 1
          have p2 := hb4.cell 2
          have m2 := hb4.frozen 2
          simp at p0 p1 p2
          have HT5 := Lib.hid (show Touch (fun _ => False) wr (v4.setCell ⟨wr.heap.size, 2, none⟩ (.int .i64 (C.length : Int))) from HT4.out.trans ((Touch.refl (fun q => q = wr.heap.size) v4).set (b := wr.heap.size) (o := 2) (fun _ => rfl) _) (fun q hq e => by omega) |>.mono (fun q hq e => by omega))
          clear hv4 hb4 t4 hadd hsl hsm y1 y2
          by_cases ha : C.length = 0
          · have hze : ¬ (0 : Int) < (C.length : Int) := by omega
            have HV := Lib.hid (show crashF fs ts = L ++ crashF (fs.drop (i + 1)) (ts.drop (u + 1)) by rw [HCr.out, crash_torn hk, HHd.out, ← HCut.out, if_neg (by omega), tail_drop]; rfl)
            clear ha
            go_wp2
            go_roundw
            case rel =>
              refine ⟨i + 1, u + 1, L, r, by omega, by omega, by simp, by simp, HV.out, by omega, HO.out.touch HT5.out (fun _ _ e => e), HRk.out, HT.out.trans HT5.out (fun _ _ e => e)⟩
            case measure => simp [intOf]; omega
          · have hze : (0 : Int) < (C.length : Int) := by omega
            have HV := Lib.hid (show crashF fs ts = (L ++ [(⟨f.nm, C, C.length⟩ : Fi)]) ++ crashF (fs.drop (i + 1)) (ts.drop (u + 1)) by rw [HCr.out, crash_torn hk, HHd.out, ← HCut.out, if_pos (by omega), tail_drop]; simp)
            clear ha
            obtain ⟨gn, hgn⟩ : ∃ gn, gn = v4.heap.size := ⟨_, rfl⟩
            go_wp2_with (
              at_builtin; refine wpList_own_append rfl _ _ 65 65 rfl 82 i0 _ 3 40 Try.underlying65 hi0 hz0 hz1 hz2 rfl _ r L.length (L.flatMap fiC) rfl (by exact HO.out.touch (HT5.out.alloc _) (fun _ _ e => e)) (.slice (some ⟨v4.heap.size, 0, none⟩) 1 1) 1 (fiC ⟨f.nm, C, C.length⟩) rfl (Src.lit (sz := 3) Try.underlying65 (v4.heap.size) 1 1 82 (#[St f.nm, St C, .int .i64 (C.length : Int)]) (by have := Blk.new (v4.setCell ⟨wr.heap.size, 2, none⟩ (.int .i64 (C.length : Int))) 82 #[St f.nm, St C, .int .i64 (C.length : Int)]; rwa [show (v4.setCell ⟨wr.heap.size, 2, none⟩ (.int .i64 (C.length : Int))).heap.size = v4.heap.size from by simp [World.setCell]] at this) rfl (fiC_one ⟨f.nm, C, C.length⟩)) (by simp only [maxLen]; omega) (by omega) ?_
              intro v9 r9 w9 ho9 t9 hr9
              have HO9 := Lib.hid (appFi HO.out ⟨f.nm, C, C.length⟩ ho9)
              obtain ⟨A9, c9, rfl, -⟩ := ho9.form
              have HT9 := Lib.hid ((HT.out.trans (HT5.out.alloc _) (fun _ _ e => e)).trans t9 (fun q hq e => by have := HRk.out q e; omega))
              have hz9 := (HT5.out.alloc (.cells #[St f.nm, St C, .int .i64 (C.length : Int)] 82)).size
              have HR9 := Lib.hid hr9
              clear ho9 t9 hr9; go_frame)
            go_roundw
            case rel =>
              refine ⟨i + 1, u + 1, L ++ [(⟨f.nm, C, C.length⟩ : Fi)], r9, by omega, by omega, by simp, by simp, HV.out, by simp; omega, HO9.out, fun q hq => ?_, HT9.out⟩
              rcases HR9.out with e | ⟨k, e, hk9⟩
              · exact HRk.out q (e ▸ hq)
              · rw [hq] at e; injection e with e; omega
            case measure => simp [intOf]; omega
      · have hki : ¬ (f.kp : Int) < (f.al.length : Int) := by omega
        by_cases ha : f.al.length = 0
        · have hze : ¬ (0 : Int) < (f.al.length : Int) := by omega
          have HV := Lib.hid (show crashF fs ts = L ++ crashF (fs.drop (i + 1)) (ts.drop u) by rw [HCr.out, crash_whole hk, if_neg (by omega)]; rfl)
          clear ha
          go_wp2
          go_roundw
          case rel =>
            rw [← HWf.out]
            exact ⟨i + 1, u, L, r, by omega, by omega, rfl, by simp, HV.out, by omega, HO.out.touch HTf.out (fun _ _ e => e), HRk.out, HT.out.trans HTf.out (fun _ _ e => e)⟩
          case measure => simp [intOf]; omega
        · have hze : (0 : Int) < (f.al.length : Int) := by omega
          have HV := Lib.hid (show crashF fs ts = (L ++ [f]) ++ crashF (fs.drop (i + 1)) (ts.drop u) by rw [HCr.out, crash_whole hk, if_pos (by omega)]; simp)
          clear ha
          go_wp2_with (
            at_builtin; refine wpList_own_append rfl _ _ 65 65 rfl 82 i0 _ 3 40 Try.underlying65 hi0 hz0 hz1 hz2 rfl _ r L.length (L.flatMap fiC) rfl (by exact HO.out.touch (((Touch.refl (fun _ => False) wr).alloc _).alloc _) (fun _ _ e => e)) (.slice (some ⟨wr.heap.size + 1, 0, none⟩) 1 1) 1 (fiC f) rfl (Src.lit (sz := 3) Try.underlying65 (wr.heap.size + 1) 1 1 82 (#[St f.nm, St f.al, .int .i64 (f.kp : Int)]) (by have := Blk.new (wr.alloc (.cells #[St f.nm, St f.al, .int .i64 (f.kp : Int)] 82)) 82 #[St f.nm, St f.al, .int .i64 (f.kp : Int)]; rwa [show (wr.alloc (.cells #[St f.nm, St f.al, .int .i64 (f.kp : Int)] 82)).heap.size = wr.heap.size + 1 from by simp] at this) rfl (fiC_one f)) (by simp only [maxLen]; omega) (by omega) ?_
            intro v9 r9 w9 ho9 t9 hr9
            have HO9 := Lib.hid (appFi HO.out f ho9)
            obtain ⟨A9, c9, rfl, -⟩ := ho9.form
            have HT9 := Lib.hid (((HT.out.trans ((Touch.refl (fun _ => False) wr).alloc _) (fun _ _ e => e)).alloc _).trans t9 (fun q hq e => by have := HRk.out q e; omega))
            have HR9 := Lib.hid hr9
            clear ho9 t9 hr9; go_frame)
          go_roundw
          case rel =>
            refine ⟨i + 1, u, L ++ [f], r9, by omega, by omega, rfl, by simp, HV.out, by simp; omega, HO9.out, fun q hq => ?_, HT9.out⟩
            rcases HR9.out with e | ⟨k, e, hk⟩
            · exact HRk.out q (e ▸ hq)
            · rw [hq] at e; injection e with e; simp at hk; omega
          case measure => simp [intOf]; omega
    · obtain rfl : i = fs.length := by omega
      have HV := Lib.hid (show crashF fs ts = L by rw [HCr.out, List.drop_length]; simp [crashF])
      have hrd := HO.out.rf
      obtain ⟨A1, c1, hv1, hrd⟩ := hrd
      injection hv1 with e1 _ e2
      subst e1 e2
      have HRd := Lib.hid hrd
      clear hrd
      have p0 := HBr.out.cell 0; have p1 := HBr.out.cell 1; have p2 := HBr.out.cell 2; have p3 := HBr.out.cell 3; have p4 := HBr.out.cell 4; simp at p0 p1 p2 p3 p4
      have m0 := HBr.out.frozen 0; have m1 := HBr.out.frozen 1; have m2 := HBr.out.frozen 2; have m3 := HBr.out.frozen 3; have m4 := HBr.out.frozen 4
      have y0 := HRr.out.cell 0; have y1 := HRr.out.cell 1; have y2 := HRr.out.cell 2; have y3 := HRr.out.cell 3; have y4 := HRr.out.cell 4; simp at y0 y1 y2 y3 y4
      have z0 := HRr.out.frozen 0; have z1 := HRr.out.frozen 1; have z2 := HRr.out.frozen 2; have z3 := HRr.out.frozen 3; have z4 := HRr.out.frozen 4
      go_wp2
      have t8 : Touch (fun q => q = w.heap.size) wr (wr.setCell ⟨w.heap.size, 1, none⟩ (.slice A0 L.length c0)) := (Touch.refl (fun q => q = w.heap.size) wr).set (b := w.heap.size) (o := 1) (fun _ => rfl) _
      refine bodyPost_ret (results_cell1 (cs := rdA A0 c0 ⟨room, L, true, -1, steps⟩) 4 rowRd rfl (by exact fin5 (HRr.out.far (p := ⟨w.heap.size, 1, none⟩) (by simp) _) _ _ _ _ _) rfl rfl) rfl ?_
      have t9 := (t8.mono (S' := fun q => q = w.heap.size ∨ q = w.heap.size + 1) (fun _ _ e => .inl e)).trans (tch5 (w := wr.setCell ⟨w.heap.size, 1, none⟩ (.slice A0 L.length c0)) (w.heap.size + 1) (.int .i64 room) (.slice A0 L.length c0) (.bool true) (.int .i64 (-1)) (.int .u64 (steps : Int))) (fun q _ e => .inr e)
      rw [HV.out]
      refine ⟨A0, c0, rfl, ?_, (HT1.out.trans HT.out (fun _ _ e => e)).trans t9 (fun q hq e => by omega)⟩
      have hz9 := t9.size
      exact (HRd.out.touch t9 (fun q hq e => by have := HRk.out q hq; omega)).mono (fun q hq => ⟨by have := HRk.out q hq; omega, by have := hol.out q hq; omega⟩)
end Go.Proofs.Ytpgakkpmpnebnaa
