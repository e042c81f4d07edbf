/- A table of what clients asked last: Put, walked. -/
import Derived.Test.YtmgmjehebbggaaaVSesP
namespace Go.Proofs.Ytmgmjehebbggaaa
open Go.RowKit Go.Maps
set_option maxHeartbeats 4000000
set_option maxRecDepth 100000
set_option linter.unusedVariables false

theorem Rd.lt2_ {w : World} {F : Nat → Prop} {A : Option Addr} {n : Nat} {xs : List Value} (h : Rd w F A n xs) : Rd w (fun k => F k ∧ k < w.heap.size) A n xs :=
  ⟨h.1, fun hn => by
    obtain ⟨a, o, h1, h2, h3, h4⟩ := h.2 hn
    exact ⟨a, o, h1, h2, ⟨h3, h2⟩, h4⟩⟩
theorem SesM.lt_ {w : World} {b : Nat} {s : SesS} {F : Nat → Prop} (h : SesM w b s F) : SesM w b s (fun k => F k ∧ k < w.heap.size) := by
  obtain ⟨f, hm, hs⟩ := h
  refine ⟨f, hm, fun c hc => ⟨(hs c hc).1, fun q a h => ?_⟩⟩
  obtain ⟨A, k, h1, h2⟩ := (hs c hc).2 q a h
  exact ⟨A, k, h1, h2.lt2_⟩
theorem SesAt.lt_ {w : World} {g b : Nat} {s : SesS} {F : Nat → Prop} (h : SesAt w g b s F) : SesAt w g b s (fun k => F k ∧ k < w.heap.size) :=
  ⟨h.blk, h.map.lt_, h.ok, fun k hk => h.nF k hk.1, h.ne⟩
theorem clients_nodup : clients.Nodup := by
  unfold clients List.Nodup; rw [List.pairwise_map]; exact (List.nodup_range).imp (fun h e => h (by injection e; omega))
theorem clients_keys : ∀ kl ∈ clients, KeysOf Try.prog 29 kl := by
  intro kl h
  unfold clients at h
  obtain ⟨c, hc, rfl⟩ := List.mem_map.1 h
  have := List.mem_range.1 hc
  exact ⟨_, keyU (show c < 18446744073709551616 by omega)⟩
theorem rowAk : RowT 72 15 := ⟨⟨_, Try.underlying72, rfl⟩, by kernel_rfl⟩
def askC (q : Nat) (a : RpV) (A : Option Addr) (k : Nat) : Array Value := #[.int .u64 q, .int .i64 a.code, .int .i64 a.time, .int .u64 a.t.id, .int .i64 a.t.contract, .int .i64 a.t.state, .int .i64 a.t.level, .int .u64 a.t.gen, .int .i64 a.t.from_, .int .i64 a.t.left, .int .i64 a.t.due, .int .i64 a.t.told, .slice A a.fired.length k, .int .u64 a.notice, .int .i64 a.dead]
theorem askVal_eq (q : Nat) (a : RpV) (A : Option Addr) (k : Nat) : askVal q a A k = .agg (askC q a A k) := rfl
theorem askC_size (q : Nat) (a : RpV) (A : Option Addr) (k : Nat) : (askC q a A k).size = 15 := rfl
theorem askC_one (q : Nat) (a : RpV) (A : Option Addr) (k : Nat) : (askC q a A k).all (·.oneCell') = true := by simp [askC, Value.oneCell']
theorem askC_q (q : Nat) (a : RpV) (A : Option Addr) (k : Nat) : (askC q a A k)[0]? = some (.int .u64 q) := rfl
theorem askC_a (q : Nat) (a : RpV) (A : Option Addr) (k : Nat) : (askC q a A k).extract 1 (1 + 14) = rpC a A k := by simp [askC, rpC]
theorem encS_who {s : SesS} (ok : SesOk s) : encS s = encN 0 (whoS s).length ++ (whoS s).flatMap (rowB s) := by
  obtain ⟨h1, h2⟩ := whoK (ok0 ok) 8
  rw [encS, h1, h2]; rfl
theorem whoS_len (s : SesS) : (whoS s).length ≤ 9 := by
  unfold whoS; exact Nat.le_trans (List.length_filter_le _ _) (by simp)
theorem rows_len {s : SesS} (hg : SesGood s) (hok : SesOk s) : ∀ zs : List Nat, (∀ z ∈ zs, z < 9) → (zs.flatMap (rowB s)).length ≤ zs.length * 1018
  | [], _ => by simp
  | z :: zs, h => by
    rw [List.flatMap_cons, List.length_append, List.length_cons]
    have h1 := rowB_len hg hok z (by have := h z (by simp); omega)
    have h2 := rows_len hg hok zs (fun x hx => h x (by simp [hx]))
    omega
theorem WGo.pre {w w1 w2 : World} {g : Nat} {r : Option Nat} {l : List UInt8} (t : Touch (fun _ => False) w w1) (h : WGo w1 g r l w2) : WGo w g r l w2 := by
  obtain ⟨r', h1, t1, hf⟩ := h
  refine ⟨r', h1, (t.mono (fun _ _ e => e.elim)).trans t1 (fun _ _ e => e), ?_⟩
  rcases hf with e | ⟨k, e, hk⟩
  · exact .inl e
  · exact .inr ⟨k, e, Nat.le_trans t.size hk⟩
theorem sput_any (g b gw : Nat) (r : Option Nat) (l : List UInt8) (s : SesS) (F : Nat → Prop) (w : World) (h : SesAt w g b s F) (hg : SesGood s) (hw : WAt w gw r l) (h1 : g ≠ gw ∧ r ≠ some g) (h2 : b ≠ gw ∧ r ≠ some b) (hF : ∀ k, F k → k < w.heap.size → k ≠ gw ∧ r ≠ some k) (hsm : l.length ≤ 100) :
    Calls Try.prog 33 #[.pointer (some ⟨g, 0, none⟩), .pointer (some ⟨gw, 0, none⟩)] w (WPost w gw r (l ++ encS s)) := by
  have HN := Lib.hid (snone_any g b s F w h)
  have HS := Lib.hid h.lt_
  have HE := Lib.hid (encS_who h.ok)
  have HWl := Lib.hid (whoS_len s)
  have HWe := Lib.hid (fun zs => whoS_eq h.ok zs)
  have HWm := Lib.hid (show ∀ z ∈ whoS s, z < 9 from fun z hz => List.mem_range.1 (List.mem_filter.1 hz).1)
  have HG := Lib.hid hg
  have HOk := Lib.hid h.ok
  have HW := Lib.hid hw
  have HD := Lib.hid (And.intro h1 (And.intro h2 hF))
  have q0 := h.blk.cell 0
  simp at q0
  have hbl := h.map.choose_spec.1.lt
  have hgl := h.blk.lt
  obtain ⟨f, hm, hs⟩ := h.map
  have hsome : ∀ c : Nat, c < 18446744073709551616 → (f (.int .u64 c)).isSome = (s c).isSome := fun c hc => by
    cases hsc : s c with
    | none => rw [(hs c hc).1 hsc]; rfl
    | some x => obtain ⟨A, k, hf, -⟩ := (hs c hc).2 x.1 x.2 hsc; rw [hf]; rfl
  have hlen := fun ty => hm.size lawU clients clients_nodup (SesM.in_clients (fun i x hx => (HOk.out.who i x hx).2) (fun i hi hx => (hs i hi).1 hx)) clients_keys Try.underlying64 ty
  rw [clients_cnt (fun c hc => hsome c (by omega))] at hlen
  have HM := Lib.hid hm
  have HSo := Lib.hid hsome
  obtain ⟨nW, hnW⟩ : ∃ n, n = (whoS s).length := ⟨_, rfl⟩
  rw [← hnW] at hlen HWl HE
  have HnW := Lib.hid hnW
  have hn9 := HWl.out
  have hwr : IntKind.u64.wrap (nW : Int) = nW := IntWalk.u64_in _ (by omega)
  clear h hg hw h1 h2 hF hm hs hsome hnW
  go_enter Try.func33, Try.ntmps33
  go_wp2_with (first
    | (go_at_call 26; go_must (refine HN.out.mono ?_); rintro e w1 ⟨rfl, rfl⟩)
    | (go_at_call 47; go_must (refine (wnum_lit (WGo.start HW.out) [nW] _ (by simp) _ rfl 1 1 rfl (fun n hn => by simp at hn; omega) (by simp; omega)).mono ?_); rintro e w2 ⟨rfl, g2⟩
       obtain ⟨r2, hw2, t2, hf2⟩ := g2
       have HF2 := Lib.hid hf2
       have HW2 := Lib.hid hw2
       have HT2 := Lib.hid t2
       have HM2 := Lib.hid ((t2.alloc (.cells #[.map (some b)] 64)) |> fun t => HM.out.touch t (by rintro (e | e); exact HD.out.2.1.1 e; exact HD.out.2.1.2 e))
       have HS2 := Lib.hid (HS.out.touch t2 (by rintro (e | e); exact HD.out.1.1 e; exact HD.out.1.2 e) (by rintro (e | e); exact HD.out.2.1.1 e; exact HD.out.2.1.2 e) (fun k hk => by rintro (e | e); exact (HD.out.2.2 k hk.1 hk.2).1 e; exact (HD.out.2.2 k hk.1 hk.2).2 e))
       have q2 := HS2.out.blk.cell 0
       simp at q2
       clear hf2 hw2 t2)
    | (go_at_call 49; go_must (refine (mkeysSes_any (some b) _).mono ?_); rintro e w3 ⟨rfl, rfl⟩)
    | (go_at_call 48; go_must (refine (sortedSes_any _ b 9 f _ (by simp) (by simp) (by exact HM2.out) (by omega)).mono ?_); rintro e w4 ⟨A, c, zs, rfl, z1, z2, z3, z4, z5, z6, z7⟩
       have HZ := Lib.hid (HWe.out zs z1 z2 (fun i => (z3 i).trans ⟨fun ⟨hi, hs⟩ => ⟨hi, by rw [← HSo.out i hi]; exact hs⟩, fun ⟨hi, hs⟩ => ⟨hi, by rw [HSo.out i hi]; exact hs⟩⟩))
       have HR := Lib.hid z6
       have HT4 := Lib.hid z7
       have hzl : zs.length ≤ 9 := by rw [HZ.out]; exact whoS_len s
       clear z1 z2 z3 z4 z5 z6 z7))
  have hzs := HT2.out.size
  have HWA := Lib.hid ((HW2.out.touch ((Touch.refl (fun _ => False) _).alloc (.cells #[.map (some b)] 64)) (fun e => e) (fun _ _ e => e)).touch HT4.out (fun e => e) (fun _ _ e => e))
  have HSA := Lib.hid ((HS2.out.touch ((Touch.refl (fun _ => False) _).alloc (.cells #[.map (some b)] 64)) (fun e => e) (fun e => e) (fun _ _ e => e)).touch HT4.out (fun e => e) (fun e => e) (fun _ _ e => e))
  have HR2 := Lib.hid (show r2 ≠ some g ∧ r2 ≠ some b ∧ ∀ k, F k ∧ k < w.heap.size → r2 ≠ some k from by
    rcases HF2.out with e | ⟨k, e, hk⟩
    · rw [e]; exact ⟨HD.out.1.2, HD.out.2.1.2, fun k hk => (HD.out.2.2 k hk.1 hk.2).2⟩
    · rw [e]; exact ⟨fun e => by injection e; omega, fun e => by injection e; omega, fun j hj e => by injection e; omega⟩)
  have hgwl := HW2.out.lt
  have HRl := Lib.hid HW2.out.ltr
  obtain ⟨LE, hLE⟩ : ∃ LE, LE = l ++ encs [nW] := ⟨_, rfl⟩
  have hLEl : LE.length ≤ 109 := by have := encs_len [nW]; rw [hLE, List.length_append]; simp at this; omega
  rw [← hLE] at HWA
  have HLE := Lib.hid hLE
  clear hLE
  go_loopw [25] (fun i wr => ∃ j : Nat, j ≤ zs.length ∧ i = .int .i64 j ∧ WGo w4 gw r2 (LE ++ (zs.take j).flatMap (rowB s)) wr) (fun i _ => zs.length - (intOf i).toNat)
  case atStart => exact ⟨0, by omega, rfl, by simpa using WGo.start HWA.out⟩
  case round =>
    obtain ⟨j, hj, rfl, hQ⟩ := hrel
    have HQ := Lib.hid hQ
    have HSw := Lib.hid (hQ.ses HSA.out ⟨HD.out.1.1, HR2.out.1⟩ ⟨HD.out.2.1.1, HR2.out.2.1⟩ (fun k hk => ⟨(HD.out.2.2 k hk.1 hk.2).1, HR2.out.2.2 k hk⟩))
    have hql : ((zs.take j).flatMap (rowB s)).length ≤ 9162 := by
      have := rows_len HG.out HOk.out (zs.take j) (fun z hz => HWm.out z (HZ.out ▸ List.mem_of_mem_take hz))
      have h9 : (zs.take j).length ≤ 9 := by simp; omega
      omega
    clear hQ
    by_cases hjk : j < zs.length
    · obtain ⟨i, hi⟩ : ∃ i, zs[j]? = some i := ⟨_, List.getElem?_eq_getElem hjk⟩
      have him : i ∈ zs := List.mem_of_getElem? hi
      have hi9 := HWm.out i (HZ.out ▸ him)
      have his : (s i).isSome = true := (List.mem_filter.1 (show i ∈ whoS s from HZ.out ▸ him)).2
      obtain ⟨⟨q, a⟩, hs⟩ := Option.isSome_iff_exists.1 his
      obtain ⟨hga, hgk⟩ := HG.out i q a hs
      obtain ⟨hq1, hq2⟩ := HOk.out.req i q a hs
      have HX := Lib.hid (show (zs.take (j + 1)).flatMap (rowB s) = (zs.take j).flatMap (rowB s) ++ (encs [i, q] ++ repB a) by
        rw [List.take_add_one, hi, List.flatMap_append]; simp [rowB, hs, encs])
      obtain ⟨A', k', hrd, -, hlk⟩ := HSw.out.map.look1 (c := i) (by omega) hs
      rw [askVal_eq] at hlk
      obtain ⟨ad, off, rfl, -, -, hc⟩ := (HQ.out.rd HR.out (fun k hk => ⟨by simp at hk; omega, fun e => by have := HRl.out k e; simp at hk; omega⟩)).2 (by omega)
      have hcj := hc j (.int .u64 (i : Int)) (by simp [hi, U64])
      have q3 := HSw.out.blk.cell 0
      simp at q3
      obtain ⟨r1, hw1, t1, hf1⟩ := HQ.out
      have hgw1 := hw1.lt
      have hr1 := hw1.ltr
      have HT1 := Lib.hid t1
      have HF1 := Lib.hid hf1
      have HA := Lib.hid (fun C => (Touch.refl (fun _ => False) wr).alloc (.cells C 72))
      have HW1 := Lib.hid (fun C => hw1.touch (HA.out C) (fun e => e) (fun _ _ e => e))
      have HPu := Lib.hid (fun C w1 (hgo : WGo (wr.alloc (.cells C 72)) gw r1 (LE ++ (zs.take j).flatMap (rowB s) ++ encs [i, q]) w1) => pput_go hgo a hga hgk _ A' k' (hrd.touch (HA.out C) (fun _ _ e => e)) (fun k hk => ⟨(HD.out.2.2 k hk.1 hk.2).1, by
          rcases HF1.out with e | ⟨k2, e, hk2⟩
          · rw [e]; exact HR2.out.2.2 k hk
          · rw [e]; intro e; injection e with e; have := hk.2; have := HT4.out.size; simp at this; omega⟩) (fun k hk => by have := hk.2; have := HT4.out.size; have := HT1.out.size; simp at *; omega) (by have := encs_len [i, q]; rw [List.length_append, List.length_append]; simp at this; omega))
      have HCn := Lib.hid (askC_size q a A' k')
      have HC1 := Lib.hid (askC_one q a A' k')
      have HEx := Lib.hid (askC_a q a A' k')
      have b0 := (Blk.new wr 72 (askC q a A' k')).cell 0
      rw [askC_q] at b0
      have HB0 := Lib.hid (Blk.new wr 72 (askC q a A' k'))
      generalize askC q a A' k' = C at *
      have HLn := Lib.hid (rpC_size a A' k')
      generalize rpC a A' k' = L at *
      clear hw1 t1 hf1 hi him his hs hga hgk hrd hc
      go_wp2_with (first
        | (go_at_call 47
           go_must (refine (wnum_lit (WGo.start (HW1.out C)) [i, q] _ (by simp) _ rfl 2 2 rfl (fun n hn => by simp at hn; omega) (by simp only [List.length_append, List.length_cons, List.length_nil]; omega)).mono ?_)
           rintro e w5 ⟨rfl, g5⟩
           have HG5 := Lib.hid g5
           have HB5 := Lib.hid (g5.blk HB0.out (by omega) (fun e => by have := hr1 _ e; omega))
           clear g5)
        | (refine storeC rowAk _ _ rfl rfl _ _ C rfl rfl rfl rfl HCn.out HC1.out ?_)
        | ((with_reducible apply HB5.out.lp (k := 1) rowRy HLn.out HEx.out); exact rfl; exact rfl; exact rfl)
        | (go_at_call 50
           go_must (refine (HPu.out C _ HG5.out).mono ?_)
           rintro e w6 ⟨rfl, g6⟩
           have HG6 := Lib.hid g6
           clear g6))
      go_roundw
      case rel => exact ⟨j + 1, by omega, by go_num, by
        have := WGo.next HT1.out HF1.out (WGo.pre (HA.out C) HG6.out)
        rw [HX.out]; simpa [List.append_assoc] using this⟩
      case measure => simp [intOf]; omega
    · obtain rfl : j = zs.length := by omega
      have HX := Lib.hid (show l ++ encS s = LE ++ (zs.take zs.length).flatMap (rowB s) by rw [List.take_length, HE.out, HLE.out, HZ.out, List.append_assoc]; simp [encs])
      go_wp2
      exact bodyPost_ret (v := .tuple #[]) (results_none (by rfl) _ _ _) rfl ⟨rfl, HX.out ▸ WGo.next (HT2.out.trans ((Touch.refl (fun _ => False) _).alloc _ |>.trans HT4.out (fun _ _ e => e)) (fun _ _ e => e.elim)) HF2.out HQ.out⟩
end Go.Proofs.Ytmgmjehebbggaaa
