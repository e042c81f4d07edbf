/- The reference's disk: Find, Free, Read. Strings. -/
import Derived.Test.YtpgakkpmpnebnaaVDkP
namespace Go.Proofs.Ytpgakkpmpnebnaa
open Go.RowKit Go.Maps
set_option maxHeartbeats 4000000
set_option maxRecDepth 100000
set_option linter.unusedVariables false
attribute [local irreducible] wpPlan

theorem st_eq (a b : List UInt8) (w : World) : (binOp .eql 9 (St a) (St b)).run Try.prog w = .ok (.bool (a == b)) w := by simp [go_sem]
theorem st_lss (a b : List UInt8) (w : World) : (binOp .lss 9 (St a) (St b)).run Try.prog w = .ok (.bool (ltB a b)) w := by simp [go_sem]
theorem bytes_app (a b : List UInt8) : (⟨a.toArray⟩ ++ ⟨b.toArray⟩ : ByteArray) = ⟨(a ++ b).toArray⟩ := by
  apply ByteArray.ext
  simp
theorem st_add (a b : List UInt8) (h : a.length + b.length ≤ 9223372036854775807) (w : World) : (binOp .add 9 (St a) (St b)).run Try.prog w = .ok (St (a ++ b)) w := by
  rw [binOp_string_add, run_string_add_sum _ _ _ (by rw [stSize, stSize]; exact h), bytes_app]
theorem bytes_ext (a : List UInt8) (i j : Nat) : (⟨a.toArray⟩ : ByteArray).extract i j = ⟨((a.take j).drop i).toArray⟩ := by
  apply ByteArray.ext
  simp [List.drop_take]
theorem st_h (a : List UInt8) (k : Nat) (hk : k ≤ a.length) (w : World) : (Instr.slice 9 (St a) none (some (.int .i64 (k : Int))) none).run Try.prog w = .ok (St (a.take k)) w := by
  rw [run_slice_string_h w _ _ Try.underlying9 _ _ (by omega) (by rw [stSize]; omega), bytes_ext]
  simp
theorem st_l (a : List UInt8) (k : Nat) (hk : k ≤ a.length) (w : World) : (Instr.slice 9 (St a) (some (.int .i64 (k : Int))) none none).run Try.prog w = .ok (St (a.drop k)) w := by
  rw [run_slice_string_l w _ _ Try.underlying9 _ _ (by omega) (by rw [stSize]; omega), bytes_ext, stSize]
  simp
theorem find_first {fs : List Fi} {nm : List UInt8} {i : Nat} {f : Fi} (hf : fs[i]? = some f) (hn : f.nm = nm) (h : ∀ j x, j < i → fs[j]? = some x → x.nm ≠ nm) : getF fs nm = some f := by
  obtain ⟨hi, he⟩ := List.getElem?_eq_some_iff.1 hf
  unfold getF
  rw [← List.take_append_drop i fs, List.find?_append, List.drop_eq_getElem_cons hi, he]
  have : (fs.take i).find? (fun f => f.nm == nm) = none := List.find?_eq_none.2 fun x hx => by
    obtain ⟨j, hj, e⟩ := List.mem_take_iff_getElem.1 hx
    have := h j x (by omega) (by rw [List.getElem?_eq_getElem (by omega), e])
    simpa using this
  rw [this]
  simp [hn]
theorem find_none {fs : List Fi} {nm : List UInt8} (h : ∀ j x, j < fs.length → fs[j]? = some x → x.nm ≠ nm) : getF fs nm = none := by
  refine List.find?_eq_none.2 fun x hx => ?_
  obtain ⟨j, hj, e⟩ := List.getElem_of_mem hx
  have := h j x hj (by rw [List.getElem?_eq_getElem hj, e])
  simpa using this
/-- What Find tells. -/
def FndP (fs : List Fi) (nm : List UInt8) (w : World) (e : Ending) (w' : World) : Prop :=
  Touch (fun _ => False) w w' ∧ ((getF fs nm = none ∧ e = .returned (.int .i64 (-1))) ∨ ∃ (i : Nat) (f : Fi), e = .returned (.int .i64 i) ∧ i < fs.length ∧ fs[i]? = some f ∧ getF fs nm = some f)
theorem ffind_any (D : Dk) (F : Nat → Prop) (A : Option Addr) (c : Nat) (nm : List UInt8) (w : World) (hr : RfF w F A D.fs) (hn : D.fs.length ≤ 128) :
    Calls Try.prog 107 #[.agg (rdA A c D), St nm] w (FndP D.fs nm w) := by
  obtain ⟨room, fs, down, armed, steps⟩ := D
  simp only at hr hn
  have HR := Lib.hid hr
  unfold rdA
  simp only
  clear hr
  go_enter Try.func107, Try.ntmps107
  go_wp2_with fail
  obtain ⟨w1, hw1⟩ : ∃ w1, w1 = w.alloc (.cells #[.int .i64 room, .slice A fs.length c, .bool down, .int .i64 armed, .int .u64 (steps : Int)] 67) := ⟨_, rfl⟩
  have HT1 := Lib.hid (show Touch (fun _ => False) w w1 from hw1 ▸ (Touch.refl (fun _ => False) w).alloc _)
  have hb1 : Blk w1 w.heap.size 67 #[.int .i64 room, .slice A fs.length c, .bool down, .int .i64 armed, .int .u64 (steps : Int)] := hw1 ▸ Blk.new w _ _
  have q1 := hb1.cell 1
  simp at q1
  have HR1 := Lib.hid (HR.out.touch HT1.out (fun _ _ e => e))
  rw [← hw1]
  clear hw1 hb1
  go_loopw [5] (fun s wr => ∃ i : Nat, i ≤ fs.length ∧ s = .int .i64 i ∧ (∀ j x, j < i → fs[j]? = some x → x.nm ≠ nm) ∧ wr = w1) (fun s _ => fs.length - (intOf s).toNat)
  case atStart => exact ⟨0, by omega, rfl, fun j x hj => absurd hj (by omega), rfl⟩
  case round =>
    obtain ⟨i, hi, rfl, hno, rfl⟩ := hrel
    by_cases hin : i < fs.length
    · obtain ⟨f, hf⟩ : ∃ f, fs[i]? = some f := ⟨_, List.getElem?_eq_getElem hin⟩
      obtain ⟨g, off, rfl, hg, -, h0, -, -⟩ := HR1.out.at_ hf
      have HNo := Lib.hid hno
      have HF := Lib.hid hf
      clear hno hf
      cases he : f.nm == nm
      · have HE := Lib.hid he
        go_wp2
        go_roundw
        case rel =>
          refine ⟨i + 1, by omega, by simp, fun j x hj hx => ?_, trivial⟩
          rcases (by omega : j < i ∨ j = i) with h | rfl
          · exact HNo.out j x h hx
          · rw [HF.out] at hx; injection hx with hx; subst hx; simpa using HE.out
        case measure => simp [intOf]; omega
      · have HE := Lib.hid he
        go_wp2
        go_ret
        exact ⟨HT1.out, .inr ⟨i, f, rfl, hin, HF.out, find_first HF.out (by simpa using HE.out) HNo.out⟩⟩
    · obtain rfl : i = fs.length := by omega
      have HNo := Lib.hid hno
      clear hno
      go_wp2
      go_ret
      exact ⟨HT1.out, .inl ⟨find_none HNo.out, rfl⟩⟩
theorem ffind_none (D : Dk) (F : Nat → Prop) (A : Option Addr) (c : Nat) (nm : List UInt8) (w : World) (hr : RfF w F A D.fs) (hn : D.fs.length ≤ 128) (hg : getF D.fs nm = none) :
    Calls Try.prog 107 #[.agg (rdA A c D), St nm] w fun e w' => e = .returned (.int .i64 (-1)) ∧ Touch (fun _ => False) w w' :=
  (ffind_any D F A c nm w hr hn).mono fun e w' h => by
    rcases h.2 with h' | ⟨i, f, -, -, -, h'⟩
    · exact ⟨h'.2, h.1⟩
    · rw [hg] at h'; cases h'
theorem ffind_some (D : Dk) (F : Nat → Prop) (A : Option Addr) (c : Nat) (nm : List UInt8) (w : World) (hr : RfF w F A D.fs) (hn : D.fs.length ≤ 128) {f : Fi} (hg : getF D.fs nm = some f) :
    Calls Try.prog 107 #[.agg (rdA A c D), St nm] w fun e w' => ∃ i : Nat, e = .returned (.int .i64 i) ∧ i < D.fs.length ∧ D.fs[i]? = some f ∧ Touch (fun _ => False) w w' :=
  (ffind_any D F A c nm w hr hn).mono fun e w' h => by
    rcases h.2 with h' | ⟨i, f', h1, h2, h3, h'⟩
    · rw [hg] at h'; cases h'.1
    · rw [hg] at h'; injection h' with h'; subst h'; exact ⟨i, h1, h2, h3, h.1⟩
theorem ffree_any (D : Dk) (F : Nat → Prop) (A : Option Addr) (c : Nat) (w : World) (hr : RfF w F A D.fs) (hok : D.Ok) :
    Calls Try.prog 38 #[.agg (rdA A c D)] w fun e w' => e = .returned (.int .i64 D.free) ∧ Touch (fun _ => False) w w' := by
  have hro := hok.room
  have hto := hok.tot
  have hn := hok.n
  have HV := Lib.hid (show D.free = if D.room - (totF D.fs : Int) < 0 then 0 else D.room - (totF D.fs : Int) by unfold Dk.free; split <;> omega)
  clear hok
  obtain ⟨room, fs, down, armed, steps⟩ := D
  simp only at hr hn hro hto HV
  have HR := Lib.hid hr
  unfold rdA
  simp only
  clear hr
  go_enter Try.func38, Try.ntmps38
  go_wp2_with fail
  obtain ⟨w1, hw1⟩ : ∃ w1, w1 = w.alloc (.cells #[.int .i64 room, .slice A fs.length c, .bool down, .int .i64 armed, .int .u64 (steps : Int)] 67) := ⟨_, rfl⟩
  have HT1 := Lib.hid (show Touch (fun _ => False) w w1 from hw1 ▸ (Touch.refl (fun _ => False) w).alloc _)
  have hb1 : Blk w1 w.heap.size 67 #[.int .i64 room, .slice A fs.length c, .bool down, .int .i64 armed, .int .u64 (steps : Int)] := hw1 ▸ Blk.new w _ _
  have q1 := hb1.cell 1
  simp at q1
  have HR1 := Lib.hid (HR.out.touch HT1.out (fun _ _ e => e))
  rw [← hw1]
  clear hw1 hb1
  go_loopw [3, 4] (fun n s wr => ∃ i : Nat, i ≤ fs.length ∧ s = .int .i64 i ∧ n = .int .i64 (room - (totF (fs.take i) : Int)) ∧ wr = w1) (fun _ s _ => fs.length - (intOf s).toNat)
  case atStart => exact ⟨0, by omega, rfl, by simp [totF], rfl⟩
  case round =>
    obtain ⟨i, hi, rfl, rfl, rfl⟩ := hrel
    by_cases hin : i < fs.length
    · obtain ⟨f, hf⟩ : ∃ f, fs[i]? = some f := ⟨_, List.getElem?_eq_getElem hin⟩
      obtain ⟨g, off, rfl, hg, -, -, h1, -⟩ := HR1.out.at_ hf
      have htk : totF (fs.take (i + 1)) = totF (fs.take i) + f.al.length := by rw [List.take_add_one, hf]; simp [totF]
      have hle : totF (fs.take (i + 1)) ≤ totF fs := by
        conv => rhs; rw [← List.take_append_drop (i + 1) fs]
        rw [totF_app]; omega
      have hwr : IntKind.i64.wrap (room - (totF (fs.take i) : Int) - (f.al.length : Int)) = room - (totF (fs.take i) : Int) - (f.al.length : Int) := IntWalk.i64_in _ (by omega)
      have hs := stSize f.al
      have HTk := Lib.hid htk
      clear hf htk hle
      go_wp2
      go_roundw
      case rel => exact ⟨i + 1, by omega, by simp, by rw [HTk.out]; congr 1; simp; omega, trivial⟩
      case measure => simp [intOf]; omega
    · obtain rfl : i = fs.length := by omega
      rw [List.take_length]
      by_cases h0 : room - (totF fs : Int) < 0
      · rw [if_pos h0] at HV
        go_wp2
        go_ret
        exact ⟨by rw [HV.out]; rfl, HT1.out⟩
      · rw [if_neg h0] at HV
        go_wp2
        go_ret
        exact ⟨by rw [HV.out]; rfl, HT1.out⟩
theorem fdread_any (D : Dk) (F : Nat → Prop) (A : Option Addr) (c : Nat) (nm : List UInt8) (w : World) (hr : RfF w F A D.fs) (hn : D.fs.length ≤ 128) :
    Calls Try.prog 80 #[.agg (rdA A c D), St nm] w fun e w' => e = .returned (.tuple #[St (D.read nm).1, .int .i64 (D.read nm).2]) ∧ Touch (fun _ => False) w w' := by
  have ta := (Touch.refl (fun _ => False) w).alloc (.cells (rdA A c D) 67)
  have hb := Blk.new w 67 (rdA A c D)
  cases hd : D.down
  · have hrd : rdA A c D = #[.int .i64 D.room, .slice A D.fs.length c, .bool false, .int .i64 D.armed, .int .u64 (D.steps : Int)] := by rw [rdA, hd]
    cases hg : getF D.fs nm with
    | none =>
      have HV := Lib.hid (show D.read nm = ([], 31) by rw [Dk.read, if_neg (by rw [hd]; simp), hg])
      have HG := Lib.hid (ffind_none D F A c nm _ (hr.touch ta (fun _ _ e => e)) hn hg)
      have HTa := Lib.hid ta
      rw [hrd] at HG HTa ⊢
      clear hr ta hd hg hb hrd
      go_enter Try.func80, Try.ntmps80
      go_wp2_with (go_at_call 107; go_must (refine HG.out.mono ?_); rintro e w2 ⟨rfl, t2⟩; have HT2 := Lib.hid (HTa.out.trans t2 (fun _ _ e => e)); clear t2)
      refine bodyPost_ret (v := .tuple #[St [], .int .i64 31]) (by simp [results, Try.results80, go_sem]) rfl ?_
      exact ⟨by rw [HV.out], HT2.out⟩
    | some f =>
      have HV := Lib.hid (show D.read nm = (f.al, 0) by rw [Dk.read, if_neg (by rw [hd]; simp), hg])
      have HG := Lib.hid (ffind_some D F A c nm _ (hr.touch ta (fun _ _ e => e)) hn hg)
      have HTa := Lib.hid ta
      have HB := Lib.hid hb
      have HR := Lib.hid hr
      rw [hrd] at HG HTa HB ⊢
      clear hr ta hd hg hb hrd
      go_enter Try.func80, Try.ntmps80
      go_wp2_with (go_at_call 107; go_must (refine HG.out.mono ?_); rintro e w2 ⟨i, rfl, hi, hf, t2⟩
                   have HT2 := Lib.hid (HTa.out.trans t2 (fun _ _ e => e))
                   have q1 := (t2.blk HB.out (fun e => e)).cell 1
                   simp at q1
                   obtain ⟨g, off, rfl, hg, -, -, h1, -⟩ := (HR.out.touch HT2.out (fun _ _ e => e)).at_ hf
                   clear t2 hf)
      refine bodyPost_ret (v := .tuple #[St f.al, .int .i64 0]) (by simp [results, Try.results80, go_sem]) rfl ?_
      exact ⟨by rw [HV.out], HT2.out⟩
  · have HV := Lib.hid (show D.read nm = ([], 50) by rw [Dk.read, if_pos hd])
    have hrd : rdA A c D = #[.int .i64 D.room, .slice A D.fs.length c, .bool true, .int .i64 D.armed, .int .u64 (D.steps : Int)] := by rw [rdA, hd]
    have HTa := Lib.hid ta
    rw [hrd] at HTa ⊢
    clear hr ta hd hrd hb
    go_enter Try.func80, Try.ntmps80
    go_wp2
    refine bodyPost_ret (v := .tuple #[St [], .int .i64 50]) (by simp [results, Try.results80, go_sem]) rfl ?_
    exact ⟨by rw [HV.out], HTa.out⟩
end Go.Proofs.Ytpgakkpmpnebnaa
