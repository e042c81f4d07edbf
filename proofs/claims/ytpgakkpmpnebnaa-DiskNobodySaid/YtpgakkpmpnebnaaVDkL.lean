/- A crash, file by file: plain laws. -/
import Derived.Test.YtpgakkpmpnebnaaVDkE
namespace Go.Proofs.Ytpgakkpmpnebnaa
open Go.RowKit Go.Maps
set_option maxRecDepth 100000
set_option linter.unusedVariables false

theorem sorted_mem_ext {a b : List Fi} (ha : Sorted a) (hb : Sorted b) (h : ∀ x, x ∈ a ↔ x ∈ b) : a = b := by
  refine sorted_ext ha hb fun nm => ?_
  cases hg : getF b nm with
  | none =>
    cases hp : getF a nm with
    | none => rfl
    | some x => obtain ⟨h1, h2⟩ := getF_some hp; exact absurd h2 (getF_none hg x ((h x).1 h1))
  | some x => obtain ⟨h1, h2⟩ := getF_some hg; exact (getF_ext ha).2 ⟨(h x).2 h1, h2⟩
theorem sorted_nm {a b : List Fi} (h : Sorted a) (e : a.map Fi.nm = b.map Fi.nm) : Sorted b := by
  unfold Sorted at *
  have h1 : (a.map Fi.nm).Pairwise (fun x y => ltB x y = true) := List.pairwise_map.2 h
  rw [e] at h1
  exact List.pairwise_map.1 h1
section
variable {done rest : List Fi} {f f' : Fi}
theorem mid_ne (hs : Sorted (done ++ f :: rest)) : (∀ x ∈ done, x.nm ≠ f.nm) ∧ ∀ x ∈ rest, x.nm ≠ f.nm := by
  obtain ⟨h1, h2, h3⟩ := List.pairwise_append.1 hs
  obtain ⟨h4, h5⟩ := List.pairwise_cons.1 h2
  refine ⟨fun x hx e => ?_, fun x hx e => ?_⟩
  · have := h3 x hx f (by simp); rw [e, ltB_irr] at this; cases this
  · have := h4 x hx; rw [e, ltB_irr] at this; cases this
theorem mid_get (hs : Sorted (done ++ f :: rest)) : getF (done ++ f :: rest) f.nm = some f := getF_of hs (by simp)
theorem mid_put (hs : Sorted (done ++ f :: rest)) (hn : f'.nm = f.nm) : putF (done ++ f :: rest) f' = done ++ f' :: rest ∧ Sorted (done ++ f' :: rest) := by
  have h2 : Sorted (done ++ f' :: rest) := sorted_nm hs (by simp [hn])
  refine ⟨sorted_mem_ext (putF_sorted hs f') h2 fun x => ?_, h2⟩
  obtain ⟨h3, h4⟩ := mid_ne hs
  rw [putF_mem, hn]
  constructor
  · rintro (rfl | ⟨hx, hne⟩)
    · simp
    · rcases List.mem_append.1 hx with h | h
      · simp [h]
      · rcases List.mem_cons.1 h with rfl | h
        · exact absurd rfl hne
        · simp [h]
  · intro hx
    rcases List.mem_append.1 hx with h | h
    · exact .inr ⟨by simp [h], h3 x h⟩
    · rcases List.mem_cons.1 h with rfl | h
      · exact .inl rfl
      · exact .inr ⟨by simp [h], h4 x h⟩
theorem mid_sub (hs : Sorted (done ++ f :: rest)) : Sorted (done ++ rest) := hs.sublist (List.Sublist.append_left (List.sublist_cons_self f rest) done)
theorem mid_out (hs : Sorted (done ++ f :: rest)) : outF (done ++ f :: rest) f.nm = done ++ rest := by
  refine sorted_mem_ext (outF_sorted hs _) (mid_sub hs) fun x => ?_
  obtain ⟨h3, h4⟩ := mid_ne hs
  rw [outF, List.mem_filter]
  constructor
  · rintro ⟨hx, hne⟩
    rcases List.mem_append.1 hx with h | h
    · simp [h]
    · rcases List.mem_cons.1 h with rfl | h
      · simp at hne
      · simp [h]
  · intro hx
    rcases List.mem_append.1 hx with h | h
    · exact ⟨by simp [h], by simpa using h3 x h⟩
    · exact ⟨by simp [h], by simpa using h4 x h⟩
end
theorem tornF_len (l : List UInt8) (t : Tr) : (tornF l t).length ≤ l.length := by
  unfold tornF
  simp only
  split
  · rename_i h
    simp at h ⊢
    omega
  · simp; omega
/-- What a file is behind a crash. -/
def cutA (f : Fi) (t : Tr) : List UInt8 := f.al.take f.kp ++ tornF (f.al.drop f.kp) t
theorem cutA_len (f : Fi) (t : Tr) (h : f.kp ≤ f.al.length) : (cutA f t).length ≤ f.al.length := by
  have := tornF_len (f.al.drop f.kp) t
  unfold cutA
  simp at this ⊢
  omega
theorem crash_torn {f : Fi} {r : List Fi} {ts : List Tr} (h : f.kp < f.al.length) : crashF (f :: r) ts = (if 0 < (cutA f (ts.headD ⟨0, 0⟩)).length then [⟨f.nm, cutA f (ts.headD ⟨0, 0⟩), (cutA f (ts.headD ⟨0, 0⟩)).length⟩] else []) ++ crashF r ts.tail := by
  rw [crashF, if_pos h]
  unfold cutA
  simp only
  split <;> rfl
theorem crash_whole {f : Fi} {r : List Fi} {ts : List Tr} (h : ¬ f.kp < f.al.length) : crashF (f :: r) ts = (if 0 < f.al.length then [f] else []) ++ crashF r ts := by
  rw [crashF, if_neg h]
  split <;> rfl
theorem totF_mid (done rest : List Fi) (f : Fi) : totF (done ++ f :: rest) = totF done + f.al.length + totF rest := by simp [totF]; omega
theorem totF_app (done rest : List Fi) : totF (done ++ rest) = totF done + totF rest := by simp [totF]
end Go.Proofs.Ytpgakkpmpnebnaa
