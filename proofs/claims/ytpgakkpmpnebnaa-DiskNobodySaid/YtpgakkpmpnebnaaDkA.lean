/- Disks in plain words: files by their names, rising; what each call does. No program in sight. -/
import Derived.Test.YtpgakkpmpnebnaaMem
namespace Go.Proofs.Ytpgakkpmpnebnaa
set_option maxHeartbeats 1000000
set_option maxRecDepth 100000
set_option linter.unusedVariables false

/-- A file: its name, its bytes, how many of them are kept. -/
structure Fi where
  nm : List UInt8
  al : List UInt8
  kp : Nat
/-- A disk. -/
structure Dk where
  room : Int
  fs : List Fi
  down : Bool
  armed : Int
  steps : Nat
/-- A torn tail: how much of it stays, what turns in it. -/
structure Tr where
  keep : Nat
  turn : Nat
abbrev ltB : List UInt8 → List UInt8 → Bool := Go.Op.bytesLess
theorem ltB_irr : ∀ a, ltB a a = false
  | [] => rfl
  | a :: x => by
    show (decide (a < a) || (a == a && ltB x x)) = false
    rw [ltB_irr x]; simp
theorem ltB_trans : ∀ {a b c}, ltB a b = true → ltB b c = true → ltB a c = true
  | x, [], _, h, _ => by have : ltB x [] = false := (by cases x <;> rfl)
                         rw [this] at h; cases h
  | _, y :: z, [], _, h => by have : ltB (y :: z) [] = false := rfl
                              rw [this] at h; cases h
  | [], _ :: _, _ :: _, _, _ => rfl
  | a :: x, b :: y, c :: z, h1, h2 => by
    simp only [ltB, Go.Op.bytesLess, Bool.or_eq_true, Bool.and_eq_true, decide_eq_true_eq, beq_iff_eq] at h1 h2 ⊢
    rcases h1 with h1 | ⟨e1, h1⟩ <;> rcases h2 with h2 | ⟨e2, h2⟩
    · exact .inl (UInt8.lt_trans h1 h2)
    · subst e2; exact .inl h1
    · subst e1; exact .inl h2
    · subst e1 e2; exact .inr ⟨rfl, ltB_trans h1 h2⟩
theorem ltB_tri : ∀ a b, ltB a b = true ∨ a = b ∨ ltB b a = true
  | [], [] => .inr (.inl rfl)
  | [], _ :: _ => .inl rfl
  | _ :: _, [] => .inr (.inr rfl)
  | a :: x, b :: y => by
    simp only [ltB, Go.Op.bytesLess, Bool.or_eq_true, Bool.and_eq_true, decide_eq_true_eq, beq_iff_eq]
    rcases UInt8.lt_or_eq_of_le (a := a) (b := b) |> fun h => Nat.lt_trichotomy a.toNat b.toNat with h | h | h
    · exact .inl (.inl (UInt8.lt_iff_toNat_lt.2 h))
    · have e : a = b := UInt8.toNat_inj.1 h
      subst e
      rcases ltB_tri x y with h | h | h
      · exact .inl (.inr ⟨rfl, h⟩)
      · exact .inr (.inl (by rw [h]))
      · exact .inr (.inr (.inr ⟨rfl, h⟩))
    · exact .inr (.inr (.inl (UInt8.lt_iff_toNat_lt.2 h)))
def Sorted (fs : List Fi) : Prop := fs.Pairwise fun a b => ltB a.nm b.nm = true
/-- The file of a name. -/
def getF (fs : List Fi) (nm : List UInt8) : Option Fi := fs.find? fun f => f.nm == nm
def outF (fs : List Fi) (nm : List UInt8) : List Fi := fs.filter fun f => !(f.nm == nm)
def insF (f : Fi) : List Fi → List Fi
  | [] => [f]
  | e :: r => if ltB f.nm e.nm = true then f :: e :: r else e :: insF f r
def putF (fs : List Fi) (f : Fi) : List Fi := insF f (outF fs f.nm)
def totF (fs : List Fi) : Nat := (fs.map fun f => f.al.length).sum
def Dk.free (d : Dk) : Int := max (d.room - (totF d.fs : Int)) 0
theorem outF_sorted {fs : List Fi} (h : Sorted fs) (nm : List UInt8) : Sorted (outF fs nm) := List.Pairwise.filter _ h
theorem insF_mem {f x : Fi} : ∀ {fs : List Fi}, x ∈ insF f fs ↔ x = f ∨ x ∈ fs
  | [] => by simp [insF]
  | e :: r => by
    unfold insF
    split
    · simp
    · simp only [List.mem_cons, insF_mem (fs := r)]
      constructor
      · rintro (h | h | h); exact .inr (.inl h); exact .inl h; exact .inr (.inr h)
      · rintro (h | h | h); exact .inr (.inl h); exact .inl h; exact .inr (.inr h)
theorem insF_sorted {f : Fi} : ∀ {fs : List Fi}, Sorted fs → (∀ e ∈ fs, e.nm ≠ f.nm) → Sorted (insF f fs)
  | [], _, _ => by simp [insF, Sorted]
  | e :: r, h, hn => by
    obtain ⟨h1, h2⟩ := List.pairwise_cons.1 h
    unfold insF
    split
    · rename_i hl
      refine List.pairwise_cons.2 ⟨fun x hx => ?_, h⟩
      rcases List.mem_cons.1 hx with rfl | hx
      · exact hl
      · exact ltB_trans hl (h1 x hx)
    · rename_i hl
      have hef : ltB e.nm f.nm = true := by
        rcases ltB_tri f.nm e.nm with h' | h' | h'
        · exact absurd h' hl
        · exact absurd h'.symm (hn e (by simp))
        · exact h'
      refine List.pairwise_cons.2 ⟨fun x hx => ?_, insF_sorted h2 (fun y hy => hn y (by simp [hy]))⟩
      rcases insF_mem.1 hx with rfl | hx
      · exact hef
      · exact h1 x hx
theorem putF_sorted {fs : List Fi} (h : Sorted fs) (f : Fi) : Sorted (putF fs f) :=
  insF_sorted (outF_sorted h _) (fun e he => by have := (List.mem_filter.1 he).2; simpa using this)
theorem sorted_uniq {fs : List Fi} (h : Sorted fs) {a b : Fi} (ha : a ∈ fs) (hb : b ∈ fs) (e : a.nm = b.nm) : a = b := by
  induction fs with
  | nil => cases ha
  | cons x r ih =>
    obtain ⟨h1, h2⟩ := List.pairwise_cons.1 h
    rcases List.mem_cons.1 ha with e1 | h3 <;> rcases List.mem_cons.1 hb with e2 | h4
    · rw [e1, e2]
    · have := h1 b h4; rw [← e1, e, ltB_irr] at this; cases this
    · have := h1 a h3; rw [← e2, ← e, ltB_irr] at this; cases this
    · exact ih h2 h3 h4
theorem getF_some {fs : List Fi} {nm : List UInt8} {f : Fi} (h : getF fs nm = some f) : f ∈ fs ∧ f.nm = nm :=
  ⟨List.mem_of_find?_eq_some h, by have := List.find?_some h; simpa using this⟩
theorem getF_none {fs : List Fi} {nm : List UInt8} (h : getF fs nm = none) : ∀ f ∈ fs, f.nm ≠ nm := fun f hf => by
  have := List.find?_eq_none.1 h f hf; simpa using this
theorem getF_of {fs : List Fi} (h : Sorted fs) {f : Fi} (hf : f ∈ fs) : getF fs f.nm = some f := by
  cases hg : getF fs f.nm with
  | none => exact absurd rfl (getF_none hg f hf)
  | some x => obtain ⟨h1, h2⟩ := getF_some hg; rw [sorted_uniq h h1 hf h2]
theorem getF_ext {fs : List Fi} (h : Sorted fs) {nm : List UInt8} {f : Fi} : getF fs nm = some f ↔ f ∈ fs ∧ f.nm = nm :=
  ⟨getF_some, fun ⟨h1, h2⟩ => h2 ▸ getF_of h h1⟩
theorem putF_mem {fs : List Fi} {f x : Fi} : x ∈ putF fs f ↔ x = f ∨ (x ∈ fs ∧ x.nm ≠ f.nm) := by
  rw [putF, insF_mem, outF, List.mem_filter]; simp
theorem getF_put {fs : List Fi} (h : Sorted fs) (f : Fi) (nm : List UInt8) : getF (putF fs f) nm = if nm = f.nm then some f else getF fs nm := by
  by_cases e : nm = f.nm
  · rw [if_pos e, getF_ext (putF_sorted h f)]; exact ⟨putF_mem.2 (.inl rfl), e.symm⟩
  · rw [if_neg e]
    cases hg : getF fs nm with
    | none =>
      cases hp : getF (putF fs f) nm with
      | none => rfl
      | some x =>
        obtain ⟨h1, h2⟩ := getF_some hp
        rcases putF_mem.1 h1 with rfl | ⟨h1, -⟩
        · exact absurd h2.symm e
        · exact absurd h2 (getF_none hg x h1)
    | some x =>
      obtain ⟨h1, h2⟩ := getF_some hg
      exact (getF_ext (putF_sorted h f)).2 ⟨putF_mem.2 (.inr ⟨h1, fun e' => e (h2.symm.trans e')⟩), h2⟩
theorem getF_out {fs : List Fi} (h : Sorted fs) (n nm : List UInt8) : getF (outF fs n) nm = if nm = n then none else getF fs nm := by
  by_cases e : nm = n
  · rw [if_pos e]
    cases hp : getF (outF fs n) nm with
    | none => rfl
    | some x =>
      obtain ⟨h1, h2⟩ := getF_some hp
      have := (List.mem_filter.1 h1).2
      simp at this
      exact absurd (h2.trans e) this
  · rw [if_neg e]
    cases hg : getF fs nm with
    | none =>
      cases hp : getF (outF fs n) nm with
      | none => rfl
      | some x =>
        obtain ⟨h1, h2⟩ := getF_some hp
        exact absurd h2 (getF_none hg x (List.mem_filter.1 h1).1)
    | some x =>
      obtain ⟨h1, h2⟩ := getF_some hg
      refine (getF_ext (outF_sorted h n)).2 ⟨List.mem_filter.2 ⟨h1, ?_⟩, h2⟩
      simp [h2, e]
/-- Two lists of files with the same under each name are the same. -/
theorem sorted_ext : ∀ {a b : List Fi}, Sorted a → Sorted b → (∀ nm, getF a nm = getF b nm) → a = b := by
  have key : ∀ (a b : List Fi), Sorted a → Sorted b → (∀ x, x ∈ a ↔ x ∈ b) → a = b := by
    intro a
    induction a with
    | nil =>
      intro b _ _ h
      cases b with
      | nil => rfl
      | cons y b => exact absurd ((h y).2 (by simp)) (by simp)
    | cons x a ih =>
      intro b ha hb h
      cases b with
      | nil => exact absurd ((h x).1 (by simp)) (by simp)
      | cons y b =>
        obtain ⟨h1, h2⟩ := List.pairwise_cons.1 ha
        obtain ⟨h3, h4⟩ := List.pairwise_cons.1 hb
        have hxy : x = y := by
          rcases List.mem_cons.1 ((h x).1 (by simp)) with e | e
          · exact e
          · rcases List.mem_cons.1 ((h y).2 (by simp)) with e' | e'
            · exact e'.symm
            · have := ltB_trans (h1 y e') (h3 x e); rw [ltB_irr] at this; cases this
        subst hxy
        congr 1
        refine ih b h2 h4 fun z => ⟨fun hz => ?_, fun hz => ?_⟩
        · rcases List.mem_cons.1 ((h z).1 (List.mem_cons_of_mem _ hz)) with e | e
          · subst e; have := h1 z hz; rw [ltB_irr] at this; cases this
          · exact e
        · rcases List.mem_cons.1 ((h z).2 (List.mem_cons_of_mem _ hz)) with e | e
          · subst e; have := h3 z hz; rw [ltB_irr] at this; cases this
          · exact e
  intro a b ha hb h
  refine key a b ha hb fun x => ?_
  have h1 := getF_ext ha (nm := x.nm) (f := x)
  have h2 := getF_ext hb (nm := x.nm) (f := x)
  rw [h x.nm] at h1
  constructor
  · intro hx; exact (h2.1 (h1.2 ⟨hx, rfl⟩)).1
  · intro hx; exact (h1.1 (h2.2 ⟨hx, rfl⟩)).1

/-- A step is counted; false: the power goes at it. -/
def Dk.step (d : Dk) : Dk × Bool :=
  if d.armed = 0 then ({ d with steps := d.steps + 1, down := true, armed := -1 }, false)
  else if 0 < d.armed then ({ d with steps := d.steps + 1, armed := d.armed - 1 }, true)
  else ({ d with steps := d.steps + 1 }, true)
def namedF (nm : List UInt8) : Bool := decide (1 ≤ nm.length) && decide (nm.length ≤ 16)
def Dk.append (d : Dk) (nm b : List UInt8) : Dk × Int :=
  if d.down = true then (d, 50) else if namedF nm = false then (d, 2)
  else if ((getF d.fs nm).isNone = true ∧ 128 ≤ d.fs.length) ∨ d.free < (b.length : Int) then (d, 30)
  else
    let f := (getF d.fs nm).getD ⟨nm, [], 0⟩
    let s := ({ d with fs := putF d.fs { f with al := f.al ++ b } } : Dk).step
    (s.1, if s.2 = true then 0 else 50)
def Dk.sync (d : Dk) (nm : List UInt8) : Dk × Int :=
  if d.down = true then (d, 50) else match getF d.fs nm with
  | none => (d, 31)
  | some f => if d.step.2 = true then ({ d.step.1 with fs := putF d.fs { f with kp := f.al.length } }, 0) else (d.step.1, 50)
def Dk.cut (d : Dk) (nm : List UInt8) (n : Int) : Dk × Int :=
  if d.down = true then (d, 50) else match getF d.fs nm with
  | none => (d, 31)
  | some f => if n < 0 ∨ (f.al.length : Int) < n then (d, 2) else if d.step.2 = true then ({ d.step.1 with fs := putF d.fs { f with al := f.al.take n.toNat, kp := min f.kp n.toNat } }, 0) else (d.step.1, 50)
def Dk.remove (d : Dk) (nm : List UInt8) : Dk × Int :=
  if d.down = true then (d, 50) else match getF d.fs nm with
  | none => (d, 31)
  | some _ => if d.step.2 = true then ({ d.step.1 with fs := outF d.fs nm }, 0) else (d.step.1, 50)
def Dk.move (d : Dk) (nm to_ : List UInt8) : Dk × Int :=
  if d.down = true then (d, 50) else match getF d.fs nm with
  | none => (d, 31)
  | some f => if namedF to_ = false then (d, 2) else if d.step.2 = true then ({ d.step.1 with fs := putF (outF d.fs nm) { f with nm := to_ } }, 0) else (d.step.1, 50)
def Dk.read (d : Dk) (nm : List UInt8) : List UInt8 × Int :=
  if d.down = true then ([], 50) else match getF d.fs nm with
  | none => ([], 31)
  | some f => (f.al, 0)
def Dk.arm (d : Dk) (n : Int) : Dk × Int := if d.down = true then (d, 50) else if n < 0 then (d, 2) else ({ d with armed := n }, 0)
def xor8 (a : UInt8) (n : Nat) : UInt8 := a ^^^ UInt8.ofNat n
/-- What stays of loose bytes. -/
def tornF (l : List UInt8) (t : Tr) : List UInt8 :=
  let b := l.take (t.keep % (l.length + 1))
  let n := b.length
  if 3 ≤ n then b.take (n - 3) ++ [xor8 (b.getD (n - 3) 0) (t.turn / 65536), xor8 (b.getD (n - 2) 0) (t.turn / 256), xor8 (b.getD (n - 1) 0) t.turn] else b
/-- The power goes: the files, one by one; those who are torn take a tear each. -/
def crashF : List Fi → List Tr → List Fi
  | [], _ => []
  | f :: r, ts =>
    if f.kp < f.al.length then
      let a := f.al.take f.kp ++ tornF (f.al.drop f.kp) (ts.headD ⟨0, 0⟩)
      if 0 < a.length then ⟨f.nm, a, a.length⟩ :: crashF r ts.tail else crashF r ts.tail
    else if 0 < f.al.length then f :: crashF r ts else crashF r ts
def Dk.crash (d : Dk) (ts : List Tr) : Dk := { d with down := true, armed := -1, fs := crashF d.fs ts }
def Dk.boot (d : Dk) : Dk := { d with down := false, armed := -1 }
def Dk.resize (d : Dk) (n : Int) : Dk × Int := if d.down = true then (d, 50) else if n < 0 ∨ 1048576 < n then (d, 2) else ({ d with room := n }, 0)
structure Dk.Ok (d : Dk) : Prop where
  so : Sorted d.fs
  nm : ∀ f ∈ d.fs, 1 ≤ f.nm.length ∧ f.nm.length ≤ 16 ∧ f.kp ≤ f.al.length
  n : d.fs.length ≤ 128
  tot : totF d.fs ≤ 1048576
  room : 0 ≤ d.room ∧ d.room ≤ 1048576
  armed : -1 ≤ d.armed ∧ d.armed ≤ 9223372036854775807
end Go.Proofs.Ytpgakkpmpnebnaa
