/- The reference's poll: Note. -/
import Derived.Test.YtbleeejhejkkcaaMemI
namespace Go.Proofs.Ytbleeejhejkkcaa
open Go.RowKit
set_option maxHeartbeats 4000000
set_option maxRecDepth 100000
set_option linter.unusedVariables false

def rB (L Ys Ns : List Int) (k : Int) : Bool := L.contains k && (!Ys.contains k && !Ns.contains k)
def rYes (L Ys Ns : List Int) (k : Int) (ok : Bool) : List Int := if rB L Ys Ns k && ok then Row.rowOf (rowB Ys (-1) k) else Ys
def rNo (L Ys Ns : List Int) (k : Int) (ok : Bool) : List Int := if rB L Ys Ns k && !ok then Row.rowOf (rowB Ns (-1) k) else Ns
def RNotePost (G : Nat → Prop) (A : Option Addr) (c : Nat) (L Ys Ns : List Int) (k : Int) (ok : Bool) (w : World) (e : Ending) (w' : World) : Prop :=
  ∃ Y cy N cn, e = .returned (.tuple #[.agg #[.slice A L.length c, .slice Y (rYes L Ys Ns k ok).length cy, .slice N (rNo L Ys Ns k ok).length cn], .bool (rB L Ys Ns k)]) ∧
    Rd w' G Y (rYes L Ys Ns k ok).length ((rYes L Ys Ns k ok).map I64) ∧ Rd w' G N (rNo L Ys Ns k ok).length ((rNo L Ys Ns k ok).map I64) ∧ Touch (fun _ => False) w w'
theorem RNotePost.no {G : Nat → Prop} {A : Option Addr} {c : Nat} {L Ys Ns : List Int} {k : Int} {ok : Bool} {w w' : World} {Y N : Option Addr} {cy cn : Nat} (hb : rB L Ys Ns k = false) (hY : Rd w G Y Ys.length (Ys.map I64)) (hN : Rd w G N Ns.length (Ns.map I64)) (t : Touch (fun _ => False) w w') :
    RNotePost G A c L Ys Ns k ok w (.returned (.tuple #[.agg #[.slice A L.length c, .slice Y Ys.length cy, .slice N Ns.length cn], .bool false])) w' := by
  have e1 : rYes L Ys Ns k ok = Ys := by rw [rYes, hb]; rfl
  have e2 : rNo L Ys Ns k ok = Ns := by rw [rNo, hb]; rfl
  rw [RNotePost, e1, e2, hb]
  exact ⟨Y, cy, N, cn, rfl, hY.touch t (fun _ _ e => e), hN.touch t (fun _ _ e => e), t⟩
theorem RNotePost.yes {G : Nat → Prop} {A : Option Addr} {c : Nat} {L Ys Ns : List Int} {k : Int} {w w' : World} {Y N : Option Addr} {cy cn : Nat} (hb : rB L Ys Ns k = true) (hY : Rd w' G Y (Row.rowOf (rowB Ys (-1) k)).length ((Row.rowOf (rowB Ys (-1) k)).map I64)) (hN : Rd w G N Ns.length (Ns.map I64)) (t : Touch (fun _ => False) w w') :
    RNotePost G A c L Ys Ns k true w (.returned (.tuple #[.agg #[.slice A L.length c, .slice Y (Row.rowOf (rowB Ys (-1) k)).length cy, .slice N Ns.length cn], .bool true])) w' := by
  have e1 : rYes L Ys Ns k true = Row.rowOf (rowB Ys (-1) k) := by rw [rYes, hb]; rfl
  have e2 : rNo L Ys Ns k true = Ns := by rw [rNo, hb]; rfl
  rw [RNotePost, e1, e2, hb]
  exact ⟨Y, cy, N, cn, rfl, hY, hN.touch t (fun _ _ e => e), t⟩
theorem RNotePost.nay {G : Nat → Prop} {A : Option Addr} {c : Nat} {L Ys Ns : List Int} {k : Int} {w w' : World} {Y N : Option Addr} {cy cn : Nat} (hb : rB L Ys Ns k = true) (hY : Rd w G Y Ys.length (Ys.map I64)) (hN : Rd w' G N (Row.rowOf (rowB Ns (-1) k)).length ((Row.rowOf (rowB Ns (-1) k)).map I64)) (t : Touch (fun _ => False) w w') :
    RNotePost G A c L Ys Ns k false w (.returned (.tuple #[.agg #[.slice A L.length c, .slice Y Ys.length cy, .slice N (Row.rowOf (rowB Ns (-1) k)).length cn], .bool true])) w' := by
  have e1 : rYes L Ys Ns k false = Ys := by rw [rYes, hb]; rfl
  have e2 : rNo L Ys Ns k false = Row.rowOf (rowB Ns (-1) k) := by rw [rNo, hb]; rfl
  rw [RNotePost, e1, e2, hb]
  exact ⟨Y, cy, N, cn, rfl, hY.touch t (fun _ _ e => e), hN, t⟩
theorem Blk.three {w : World} {g : Nat} {t : TypeId} {a b c : Value} (h : Blk w g t #[a, b, c]) : (w.cell? ⟨g, 0, none⟩ = some a ∧ w.cell? ⟨g, 1, none⟩ = some b ∧ w.cell? ⟨g, 2, none⟩ = some c) ∧ w.frozen? ⟨g, 0, none⟩ = false ∧ w.frozen? ⟨g, 1, none⟩ = false ∧ w.frozen? ⟨g, 2, none⟩ = false :=
  ⟨⟨h.cell 0, h.cell 1, h.cell 2⟩, h.frozen 0, h.frozen 1, h.frozen 2⟩
theorem rpnote_any (G : Nat → Prop) (A Y N : Option Addr) (c cy cn : Nat) (L Ys Ns : List Int) (k : Int) (ok : Bool) (w : World) (hA : Rd w G A L.length (L.map I64)) (hY : Rd w G Y Ys.length (Ys.map I64)) (hN : Rd w G N Ns.length (Ns.map I64))
    (hG : ∀ j, w.heap.size ≤ j → G j) (h1 : L.length ≤ 1000) (h2 : Ys.length ≤ 1000) (h3 : Ns.length ≤ 1000) :
    Calls Try.prog 13 #[.agg #[.slice A L.length c, .slice Y Ys.length cy, .slice N Ns.length cn], .int .i64 k, .bool ok] w (RNotePost G A c L Ys Ns k ok w) := by
  obtain ⟨W, hW⟩ : ∃ W, W = (w.alloc (.cells #[.slice A L.length c, .slice Y Ys.length cy, .slice N Ns.length cn] 29)).alloc (.cells #[.slice none 0 0, .slice none 0 0, .slice none 0 0] 29) := ⟨_, rfl⟩
  have HT := Lib.hid (show Touch (fun _ => False) w W from hW ▸ ((Touch.refl _ w).alloc _).alloc _)
  have HB0 := Lib.hid (show Blk W w.heap.size 29 #[.slice A L.length c, .slice Y Ys.length cy, .slice N Ns.length cn] from hW ▸ (Blk.new w 29 #[.slice A L.length c, .slice Y Ys.length cy, .slice N Ns.length cn]).alloc _)
  have HB1 := Lib.hid (show Blk W (w.heap.size + 1) 29 #[.slice none 0 0, .slice none 0 0, .slice none 0 0] from hW ▸ (by simpa using Blk.new (w.alloc (.cells #[.slice A L.length c, .slice Y Ys.length cy, .slice N Ns.length cn] 29)) 29 #[.slice none 0 0, .slice none 0 0, .slice none 0 0]))
  have HCA := Lib.hid (rhas_any G A c L k W (hA.touch HT.out (fun _ _ e => e)) (by omega))
  have HCY := Lib.hid (rhas_any G Y cy Ys k W (hY.touch HT.out (fun _ _ e => e)) (by omega))
  have HCN := Lib.hid (rhas_any G N cn Ns k W (hN.touch HT.out (fun _ _ e => e)) (by omega))
  have HRY := Lib.hid (rrow_any G Y cy Ys (-1) k W (hY.touch HT.out (fun _ _ e => e)) (by omega))
  have HRN := Lib.hid (rrow_any G N cn Ns (-1) k W (hN.touch HT.out (fun _ _ e => e)) (by omega))
  have HY := Lib.hid hY
  have HN := Lib.hid hN
  have HG := Lib.hid hG
  have HBd := Lib.hid (show rB L Ys Ns k = (L.contains k && (!Ys.contains k && !Ns.contains k)) from rfl)
  clear hA hY hN hG
  have HW := Lib.hid hW
  obtain ⟨⟨b0, b1, b2⟩, -⟩ := HB0.out.three
  obtain ⟨⟨d0, d1, d2⟩, d3, d4, d5⟩ := HB1.out.three
  clear hW
  have hne : ¬ w.heap.size = w.heap.size + 1 := by omega
  cases hca : L.contains k <;> cases hcy : Ys.contains k <;> cases hcn : Ns.contains k <;> (rw [hca, hcy, hcn] at HBd; rw [hca] at HCA; rw [hcy] at HCY; rw [hcn] at HCN; clear hca hcy hcn)
  case true.false.false =>
    have hWz : W.heap.size = w.heap.size + 2 := by rw [HW.out]; simp
    have HWz := Lib.hid hWz
    clear hWz
    cases ok
    · go_enter Try.func13, Try.ntmps13
      go_wp2_with fail
      rw [← HW.out]
      go_wp2_with (first
        | (go_at_call 42; go_must (refine HRN.out.mono ?_); rintro e w3 ⟨A3, c3, rfl, h1, h2, hr3, t3⟩; rw [List.length_map] at h1 hr3 ⊢; have HR3 := Lib.hid hr3; have HT3 := Lib.hid t3; obtain ⟨⟨f0, f1, f2⟩, f3, f4, f5⟩ := (t3.blk HB0.out (fun e => e)).three; obtain ⟨⟨g0, g1, g2⟩, g3, g4, g5⟩ := (t3.blk HB1.out (fun e => e)).three; clear b0 b1 b2 d0 d1 d2 d3 d4 d5 hr3 t3 h1 h2)
        | (go_at_call 41; have M9 := M2; go_must (refine HCN.out.mono ?_); rintro e w1 ⟨rfl, rfl⟩)
        | (go_at_call 41; have M9 := M1; go_must (refine HCY.out.mono ?_); rintro e w1 ⟨rfl, rfl⟩; have M2 := Lib.hid trivial)
        | (go_at_call 41; go_must (refine HCA.out.mono ?_); rintro e w1 ⟨rfl, rfl⟩; have M1 := Lib.hid trivial))
      refine bodyPost_ret (v := .tuple #[.agg #[.slice A L.length c, .slice Y Ys.length cy, .slice A3 (Row.rowOf (rowB Ns (-1) k)).length c3], .bool true]) (by simp [results, Try.results13, go_sem, g0, g1, g2]) rfl (RNotePost.nay HBd.out HY.out ?_ ?_)
      · exact ((HR3.out.mono (F' := fun k => w.heap.size + 2 ≤ k) (fun k hk => HWz.out ▸ hk)).touch (S := fun k => k = w.heap.size ∨ k = w.heap.size + 1) (((((Touch.refl _ w3).set (fun _ => .inl rfl) _).set (fun _ => .inr rfl) _).set (fun _ => .inr rfl) _).set (fun _ => .inr rfl) _) (fun k hk e => by omega)).mono fun k hk => HG.out k (by omega)
      · exact ((((HT.out.trans HT3.out (fun _ _ e => e)).set (fun h => by omega) _).set (fun h => by omega) _).set (fun h => by omega) _).set (fun h => by omega) _
    · go_enter Try.func13, Try.ntmps13
      go_wp2_with fail
      rw [← HW.out]
      go_wp2_with (first
        | (go_at_call 42; go_must (refine HRY.out.mono ?_); rintro e w3 ⟨A3, c3, rfl, h1, h2, hr3, t3⟩; rw [List.length_map] at h1 hr3 ⊢; have HR3 := Lib.hid hr3; have HT3 := Lib.hid t3; obtain ⟨⟨f0, f1, f2⟩, f3, f4, f5⟩ := (t3.blk HB0.out (fun e => e)).three; obtain ⟨⟨g0, g1, g2⟩, g3, g4, g5⟩ := (t3.blk HB1.out (fun e => e)).three; clear b0 b1 b2 d0 d1 d2 d3 d4 d5 hr3 t3 h1 h2)
        | (go_at_call 41; have M9 := M2; go_must (refine HCN.out.mono ?_); rintro e w1 ⟨rfl, rfl⟩)
        | (go_at_call 41; have M9 := M1; go_must (refine HCY.out.mono ?_); rintro e w1 ⟨rfl, rfl⟩; have M2 := Lib.hid trivial)
        | (go_at_call 41; go_must (refine HCA.out.mono ?_); rintro e w1 ⟨rfl, rfl⟩; have M1 := Lib.hid trivial))
      refine bodyPost_ret (v := .tuple #[.agg #[.slice A L.length c, .slice A3 (Row.rowOf (rowB Ys (-1) k)).length c3, .slice N Ns.length cn], .bool true]) (by simp [results, Try.results13, go_sem, g0, g1, g2]) rfl (RNotePost.yes HBd.out ?_ HN.out ?_)
      · exact ((HR3.out.mono (F' := fun k => w.heap.size + 2 ≤ k) (fun k hk => HWz.out ▸ hk)).touch (S := fun k => k = w.heap.size ∨ k = w.heap.size + 1) (((((Touch.refl _ w3).set (fun _ => .inl rfl) _).set (fun _ => .inr rfl) _).set (fun _ => .inr rfl) _).set (fun _ => .inr rfl) _) (fun k hk e => by omega)).mono fun k hk => HG.out k (by omega)
      · exact ((((HT.out.trans HT3.out (fun _ _ e => e)).set (fun h => by omega) _).set (fun h => by omega) _).set (fun h => by omega) _).set (fun h => by omega) _
  all_goals (
    go_enter Try.func13, Try.ntmps13
    go_wp2_with fail
    rw [← HW.out]
    go_wp2_with (first
      | (go_at_call 41; have M9 := M2; go_must (refine HCN.out.mono ?_); rintro e w1 ⟨rfl, rfl⟩)
      | (go_at_call 41; have M9 := M1; go_must (refine HCY.out.mono ?_); rintro e w1 ⟨rfl, rfl⟩; have M2 := Lib.hid trivial)
      | (go_at_call 41; go_must (refine HCA.out.mono ?_); rintro e w1 ⟨rfl, rfl⟩; have M1 := Lib.hid trivial))
    exact bodyPost_ret (v := .tuple #[.agg #[.slice A L.length c, .slice Y Ys.length cy, .slice N Ns.length cn], .bool false]) (by simp [results, Try.results13, go_sem, d0, d1, d2]) rfl (RNotePost.no HBd.out HY.out HN.out (((HT.out.set (fun h => by omega) _).set (fun h => by omega) _).set (fun h => by omega) _)))
end Go.Proofs.Ytbleeejhejkkcaa
