/-
  A world in which all blocks but some are as they were.
-/
import Derived.Test.YtgfodedmcjkmaaaDoorRx
namespace Go.Proofs.YtgfodedmcjkmaaaDoor
open Go.RowKit
/-- all blocks but those from A on, below B, are as they were -/
structure Outs (A B : Nat) (w w' : World) : Prop where
  os : w'.os = w.os
  tape : w'.tape = w.tape
  output : w'.output = w.output
  size : w.heap.size ≤ w'.heap.size
  block : ∀ k, k < w.heap.size → (k < A ∨ B ≤ k) → w'.heap[k]? = w.heap[k]?
theorem Outs.of_below {A B : Nat} {w w' : World} (h : Below w.heap.size w w') : Outs A B w w' := ⟨h.os, h.tape, h.output, h.size, fun k hk _ => h.block k hk⟩
theorem Outs.of_spw {A B : Nat} {w w' : World} (h : SpW A B w w') : Outs A B w w' := ⟨h.os, h.tape, h.output, h.size, h.out⟩
theorem Outs.of_set (w : World) (L k : Nat) (u : Value) : Outs L (L + 1) w (w.setCell ⟨L, k, none⟩ u) := by
  have h := (Below.refl L w).setCell (p := ⟨L, k, none⟩) (Nat.le_refl _) u
  refine ⟨h.os, h.tape, h.output, h.size, fun j hj hne => ?_⟩
  exact Below.heap_setCell _ _ _ _ (by show j ≠ L; omega)
theorem Outs.trans {A B : Nat} {a b c : World} (h : Outs A B a b) (k : Outs A B b c) : Outs A B a c :=
  ⟨k.os.trans h.os, k.tape.trans h.tape, k.output.trans h.output, Nat.le_trans h.size k.size, fun i hi ho => (k.block i (Nat.lt_of_lt_of_le hi h.size) ho).trans (h.block i hi ho)⟩
theorem cell_eq {w w' : World} {b : Nat} (h : w'.heap[b]? = w.heap[b]?) (o : Nat) : w'.cell? ⟨b, o, none⟩ = w.cell? ⟨b, o, none⟩ := World.cell?_of_block h
theorem Rd.keepX {w w' : World} {A B : Nat} (hk : ∀ b o, A ≤ b → b < B → w'.cell? ⟨b, o, none⟩ = w.cell? ⟨b, o, none⟩) : ∀ (l : TL) (b o : Nat), Rd w A B l b o → Rd w' A B l b o
  | .nil, _, _, _ => trivial
  | .cons f it r, b, o, ⟨ha, hb, ⟨ao, cap, h1, h2, h3, h4⟩, hr⟩ =>
    ⟨ha, hb, ⟨ao, cap, fun j v hj => (hk _ _ ha hb).trans (h1 j v hj), h2, h3, fun hn => by
      obtain ⟨b', o', e, h⟩ := h4 hn
      exact ⟨b', o', e, Rd.keepX hk it b' o' h⟩⟩, Rd.keepX hk r b (o + 9) hr⟩
theorem RdS.keepX {w w' : World} {A B : Nat} {l : TL} {v : Value} (h : RdS w A B l v) (hk : ∀ b o, A ≤ b → b < B → w'.cell? ⟨b, o, none⟩ = w.cell? ⟨b, o, none⟩) : RdS w' A B l v := by
  obtain ⟨ao, cap, e, h1, h2, h3⟩ := h
  exact ⟨ao, cap, e, h1, h2, fun hn => (h3 hn).imp fun b hb => hb.imp fun o ho => ⟨ho.1, Rd.keepX hk l b o ho.2⟩⟩
theorem outs_nine (w : World) (L : Nat) (a0 a1 a2 a3 a4 a5 a6 a7 a8 : Value) : Outs L (L + 1) w (((((((((w.setCell ⟨L, 0, none⟩ a0).setCell ⟨L, 1, none⟩ a1).setCell ⟨L, 2, none⟩ a2).setCell ⟨L, 3, none⟩ a3).setCell ⟨L, 4, none⟩ a4).setCell ⟨L, 5, none⟩ a5).setCell ⟨L, 6, none⟩ a6).setCell ⟨L, 7, none⟩ a7).setCell ⟨L, 8, none⟩ a8) :=
  ((((((((Outs.of_set w L 0 a0).trans (Outs.of_set _ L 1 a1)).trans (Outs.of_set _ L 2 a2)).trans (Outs.of_set _ L 3 a3)).trans (Outs.of_set _ L 4 a4)).trans (Outs.of_set _ L 5 a5)).trans (Outs.of_set _ L 6 a6)).trans (Outs.of_set _ L 7 a7)).trans (Outs.of_set _ L 8 a8)
theorem nine_cells {w : World} {g : Nat} {a0 a1 a2 a3 a4 a5 a6 a7 a8 : Value} {t : TypeId} (h : w.heap[g]? = some (.cells #[a0, a1, a2, a3, a4, a5, a6, a7, a8] t (0, 0))) :
    w.cell? ⟨g, 0, none⟩ = some a0 ∧ w.cell? ⟨g, 1, none⟩ = some a1 ∧ w.cell? ⟨g, 2, none⟩ = some a2 ∧ w.cell? ⟨g, 3, none⟩ = some a3 ∧ w.cell? ⟨g, 4, none⟩ = some a4 ∧ w.cell? ⟨g, 5, none⟩ = some a5 ∧ w.cell? ⟨g, 6, none⟩ = some a6 ∧ w.cell? ⟨g, 7, none⟩ = some a7 ∧ w.cell? ⟨g, 8, none⟩ = some a8 ∧ ∀ k, w.frozen? ⟨g, k, none⟩ = false :=
  ⟨cells_of h 0, cells_of h 1, cells_of h 2, cells_of h 3, cells_of h 4, cells_of h 5, cells_of h 6, cells_of h 7, cells_of h 8, frees_of h⟩
end Go.Proofs.YtgfodedmcjkmaaaDoor
