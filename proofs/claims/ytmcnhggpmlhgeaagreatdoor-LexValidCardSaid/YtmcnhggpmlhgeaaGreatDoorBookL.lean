/-
  A book of facts on one world: boxes of any type, facts that keep while the blocks of a set are as they were, what the world has left as it was.
-/
import Derived.Test.YtmcnhggpmlhgeaaGreatDoorSteps
namespace Go.Proofs.YtmcnhggpmlhgeaaGreatDoor
open Go.RowKit
theorem block_setCell {w : World} {B : Nat} {c : Array Value} {t : TypeId} (h : w.heap[B]? = some (.cells c t (0, 0))) (k : Nat) (u : Value) : (w.setCell ⟨B, k, none⟩ u).heap[B]? = some (.cells (c.setIfInBounds k u) t (0, 0)) := by
  simp [World.setCell, Array.getElem?_modify, h]
theorem blk_set {w : World} {B : Nat} {c : List Value} {t : TypeId} (h : w.heap[B]? = some (.cells c.toArray t (0, 0))) (k : Nat) (u : Value) : (w.setCell ⟨B, k, none⟩ u).heap[B]? = some (.cells (c.set k u).toArray t (0, 0)) := by
  rw [block_setCell h]; simp
theorem blk_oth {w : World} {B C : Nat} {o : Obj} (h : w.heap[B]? = some o) (hne : B ≠ C) (k : Nat) (u : Value) : (w.setCell ⟨C, k, none⟩ u).heap[B]? = some o := by
  rw [← h]
  unfold World.setCell
  split <;> simp [Array.getElem?_modify, Ne.symm hne]
/-- all blocks but those from A on, below B, are as they were -/
structure Outs (A B : Nat) (w w' : World) : Prop where
  os : w'.os = w.os
  tape : w'.tape = w.tape
  output : w'.output = w.output
  size : w.heap.size ≤ w'.heap.size
  block : ∀ k, k < w.heap.size → (k < A ∨ B ≤ k) → w'.heap[k]? = w.heap[k]?
theorem Outs.of_below {A B : Nat} {w w' : World} (h : Below w.heap.size w w') : Outs A B w w' := ⟨h.os, h.tape, h.output, h.size, fun k hk _ => h.block k hk⟩
theorem Outs.of_set (w : World) (L k : Nat) (u : Value) : Outs L (L + 1) w (w.setCell ⟨L, k, none⟩ u) := by
  have h := (Below.refl L w).setCell (p := ⟨L, k, none⟩) (Nat.le_refl _) u
  refine ⟨h.os, h.tape, h.output, h.size, fun j hj hne => ?_⟩
  exact Below.heap_setCell _ _ _ _ (by show j ≠ L; omega)
theorem Outs.trans {A B : Nat} {a b c : World} (h : Outs A B a b) (k : Outs A B b c) : Outs A B a c :=
  ⟨k.os.trans h.os, k.tape.trans h.tape, k.output.trans h.output, Nat.le_trans h.size k.size, fun i hi ho => (k.block i (Nat.lt_of_lt_of_le hi h.size) ho).trans (h.block i hi ho)⟩
theorem cell_eq {w w' : World} {b : Nat} (h : w'.heap[b]? = w.heap[b]?) (o : Nat) : w'.cell? ⟨b, o, none⟩ = w.cell? ⟨b, o, none⟩ := World.cell?_of_block h
theorem four_cells {w : World} {g : Nat} {a0 a1 a2 a3 : Value} {t : TypeId} (h : w.heap[g]? = some (.cells #[a0, a1, a2, a3] t (0, 0))) :
    w.cell? ⟨g, 0, none⟩ = some a0 ∧ w.cell? ⟨g, 1, none⟩ = some a1 ∧ w.cell? ⟨g, 2, none⟩ = some a2 ∧ w.cell? ⟨g, 3, none⟩ = some a3 ∧ ∀ k, w.frozen? ⟨g, k, none⟩ = false :=
  ⟨cells_of h 0, cells_of h 1, cells_of h 2, cells_of h 3, frees_of h⟩
/-- all blocks outside a set are as they were -/
structure Ch (C : Nat → Prop) (w w' : World) : Prop where
  os : w'.os = w.os
  tape : w'.tape = w.tape
  output : w'.output = w.output
  size : w.heap.size ≤ w'.heap.size
  block : ∀ k, k < w.heap.size → ¬ C k → w'.heap[k]? = w.heap[k]?
theorem Ch.refl (C : Nat → Prop) (w : World) : Ch C w w := ⟨rfl, rfl, rfl, Nat.le_refl _, fun _ _ _ => rfl⟩
theorem Ch.of_below {C : Nat → Prop} {w w' : World} (h : Below w.heap.size w w') : Ch C w w' := ⟨h.os, h.tape, h.output, h.size, fun k hk _ => h.block k hk⟩
theorem Ch.of_belowB {B : Nat} {w w' : World} (h : Below B w w') : Ch (fun k => B ≤ k) w w' := ⟨h.os, h.tape, h.output, h.size, fun k _ hc => h.block k (Nat.lt_of_not_le hc)⟩
theorem Ch.of_set (w : World) (L k : Nat) (u : Value) : Ch (fun b => b = L) w (w.setCell ⟨L, k, none⟩ u) := by
  have h := Outs.of_set w L k u
  exact ⟨h.os, h.tape, h.output, h.size, fun j hj hc => h.block j hj (by omega)⟩
theorem Ch.trans {C D E : Nat → Prop} {a b c : World} (h : Ch C a b) (k : Ch D b c) (h1 : ∀ i, i < a.heap.size → ¬ E i → ¬ C i ∧ ¬ D i) : Ch E a c :=
  ⟨k.os.trans h.os, k.tape.trans h.tape, k.output.trans h.output, Nat.le_trans h.size k.size, fun i hi he => (k.block i (Nat.lt_of_lt_of_le hi h.size) (h1 i hi he).2).trans (h.block i hi (h1 i hi he).1)⟩
theorem Ch.below {C : Nat → Prop} {B : Nat} {w w' : World} (h : Ch C w w') (hB : B ≤ w.heap.size) (hC : ∀ k, k < B → ¬ C k) : Below B w w' := ⟨h.os, h.tape, h.output, h.size, fun k hk => h.block k (by omega) (hC k hk)⟩
theorem Ch.grown {C : Nat → Prop} {g : Option Nat} {w w' : World} (h : w.grownBy w' g) (hC : ∀ k, g = some k → C k) : Ch C w w' := ⟨h.os, h.tape, h.output, h.size, fun k hk hc => h.block k hk fun e => hc (hC k e.symm)⟩
inductive Fq where
  | blk (L : Nat) (c : Array Value) (t : TypeId)
  | any (S : Nat → Prop) (P : World → Prop) (h : ∀ w w', P w → (∀ k, S k → k < w.heap.size → w'.heap[k]? = w.heap[k]?) → w.heap.size ≤ w'.heap.size → P w')
  | base (C : Nat → Prop) (w0 : World)
def Fq.ok (w : World) : Fq → Prop
  | .blk L c t => w.heap[L]? = some (.cells c t (0, 0))
  | .any _ P _ => P w
  | .base C w0 => Ch C w0 w
def Bq (w : World) : List Fq → Prop
  | [] => True
  | f :: fs => f.ok w ∧ Bq w fs
def Fq.apart (C : Nat → Prop) : Fq → Prop
  | .blk L _ _ => ¬ C L
  | .any S _ _ => ∀ b, S b → ¬ C b
  | .base D w0 => ∀ b, b < w0.heap.size → ¬ D b → ¬ C b
def ApartQ (C : Nat → Prop) : List Fq → Prop
  | [] => True
  | f :: fs => f.apart C ∧ ApartQ C fs
theorem Fq.move {C : Nat → Prop} {w w' : World} (hm : Ch C w w') : ∀ {f : Fq}, f.ok w → f.apart C → f.ok w'
  | .blk _ _ _, h, ha => (hm.block _ (lt_of_block h) ha).trans h
  | .any _ _ hk, h, ha => hk _ _ h (fun k hs hlt => hm.block k hlt (ha k hs)) hm.size
  | .base _ _, h, ha => Ch.trans h hm fun i hi he => ⟨he, ha i hi he⟩
theorem Bq.move {C : Nat → Prop} {w w' : World} (hm : Ch C w w') : ∀ {fs : List Fq}, Bq w fs → ApartQ C fs → Bq w' fs
  | [], _, _ => trivial
  | _ :: _, ⟨h1, h2⟩, ⟨a1, a2⟩ => ⟨Fq.move hm h1 a1, Bq.move hm h2 a2⟩
theorem apart_none : ∀ (fs : List Fq), ApartQ (fun _ => False) fs
  | [] => trivial
  | .blk _ _ _ :: fs => ⟨fun h => h, apart_none fs⟩
  | .any _ _ _ :: fs => ⟨fun _ _ h => h, apart_none fs⟩
  | .base _ _ :: fs => ⟨fun _ _ _ h => h, apart_none fs⟩
theorem Bq.below {w w' : World} {fs : List Fq} (h : Bq w fs) (hb : Below w.heap.size w w') : Bq w' fs := h.move (Ch.of_below (C := fun _ => False) hb) (apart_none fs)
theorem Bq.alloc {w : World} {fs : List Fq} (h : Bq w fs) (o : Obj) : Bq (w.alloc o) fs := h.below (below_alloc w o)
theorem Bq.drew {w : World} {fs : List Fq} (h : Bq w fs) (n : Nat) : Bq (w.drewN n) fs := h.below ⟨rfl, rfl, rfl, Nat.le_refl _, fun _ _ => rfl⟩
theorem Bq.add {w : World} {fs : List Fq} {f : Fq} (h : Bq w fs) (h2 : f.ok w) : Bq w (f :: fs) := ⟨h2, h⟩
/-- a box is made -/
theorem Bq.box {w : World} {fs : List Fq} (h : Bq w fs) (c : Array Value) (t : TypeId) {n : Nat} (hn : w.heap.size = n) : Bq (w.alloc (.cells c t (0, 0))) (.blk n c t :: fs) := hn ▸ (h.alloc _).add (heap_alloc_new w _)
theorem Bq.get {w : World} : ∀ {fs : List Fq} (_ : Bq w fs) (k : Nat) {f : Fq}, fs[k]? = some f → f.ok w
  | [], _, _, _, e => by simp at e
  | _ :: _, h, 0, _, e => by
    simp only [List.getElem?_cons_zero, Option.some.injEq] at e
    subst e; exact h.1
  | _ :: _, h, k + 1, _, e => Bq.get h.2 k (by simpa using e)
theorem Bq.del {w : World} : ∀ {fs : List Fq} (_ : Bq w fs) (k : Nat), Bq w (fs.eraseIdx k)
  | [], h, _ => h
  | _ :: _, h, 0 => h.2
  | _ :: _, h, k + 1 => ⟨h.1, Bq.del h.2 k⟩
theorem Bq.blk {w : World} {fs : List Fq} (h : Bq w fs) (k : Nat) {L : Nat} {c : Array Value} {t : TypeId} (e : fs[k]? = some (.blk L c t)) : w.heap[L]? = some (.cells c t (0, 0)) := h.get k e
theorem Bq.any {w : World} {fs : List Fq} (h : Bq w fs) (k : Nat) {S : Nat → Prop} {P : World → Prop} {hp : ∀ w w', P w → (∀ k, S k → k < w.heap.size → w'.heap[k]? = w.heap[k]?) → w.heap.size ≤ w'.heap.size → P w'} (e : fs[k]? = some (.any S P hp)) : P w := h.get k e
theorem Bq.base {w : World} {fs : List Fq} (h : Bq w fs) (k : Nat) {C : Nat → Prop} {w0 : World} (e : fs[k]? = some (.base C w0)) : Ch C w0 w := h.get k e
/-- a call that turns block R alone, which then holds c' -/
theorem Bq.call {w w' : World} {fs : List Fq} (h : Bq w fs) (k : Nat) {R : Nat} {c' : Array Value} {t : TypeId} (hm : Ch (fun b => b = R) w w') (hr : w'.heap[R]? = some (.cells c' t (0, 0))) (ha : ApartQ (fun b => b = R) (fs.eraseIdx k)) : Bq w' (.blk R c' t :: fs.eraseIdx k) :=
  Bq.add ((h.del k).move hm ha) hr
/-- a store into cell j of box k -/
theorem Bq.set {w : World} {fs : List Fq} (h : Bq w fs) (k : Nat) {L : Nat} {c : List Value} {t : TypeId} (e : fs[k]? = some (.blk L c.toArray t)) (j : Nat) (u : Value) (ha : ApartQ (fun b => b = L) (fs.eraseIdx k)) : Bq (w.setCell ⟨L, j, none⟩ u) (.blk L (c.set j u).toArray t :: fs.eraseIdx k) :=
  Bq.add ((h.del k).move (Ch.of_set w L j u) ha) (blk_set (h.blk k e) j u)
/-- four stores into box k -/
theorem Bq.put {w : World} {fs : List Fq} (h : Bq w fs) (k : Nat) {L : Nat} {c0 c1 c2 c3 : Value} {t : TypeId} (e : fs[k]? = some (.blk L #[c0, c1, c2, c3] t)) (ha : ApartQ (fun b => b = L) (fs.eraseIdx k)) (a0 a1 a2 a3 : Value) :
    Bq ((((w.setCell ⟨L, 0, none⟩ a0).setCell ⟨L, 1, none⟩ a1).setCell ⟨L, 2, none⟩ a2).setCell ⟨L, 3, none⟩ a3) (.blk L #[a0, a1, a2, a3] t :: fs.eraseIdx k) := by
  have ho := (((Outs.of_set w L 0 a0).trans (Outs.of_set _ L 1 a1)).trans (Outs.of_set _ L 2 a2)).trans (Outs.of_set _ L 3 a3)
  exact Bq.add ((h.del k).move ⟨ho.os, ho.tape, ho.output, ho.size, fun j hj hc => ho.block j hj (by omega)⟩ ha) (blk_set (c := [a0, a1, a2, c3]) (blk_set (c := [a0, a1, c2, c3]) (blk_set (c := [a0, c1, c2, c3]) (blk_set (c := [c0, c1, c2, c3]) (h.blk k e) 0 a0) 1 a1) 2 a2) 3 a3)
/-- the parts of the book that are wanted, in any order -/
theorem Bq.pick {w : World} {fs : List Fq} (h : Bq w fs) : ∀ (ks : List Nat) {gs : List Fq}, ks.map (fun k => fs[k]?) = gs.map some → Bq w gs
  | [], [], _ => trivial
  | [], _ :: _, e => by simp at e
  | _ :: _, [], e => by simp at e
  | k :: ks, g :: gs, e => by
    simp only [List.map_cons, List.cons.injEq] at e
    exact ⟨h.get k e.1, h.pick ks e.2⟩
end Go.Proofs.YtmcnhggpmlhgeaaGreatDoor
