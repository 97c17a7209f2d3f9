/-
  A book of facts on one world: boxes of any type, terms that are read, what the world has left as it was.
-/
import Derived.Test.YtgfodedmcjkmaaaDoorBook0
namespace Go.Proofs.YtgfodedmcjkmaaaDoor
open Go.RowKit
/-- all blocks outside a set are as they were -/
structure Ch (C : Nat → Prop) (w w' : World) : Prop where
  os : w'.os = w.os
  tape : w'.tape = w.tape
  output : w'.output = w.output
  size : w.heap.size ≤ w'.heap.size
  block : ∀ k, k < w.heap.size → ¬ C k → w'.heap[k]? = w.heap[k]?
theorem Ch.refl (C : Nat → Prop) (w : World) : Ch C w w := ⟨rfl, rfl, rfl, Nat.le_refl _, fun _ _ _ => rfl⟩
theorem Ch.of_below {C : Nat → Prop} {w w' : World} (h : Below w.heap.size w w') : Ch C w w' := ⟨h.os, h.tape, h.output, h.size, fun k hk _ => h.block k hk⟩
theorem Ch.of_belowB {B : Nat} {w w' : World} (h : Below B w w') : Ch (fun k => B ≤ k) w w' := ⟨h.os, h.tape, h.output, h.size, fun k _ hc => h.block k (Nat.lt_of_not_le hc)⟩
theorem Ch.of_set (w : World) (L k : Nat) (u : Value) : Ch (fun b => b = L) w (w.setCell ⟨L, k, none⟩ u) := by
  have h := Outs.of_set w L k u
  exact ⟨h.os, h.tape, h.output, h.size, fun j hj hc => h.block j hj (by omega)⟩
theorem Ch.trans {C D E : Nat → Prop} {a b c : World} (h : Ch C a b) (k : Ch D b c) (h1 : ∀ i, i < a.heap.size → ¬ E i → ¬ C i ∧ ¬ D i) : Ch E a c :=
  ⟨k.os.trans h.os, k.tape.trans h.tape, k.output.trans h.output, Nat.le_trans h.size k.size, fun i hi he => (k.block i (Nat.lt_of_lt_of_le hi h.size) (h1 i hi he).2).trans (h.block i hi (h1 i hi he).1)⟩
theorem Ch.below {C : Nat → Prop} {B : Nat} {w w' : World} (h : Ch C w w') (hB : B ≤ w.heap.size) (hC : ∀ k, k < B → ¬ C k) : Below B w w' := ⟨h.os, h.tape, h.output, h.size, fun k hk => h.block k (by omega) (hC k hk)⟩
theorem Ch.grown {C : Nat → Prop} {g : Option Nat} {w w' : World} (h : w.grownBy w' g) (hC : ∀ k, g = some k → C k) : Ch C w w' := ⟨h.os, h.tape, h.output, h.size, fun k hk hc => h.block k hk fun e => hc (hC k e.symm)⟩
inductive Fq where
  | blk (L : Nat) (c : Array Value) (t : TypeId)
  | rd (A B : Nat) (l : TL) (v : Value)
  | base (C : Nat → Prop) (w0 : World)
def Fq.ok (w : World) : Fq → Prop
  | .blk L c t => w.heap[L]? = some (.cells c t (0, 0))
  | .rd A B l v => RdS w A B l v ∧ B ≤ w.heap.size
  | .base C w0 => Ch C w0 w
def Bq (w : World) : List Fq → Prop
  | [] => True
  | f :: fs => f.ok w ∧ Bq w fs
def Fq.apart (C : Nat → Prop) : Fq → Prop
  | .blk L _ _ => ¬ C L
  | .rd A B _ _ => ∀ b, A ≤ b → b < B → ¬ C b
  | .base D w0 => ∀ b, b < w0.heap.size → ¬ D b → ¬ C b
def ApartQ (C : Nat → Prop) : List Fq → Prop
  | [] => True
  | f :: fs => f.apart C ∧ ApartQ C fs
theorem Fq.move {C : Nat → Prop} {w w' : World} (hm : Ch C w w') : ∀ {f : Fq}, f.ok w → f.apart C → f.ok w'
  | .blk _ _ _, h, ha => (hm.block _ (lt_of_block h) ha).trans h
  | .rd A B _ _, ⟨h, hB⟩, ha => ⟨h.keepX fun b o h1 h2 => cell_eq (hm.block b (by omega) (ha b h1 h2)) o, Nat.le_trans hB hm.size⟩
  | .base D w0, h, ha => Ch.trans h hm fun i hi he => ⟨he, ha i hi he⟩
theorem Bq.move {C : Nat → Prop} {w w' : World} (hm : Ch C w w') : ∀ {fs : List Fq}, Bq w fs → ApartQ C fs → Bq w' fs
  | [], _, _ => trivial
  | _ :: _, ⟨h1, h2⟩, ⟨a1, a2⟩ => ⟨Fq.move hm h1 a1, Bq.move hm h2 a2⟩
theorem apart_none : ∀ (fs : List Fq), ApartQ (fun _ => False) fs
  | [] => trivial
  | .blk _ _ _ :: fs => ⟨fun h => h, apart_none fs⟩
  | .rd _ _ _ _ :: fs => ⟨fun _ _ _ h => h, apart_none fs⟩
  | .base _ _ :: fs => ⟨fun _ _ _ h => h, apart_none fs⟩
theorem Bq.below {w w' : World} {fs : List Fq} (h : Bq w fs) (hb : Below w.heap.size w w') : Bq w' fs := h.move (Ch.of_below (C := fun _ => False) hb) (apart_none fs)
theorem Bq.alloc {w : World} {fs : List Fq} (h : Bq w fs) (o : Obj) : Bq (w.alloc o) fs := h.below (below_alloc w o)
theorem Bq.drew {w : World} {fs : List Fq} (h : Bq w fs) (n : Nat) : Bq (w.drewN n) fs := h.below ⟨rfl, rfl, rfl, Nat.le_refl _, fun _ _ => rfl⟩
theorem Bq.add {w : World} {fs : List Fq} {f : Fq} (h : Bq w fs) (h2 : f.ok w) : Bq w (f :: fs) := ⟨h2, h⟩
/-- a box is made -/
theorem Bq.box {w : World} {fs : List Fq} (h : Bq w fs) (c : Array Value) (t : TypeId) {n : Nat} (hn : w.heap.size = n) : Bq (w.alloc (.cells c t (0, 0))) (.blk n c t :: fs) := hn ▸ (h.alloc _).add (heap_alloc_new w _)
theorem Bq.get {w : World} : ∀ {fs : List Fq} (_ : Bq w fs) (k : Nat) {f : Fq}, fs[k]? = some f → f.ok w
  | [], _, _, _, e => by simp at e
  | _ :: _, h, 0, _, e => by
    simp only [List.getElem?_cons_zero, Option.some.injEq] at e
    subst e; exact h.1
  | _ :: _, h, k + 1, _, e => Bq.get h.2 k (by simpa using e)
theorem Bq.del {w : World} : ∀ {fs : List Fq} (_ : Bq w fs) (k : Nat), Bq w (fs.eraseIdx k)
  | [], h, _ => h
  | _ :: _, h, 0 => h.2
  | _ :: _, h, k + 1 => ⟨h.1, Bq.del h.2 k⟩
theorem Bq.blk {w : World} {fs : List Fq} (h : Bq w fs) (k : Nat) {L : Nat} {c : Array Value} {t : TypeId} (e : fs[k]? = some (.blk L c t)) : w.heap[L]? = some (.cells c t (0, 0)) := h.get k e
theorem Bq.rd {w : World} {fs : List Fq} (h : Bq w fs) (k : Nat) {A B : Nat} {l : TL} {v : Value} (e : fs[k]? = some (.rd A B l v)) : RdS w A B l v ∧ B ≤ w.heap.size := h.get k e
theorem Bq.base {w : World} {fs : List Fq} (h : Bq w fs) (k : Nat) {C : Nat → Prop} {w0 : World} (e : fs[k]? = some (.base C w0)) : Ch C w0 w := h.get k e
/-- a call that turns block R alone, which then holds c' -/
theorem Bq.call {w w' : World} {fs : List Fq} (h : Bq w fs) (k : Nat) {R : Nat} {c' : Array Value} {t : TypeId} (hm : Ch (fun b => b = R) w w') (hr : w'.heap[R]? = some (.cells c' t (0, 0))) (ha : ApartQ (fun b => b = R) (fs.eraseIdx k)) : Bq w' (.blk R c' t :: fs.eraseIdx k) :=
  Bq.add ((h.del k).move hm ha) hr
/-- a store into cell j of box k -/
theorem Bq.set {w : World} {fs : List Fq} (h : Bq w fs) (k : Nat) {L : Nat} {c : List Value} {t : TypeId} (e : fs[k]? = some (.blk L c.toArray t)) (j : Nat) (u : Value) (ha : ApartQ (fun b => b = L) (fs.eraseIdx k)) : Bq (w.setCell ⟨L, j, none⟩ u) (.blk L (c.set j u).toArray t :: fs.eraseIdx k) :=
  Bq.add ((h.del k).move (Ch.of_set w L j u) ha) (blk_set (h.blk k e) j u)
/-- nine stores into box k -/
theorem Bq.put {w : World} {fs : List Fq} (h : Bq w fs) (k : Nat) {L : Nat} {c0 c1 c2 c3 c4 c5 c6 c7 c8 : Value} {t : TypeId} (e : fs[k]? = some (.blk L #[c0, c1, c2, c3, c4, c5, c6, c7, c8] t)) (ha : ApartQ (fun b => b = L) (fs.eraseIdx k)) (a0 a1 a2 a3 a4 a5 a6 a7 a8 : Value) :
    Bq (((((((((w.setCell ⟨L, 0, none⟩ a0).setCell ⟨L, 1, none⟩ a1).setCell ⟨L, 2, none⟩ a2).setCell ⟨L, 3, none⟩ a3).setCell ⟨L, 4, none⟩ a4).setCell ⟨L, 5, none⟩ a5).setCell ⟨L, 6, none⟩ a6).setCell ⟨L, 7, none⟩ a7).setCell ⟨L, 8, none⟩ a8) (.blk L #[a0, a1, a2, a3, a4, a5, a6, a7, a8] t :: fs.eraseIdx k) := by
  have ho := outs_nine w L a0 a1 a2 a3 a4 a5 a6 a7 a8
  exact Bq.add ((h.del k).move ⟨ho.os, ho.tape, ho.output, ho.size, fun j hj hc => ho.block j hj (by omega)⟩ ha) (nine_blk (h.blk k e) a0 a1 a2 a3 a4 a5 a6 a7 a8)
end Go.Proofs.YtgfodedmcjkmaaaDoor
