/-
  Small steps of worlds.
-/
import Derived.Test.YtmcnhggpmlhgeaaGreatDoorBase
import Derived.Test.YtmcnhggpmlhgeaaGreatDoorYes
namespace Go.Proofs.YtmcnhggpmlhgeaaGreatDoor
open Go.RowKit
theorem bstep {w W w' : World} (h : Below w.heap.size w W) (hb : Below W.heap.size W w') : Below w.heap.size w w' := h.trans (hb.mono h.size)
theorem balloc {w W : World} (h : Below w.heap.size w W) (o : Obj) : Below w.heap.size w (W.alloc o) := h.alloc h.size o
theorem bset {w W : World} (h : Below w.heap.size w W) {b k : Nat} (hp : w.heap.size ≤ b) (u : Value) : Below w.heap.size w (W.setCell ⟨b, k, none⟩ u) := h.setCell hp u
theorem keepB {W W' : World} (hb : Below W.heap.size W W') {k : Nat} {o : Obj} (h : W.heap[k]? = some o) : W'.heap[k]? = some o := (hb.block k (lt_of_block h)).trans h
theorem bdrew {w W : World} (h : Below w.heap.size w W) (n : Nat) : Below w.heap.size w (W.drewN n) := ⟨h.os, h.tape, h.output, h.size, h.block⟩
theorem hdrew {W w' : World} (hb : Below W.drew.heap.size W.drew w') : Below W.heap.size W w' := ⟨hb.os, hb.tape, hb.output, hb.size, hb.block⟩
end Go.Proofs.YtmcnhggpmlhgeaaGreatDoor
