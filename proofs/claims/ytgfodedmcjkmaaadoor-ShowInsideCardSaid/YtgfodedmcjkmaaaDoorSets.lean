/-
  Struct results: a cell of nine and a word, read at block level.
-/
import Derived.Test.YtgfodedmcjkmaaaDoorKinds
import Derived.Laws.ResultCell
import Derived.Laws.Rows
namespace Go.Proofs.YtgfodedmcjkmaaaDoor
open Go.RowKit
theorem block_setCell {w : World} {B : Nat} {c : Array Value} {t : TypeId} (h : w.heap[B]? = some (.cells c t (0, 0))) (k : Nat) (u : Value) : (w.setCell ⟨B, k, none⟩ u).heap[B]? = some (.cells (c.setIfInBounds k u) t (0, 0)) := by
  simp [World.setCell, Array.getElem?_modify, h]
theorem blk_set {w : World} {B : Nat} {c : List Value} {t : TypeId} (h : w.heap[B]? = some (.cells c.toArray t (0, 0))) (k : Nat) (u : Value) : (w.setCell ⟨B, k, none⟩ u).heap[B]? = some (.cells (c.set k u).toArray t (0, 0)) := by
  rw [block_setCell h]; simp
theorem blk_oth {w : World} {B C : Nat} {o : Obj} (h : w.heap[B]? = some o) (hne : B ≠ C) (k : Nat) (u : Value) : (w.setCell ⟨C, k, none⟩ u).heap[B]? = some o := by
  rw [← h]
  unfold World.setCell
  split <;> simp [Array.getElem?_modify, Ne.symm hne]
theorem nine_blk {w : World} {H : Nat} {c0 c1 c2 c3 c4 c5 c6 c7 c8 : Value} {t : TypeId} (h : w.heap[H]? = some (.cells #[c0, c1, c2, c3, c4, c5, c6, c7, c8] t (0, 0))) (a0 a1 a2 a3 a4 a5 a6 a7 a8 : Value) :
    (((((((((w.setCell ⟨H, 0, none⟩ a0).setCell ⟨H, 1, none⟩ a1).setCell ⟨H, 2, none⟩ a2).setCell ⟨H, 3, none⟩ a3).setCell ⟨H, 4, none⟩ a4).setCell ⟨H, 5, none⟩ a5).setCell ⟨H, 6, none⟩ a6).setCell ⟨H, 7, none⟩ a7).setCell ⟨H, 8, none⟩ a8).heap[H]? = some (.cells #[a0, a1, a2, a3, a4, a5, a6, a7, a8] t (0, 0)) :=
  blk_set (c := [a0, a1, a2, a3, a4, a5, a6, a7, c8]) (blk_set (c := [a0, a1, a2, a3, a4, a5, a6, c7, c8]) (blk_set (c := [a0, a1, a2, a3, a4, a5, c6, c7, c8]) (blk_set (c := [a0, a1, a2, a3, a4, c5, c6, c7, c8]) (blk_set (c := [a0, a1, a2, a3, c4, c5, c6, c7, c8]) (blk_set (c := [a0, a1, a2, c3, c4, c5, c6, c7, c8]) (blk_set (c := [a0, a1, c2, c3, c4, c5, c6, c7, c8]) (blk_set (c := [a0, c1, c2, c3, c4, c5, c6, c7, c8]) (blk_set (c := [c0, c1, c2, c3, c4, c5, c6, c7, c8]) h 0 a0) 1 a1) 2 a2) 3 a3) 4 a4) 5 a5) 6 a6) 7 a7) 8 a8
theorem term_size : (Tryd.prog.info? 24).map (·.size) = some 9 := by kernel_rfl
theorem results_pair {fn : Func} {p u : Tmp} (h : fn.results = #[.cell p 24, .tmp u]) (tmps : Array Value) (w : World) (g : Nat) (a0 a1 a2 a3 a4 a5 a6 a7 a8 : Value)
    (hp : tmps.getD p undef = .pointer (some ⟨g, 0, none⟩)) (hg : w.heap[g]? = some (.cells #[a0, a1, a2, a3, a4, a5, a6, a7, a8] 24 (0, 0))) :
    (results fn tmps).run Tryd.prog w = .ok (.tuple #[.agg #[a0, a1, a2, a3, a4, a5, a6, a7, a8], tmps.getD u undef]) w := by
  rw [results_cell_tmp h, hp]
  have hl := run_loadVar_row (P := Tryd.prog) w g _ 24 _ _ _ hg Tryd.underlying24 rfl term_size
  simp only [asAddr, Sem.run_pure, Result.andThen_ok, hl]
end Go.Proofs.YtgfodedmcjkmaaaDoor
