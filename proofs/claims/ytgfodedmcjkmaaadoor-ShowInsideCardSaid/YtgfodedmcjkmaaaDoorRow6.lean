/-
  The rows of law06: what the listed tables give the walk; a world for the witness that holds them.
-/
import Derived.Test.YtgfodedmcjkmaaaDoorCards
import Derived.Test.YtgfodedmcjkmaaaDoorTie
import Derived.Test.YtgfodedmcjkmaaaDoorRow
import Derived.Test.YtgfodedmcjkmaaaDoorShowA
import Derived.Deep.DeepHandedRow
import Derived.Lib.LaidTab
namespace Go.Proofs.YtgfodedmcjkmaaaDoor
open Go.ChangeShapes Go.WideShapes Go.ChangeAt Go.RowKit Go.Joins
theorem pow_global : Tryd.prog.globalNamed "internal/strconv.uint64pow10" = some 1 := by kernel_rfl
theorem pow_type : (Tryd.prog.globals[1]?).map (·.type) = some 112 := by kernel_rfl
theorem pow_cells : Tryd.prog.cellsOf 112 = 20 := by kernel_rfl
theorem u64_cells : Tryd.prog.cellsOf 99 = 1 := by kernel_rfl
theorem pow_data : (Rows.laid_internal_strconv_uint64pow10 : DataW Unit) = Lib.tabData .u64 Lib.pow10Tab := rfl
/-- what the row's list gives: the table of powers -/
theorem pow_laid {W : World} {n1 n2 : String} {d1 d2 : DataW Unit} (h : laidMet Tryd.prog [(n1, d1), (n2, d2), ("internal/strconv.uint64pow10", Rows.laid_internal_strconv_uint64pow10)] W) : Pw W.heap.size W := by
  obtain ⟨ps, ⟨_, _, _, _, _, _, _, _, _, _, ⟨_, _, _, _, _, _, _, _, _, _, ⟨g', t', cs, fuel, p, q, hg', ht', hvar, hd, _, _⟩, _⟩, _⟩, _⟩ := h
  obtain rfl := Option.some.inj (pow_global.symm.trans hg')
  obtain rfl := Option.some.inj (pow_type.symm.trans ht')
  have hB : 1 < W.heap.size := by
    rcases Nat.lt_or_ge 1 W.heap.size with h | h
    · exact h
    · unfold World.var? at hvar
      rw [pow_global, Option.bind_some, Array.getElem?_eq_none h] at hvar
      cases hvar
  refine ⟨?_, _, pow_global, hB⟩
  unfold Lib.TabIs
  rw [pow_data] at hd
  rw [hvar, ← Lib.cells_of_tab Tryd.underlying112 Tryd.underlying99 u64_cells pow_cells hd]
/-- the numbers of a table as cells -/
def tabCells : DataW Unit → Array Value
  | .agg ps => (ps.map fun d => match d with | .lit (.int k z) => Value.int k z | _ => .bool false).toArray
  | _ => #[]
def laidAt (d : DataW Unit) (o : Obj) : Obj := match o with | .cells _ t fz => .cells (tabCells d) t fz | o => o
noncomputable def laidWorld (os : Os) : World :=
  { World.holding Tryd.prog os ⟨#[], #[], []⟩ with heap := (((World.holding Tryd.prog os ⟨#[], #[], []⟩).heap.modify 2 (laidAt Rows.laid_math_bits_deBruijn32tab)).modify 3 (laidAt Rows.laid_math_bits_deBruijn64tab)).modify 1 (laidAt Rows.laid_internal_strconv_uint64pow10) }
end Go.Proofs.YtgfodedmcjkmaaaDoor
