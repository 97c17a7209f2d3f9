/-
  A world for the witness that holds the listed variables of law09.
-/
import Derived.Test.YtmcnhggpmlhgeaaGreatDoorCards
import Derived.Test.YtmcnhggpmlhgeaaGreatDoorRow
import Derived.Deep.DeepHandedRow
import Derived.Lib.LaidTab
namespace Go.Proofs.YtmcnhggpmlhgeaaGreatDoor
open Go.ChangeShapes Go.WideShapes Go.ChangeAt Go.RowKit Go.Joins
/-- the plain values of a datum, one behind the other -/
def litsOf : Nat → DataW Unit → List Value
  | 0, _ => []
  | _ + 1, .lit (.int k z) => [Value.int k z]
  | _ + 1, .lit (.string s) => [Value.string ⟨s.toArray⟩]
  | n + 1, .agg ps => ps.flatMap (litsOf n)
  | n + 1, .slice xs _ => xs.flatMap (litsOf n)
  | n + 1, .ptr d => litsOf n d
  | n + 1, .iface _ d => litsOf n d
  | _ + 1, _ => []
def putCells (cs : List Value) (o : Obj) : Obj := match o with | .cells _ t fz => .cells cs.toArray t fz | o => o
/-- the start's heap with the listed variables laid -/
def laidHeap (h : Array Obj) : Array Obj :=
  (((((((((((h.modify 6 (putCells (litsOf 8 Rows.laid_math_bits_deBruijn32tab))).modify 7 (putCells (litsOf 8 Rows.laid_math_bits_deBruijn64tab))).modify 2 (putCells (litsOf 8 Rows.laid_internal_strconv_uint64pow10))).modify 0 (putCells (litsOf 8 Rows.laid_strings_asciiSpace))).modify 5 (putCells [.iface 184 (.pointer (some ⟨h.size, 0, none⟩))])).modify 4 (putCells [.iface 184 (.pointer (some ⟨h.size + 1, 0, none⟩))])).modify 1 (putCells [.pointer (some ⟨h.size + 2, 0, none⟩)])).push (.cells (litsOf 8 Rows.laid_strconv_ErrRange).toArray 186 (0, 0))).push (.cells (litsOf 8 Rows.laid_strconv_ErrSyntax).toArray 186 (0, 0))).push (.cells #[.slice (some ⟨h.size + 3, 0, none⟩) 7 7, .slice none 0 0, .int .i64 2] 128 (0, 0))).push (.cells ((litsOf 8 Rows.laid_unicode_White_Space).take 21).toArray 131 (0, 0)))
noncomputable def laidWorld (os : Os) : World :=
  { World.holding Tryz.prog os ⟨#[], #[], []⟩ with heap := laidHeap (World.holding Tryz.prog os ⟨#[], #[], []⟩).heap }
end Go.Proofs.YtmcnhggpmlhgeaaGreatDoor
