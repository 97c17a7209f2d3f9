/-
  Walks: the small makers of the reference: Int, Atom, Nil.
-/
import Derived.Test.YtgfodedmcjkmaaaDoorRx
namespace Go.Proofs.YtgfodedmcjkmaaaDoor
open Go.RowKit
theorem rInt_any (n : Int) (w : World) : Calls Tryd.prog 15 #[.int .i64 n] w fun e w' => e = .returned (.agg #[.int .i64 (intF n).k, .int .i64 (intF n).i, .int .i64 (intF n).g, .string (intF n).nm, .string (intF n).fn, .int .i64 (intF n).ar, .slice none 0 0, .string (intF n).bs, .int .i64 (intF n).n]) ∧ Below w.heap.size w w' := by
  go_enter Tryd.func15, Tryd.ntmps15
  go_wp2_with fail
  exact bodyPost_ret (results_one rfl _ _ w.heap.size _ _ _ _ _ _ _ _ _ rfl (heap_alloc_new _ _)) rfl ⟨rfl, below_alloc _ _⟩
theorem rNil_any  (w : World) : Calls Tryd.prog 14 #[] w fun e w' => e = .returned (.agg #[.int .i64 (kF 8).k, .int .i64 (kF 8).i, .int .i64 (kF 8).g, .string (kF 8).nm, .string (kF 8).fn, .int .i64 (kF 8).ar, .slice none 0 0, .string (kF 8).bs, .int .i64 (kF 8).n]) ∧ Below w.heap.size w w' := by
  go_enter Tryd.func14, Tryd.ntmps14
  go_wp2_with fail
  exact bodyPost_ret (results_one rfl _ _ w.heap.size _ _ _ _ _ _ _ _ _ rfl (heap_alloc_new _ _)) rfl ⟨rfl, below_alloc _ _⟩
theorem rAtom_any (s : ByteArray) (w : World) : Calls Tryd.prog 16 #[.string s] w fun e w' => e = .returned (.agg #[.int .i64 (atomF s).k, .int .i64 (atomF s).i, .int .i64 (atomF s).g, .string (atomF s).nm, .string (atomF s).fn, .int .i64 (atomF s).ar, .slice none 0 0, .string (atomF s).bs, .int .i64 (atomF s).n]) ∧ Below w.heap.size w w' := by
  go_enter Tryd.func16, Tryd.ntmps16
  go_wp2_with fail
  exact bodyPost_ret (results_one rfl _ _ w.heap.size _ _ _ _ _ _ _ _ _ rfl (heap_alloc_new _ _)) rfl ⟨rfl, below_alloc _ _⟩
end Go.Proofs.YtgfodedmcjkmaaaDoor
