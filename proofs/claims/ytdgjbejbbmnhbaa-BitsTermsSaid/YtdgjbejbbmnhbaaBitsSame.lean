/-
  Walks: Same of a term without items with itself.
-/
import Derived.Test.YtdgjbejbbmnhbaaBitsTerm2
namespace Go.Proofs.Ytdgjbejbbmnhbaa
open Go.RowKit Go.Proofs.BitsM
theorem SameList_nil (w : World) : Calls Try.prog 41 #[.slice none 0 0, .slice none 0 0] w fun e w' => e = .returned (.bool true) ∧ w = w' := by
  go_enter Try.func41, Try.ntmps41
  go_wp2_with fail
  refine wp_loop_rounds 1 ?_
  rw [rounds_succ]
  go_wp2_with fail
  go_ret
  exact ⟨rfl, rfl⟩
set_option maxHeartbeats 1000000 in
theorem Same_self (k i g : Int) (nm fn : ByteArray) (ar : Int) (bs : ByteArray) (n : Int) (w : World) :
    Calls Try.prog 27 #[tmV k i g nm fn ar (.slice none 0 0) bs n, tmV k i g nm fn ar (.slice none 0 0) bs n] w fun e w' => e = .returned (.bool true) ∧ Below w.heap.size w w' := by
  unfold tmV
  go_enter Try.func27, Try.ntmps27
  go_wp2_with fail
  refine (SameList_nil _).mono ?_
  rintro e w1 ⟨rfl, rfl⟩
  go_wp2_with fail
  go_ret
  exact ⟨rfl, balloc (below_alloc _ _) _⟩
end Go.Proofs.Ytdgjbejbbmnhbaa
