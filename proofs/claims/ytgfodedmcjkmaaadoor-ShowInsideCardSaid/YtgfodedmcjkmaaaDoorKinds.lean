/-
  Walks: within, between, and the closures of terms.kinds.
-/
import Derived.Test.YtgfodedmcjkmaaaDoorNames
import Derived.Test.YtgfodedmcjkmaaaDoorKitSame
namespace Go.Proofs.YtgfodedmcjkmaaaDoor
open Go.RowKit
def withinB (n a b : Int) : Bool := decide (a ≤ n) && decide (n ≤ b)
theorem within_any (n a b : Int) (w : World) :
    Calls Tryd.prog 71 #[.int .i64 n, .int .i64 a, .int .i64 b] w fun e w' => e = .returned (.bool (withinB n a b)) ∧ w = w' := by
  unfold withinB
  by_cases h1 : a ≤ n
  · by_cases h2 : n ≤ b
    · go_enter Tryd.func71, Tryd.ntmps71
      go_wp2_with fail
      go_ret
      exact ⟨by simp [h1, h2], rfl⟩
    · go_enter Tryd.func71, Tryd.ntmps71
      go_wp2_with fail
      go_ret
      exact ⟨by simp [h2], rfl⟩
  · go_enter Tryd.func71, Tryd.ntmps71
    go_wp2_with fail
    go_ret
    exact ⟨by rw [decide_eq_false (show ¬ a ≤ n by omega)]; rfl, rfl⟩
theorem between_any (n a b : Int) (w : World) :
    Calls Tryd.prog 48 #[.int .i64 n, .int .i64 a, .int .i64 b] w fun e w' => e = .returned (.bool (withinB n a b)) ∧ w = w' := by
  unfold withinB
  by_cases h1 : a ≤ n
  · by_cases h2 : n ≤ b
    · go_enter Tryd.func48, Tryd.ntmps48
      go_wp2_with fail
      go_ret
      exact ⟨by simp [h1, h2], rfl⟩
    · go_enter Tryd.func48, Tryd.ntmps48
      go_wp2_with fail
      go_ret
      exact ⟨by simp [h2], rfl⟩
  · go_enter Tryd.func48, Tryd.ntmps48
    go_wp2_with fail
    go_ret
    exact ⟨by rw [decide_eq_false (show ¬ a ≤ n by omega)]; rfl, rfl⟩
/-- what a closure of kinds answers -/
def kindRet (f : Fd) (iv : Value) (ok : Bool) : Ending := .returned (.tuple #[f.val iv, .bool ok])
theorem kind2_any (f : Fd) (ai : Option Addr) (l ci : Nat) (w : World) :
    Calls Tryd.prog 73 #[f.val (.slice ai l ci)] w fun e w' => e = kindRet f (.slice ai l ci) false ∧ Below w.heap.size w w' := by
  unfold Fd.val Fd.cells
  go_enter Tryd.func73, Tryd.ntmps73
  go_wp2_with fail
  refine bodyPost_ret (v := .tuple #[f.val (.slice ai l ci), .bool false]) (by simp [results, Tryd.results73, go_sem, Fd.val, Fd.cells]) rfl ⟨rfl, ?_⟩
  first | exact balloc (balloc (Below.refl _ _) _) _ | exact bset (bset (bset (bset (bset (bset (bset (bset (bset (balloc (balloc (Below.refl _ _) _) _) (by simp) _) (by simp) _) (by simp) _) (by simp) _) (by simp) _) (by simp) _) (by simp) _) (by simp) _) (by simp) _ | trace_state
theorem kind3_any (f : Fd) (ai : Option Addr) (l ci : Nat) (w : World) :
    Calls Tryd.prog 74 #[f.val (.slice ai l ci)] w fun e w' => e = kindRet {f with i := 0} (.slice ai l ci) true ∧ Below w.heap.size w w' := by
  unfold Fd.val Fd.cells
  go_enter Tryd.func74, Tryd.ntmps74
  go_wp2_with fail
  refine bodyPost_ret (v := .tuple #[Fd.val {f with i := 0} (.slice ai l ci), .bool true]) (by simp [results, Tryd.results74, go_sem, Fd.val, Fd.cells]) rfl ⟨rfl, ?_⟩
  first | exact balloc (balloc (Below.refl _ _) _) _ | exact bset (bset (bset (bset (bset (bset (bset (bset (bset (balloc (balloc (Below.refl _ _) _) _) (by simp) _) (by simp) _) (by simp) _) (by simp) _) (by simp) _) (by simp) _) (by simp) _) (by simp) _) (by simp) _ | trace_state
theorem kind8_any (f : Fd) (ai : Option Addr) (l ci : Nat) (w : World) :
    Calls Tryd.prog 79 #[f.val (.slice ai l ci)] w fun e w' => e = kindRet f (.slice ai l ci) true ∧ Below w.heap.size w w' := by
  unfold Fd.val Fd.cells
  go_enter Tryd.func79, Tryd.ntmps79
  go_wp2_with fail
  refine bodyPost_ret (v := .tuple #[f.val (.slice ai l ci), .bool true]) (by simp [results, Tryd.results79, go_sem, Fd.val, Fd.cells]) rfl ⟨rfl, ?_⟩
  first | exact balloc (balloc (Below.refl _ _) _) _ | exact bset (bset (bset (bset (bset (bset (bset (bset (bset (balloc (balloc (Below.refl _ _) _) _) (by simp) _) (by simp) _) (by simp) _) (by simp) _) (by simp) _) (by simp) _) (by simp) _) (by simp) _) (by simp) _ | trace_state
theorem kind7_any (f : Fd) (ai : Option Addr) (l ci : Nat) (w : World) :
    Calls Tryd.prog 78 #[f.val (.slice ai l ci)] w fun e w' => e = kindRet f (.slice none 0 0) (decide (l ≤ 255)) ∧ Below w.heap.size w w' := by
  unfold Fd.val Fd.cells
  go_enter Tryd.func78, Tryd.ntmps78
  go_wp2_with fail
  refine bodyPost_ret (v := .tuple #[f.val (.slice none 0 0), .bool (decide (l ≤ 255))]) (by simp [results, Tryd.results78, go_sem, Fd.val, Fd.cells]; try omega) rfl ⟨rfl, ?_⟩
  exact balloc (balloc (Below.refl _ _) _) _
end Go.Proofs.YtgfodedmcjkmaaaDoor
