/-
  Walks: within, between, and the closures of terms.kinds.
-/
import Derived.Test.YtgbaelkoblnlhaaNames
import Derived.Test.YtgbaelkoblnlhaaKitSame
namespace Go.Proofs.Ytgbaelkoblnlhaa
open Go.RowKit
def withinB (n a b : Int) : Bool := decide (a ≤ n) && decide (n ≤ b)
theorem within_any (n a b : Int) (w : World) :
    Calls Try.prog 98 #[.int .i64 n, .int .i64 a, .int .i64 b] w fun e w' => e = .returned (.bool (withinB n a b)) ∧ w = w' := by
  unfold withinB
  by_cases h1 : a ≤ n
  · by_cases h2 : n ≤ b
    · go_enter Try.func98, Try.ntmps98
      go_wp2_with fail
      go_ret
      exact ⟨by simp [h1, h2], rfl⟩
    · go_enter Try.func98, Try.ntmps98
      go_wp2_with fail
      go_ret
      exact ⟨by simp [h2], rfl⟩
  · go_enter Try.func98, Try.ntmps98
    go_wp2_with fail
    go_ret
    exact ⟨by rw [decide_eq_false (show ¬ a ≤ n by omega)]; rfl, rfl⟩
theorem between_any (n a b : Int) (w : World) :
    Calls Try.prog 95 #[.int .i64 n, .int .i64 a, .int .i64 b] w fun e w' => e = .returned (.bool (withinB n a b)) ∧ w = w' := by
  unfold withinB
  by_cases h1 : a ≤ n
  · by_cases h2 : n ≤ b
    · go_enter Try.func95, Try.ntmps95
      go_wp2_with fail
      go_ret
      exact ⟨by simp [h1, h2], rfl⟩
    · go_enter Try.func95, Try.ntmps95
      go_wp2_with fail
      go_ret
      exact ⟨by simp [h2], rfl⟩
  · go_enter Try.func95, Try.ntmps95
    go_wp2_with fail
    go_ret
    exact ⟨by rw [decide_eq_false (show ¬ a ≤ n by omega)]; rfl, rfl⟩
/-- what a closure of kinds answers -/
def kindRet (f : Fd) (iv : Value) (ok : Bool) : Ending := .returned (.tuple #[f.val iv, .bool ok])
theorem kind2_any (f : Fd) (ai : Option Addr) (l ci : Nat) (w : World) :
    Calls Try.prog 99 #[f.val (.slice ai l ci)] w fun e w' => e = kindRet f (.slice ai l ci) false ∧ Below w.heap.size w w' := by
  unfold Fd.val Fd.cells
  go_enter Try.func99, Try.ntmps99
  go_wp2_with fail
  refine bodyPost_ret (v := .tuple #[f.val (.slice ai l ci), .bool false]) (by simp [results, Try.results99, go_sem, Fd.val, Fd.cells]) rfl ⟨rfl, ?_⟩
  first | exact balloc (balloc (Below.refl _ _) _) _ | exact bset (bset (bset (bset (bset (bset (bset (bset (bset (balloc (balloc (Below.refl _ _) _) _) (by simp) _) (by simp) _) (by simp) _) (by simp) _) (by simp) _) (by simp) _) (by simp) _) (by simp) _) (by simp) _ | trace_state
theorem kind3_any (f : Fd) (ai : Option Addr) (l ci : Nat) (w : World) :
    Calls Try.prog 100 #[f.val (.slice ai l ci)] w fun e w' => e = kindRet {f with i := 0} (.slice ai l ci) true ∧ Below w.heap.size w w' := by
  unfold Fd.val Fd.cells
  go_enter Try.func100, Try.ntmps100
  go_wp2_with fail
  refine bodyPost_ret (v := .tuple #[Fd.val {f with i := 0} (.slice ai l ci), .bool true]) (by simp [results, Try.results100, go_sem, Fd.val, Fd.cells]) rfl ⟨rfl, ?_⟩
  first | exact balloc (balloc (Below.refl _ _) _) _ | exact bset (bset (bset (bset (bset (bset (bset (bset (bset (balloc (balloc (Below.refl _ _) _) _) (by simp) _) (by simp) _) (by simp) _) (by simp) _) (by simp) _) (by simp) _) (by simp) _) (by simp) _) (by simp) _ | trace_state
theorem kind8_any (f : Fd) (ai : Option Addr) (l ci : Nat) (w : World) :
    Calls Try.prog 105 #[f.val (.slice ai l ci)] w fun e w' => e = kindRet f (.slice ai l ci) true ∧ Below w.heap.size w w' := by
  unfold Fd.val Fd.cells
  go_enter Try.func105, Try.ntmps105
  go_wp2_with fail
  refine bodyPost_ret (v := .tuple #[f.val (.slice ai l ci), .bool true]) (by simp [results, Try.results105, go_sem, Fd.val, Fd.cells]) rfl ⟨rfl, ?_⟩
  first | exact balloc (balloc (Below.refl _ _) _) _ | exact bset (bset (bset (bset (bset (bset (bset (bset (bset (balloc (balloc (Below.refl _ _) _) _) (by simp) _) (by simp) _) (by simp) _) (by simp) _) (by simp) _) (by simp) _) (by simp) _) (by simp) _) (by simp) _ | trace_state
theorem kind7_any (f : Fd) (ai : Option Addr) (l ci : Nat) (w : World) :
    Calls Try.prog 104 #[f.val (.slice ai l ci)] w fun e w' => e = kindRet f (.slice none 0 0) (decide (l ≤ 255)) ∧ Below w.heap.size w w' := by
  unfold Fd.val Fd.cells
  go_enter Try.func104, Try.ntmps104
  go_wp2_with fail
  refine bodyPost_ret (v := .tuple #[f.val (.slice none 0 0), .bool (decide (l ≤ 255))]) (by simp [results, Try.results104, go_sem, Fd.val, Fd.cells]; try omega) rfl ⟨rfl, ?_⟩
  exact balloc (balloc (Below.refl _ _) _) _
end Go.Proofs.Ytgbaelkoblnlhaa
