/-
  Walks: Pick: an index that a number determines.
-/
import Derived.Test.YtgbaelkoblnlhaaBase
import Derived.Test.YtgbaelkoblnlhaaSteps
import Derived.IntWalk
namespace Go.Proofs.Ytgbaelkoblnlhaa
open Go.RowKit
theorem pick_math (n m : Int) (hm : 1 ≤ m) : (0 ≤ n.tmod m → n.tmod m = n % m) ∧ (n.tmod m < 0 → n.tmod m + m = n % m) ∧ -m < n.tmod m ∧ n.tmod m < m := by
  have h1 := Int.emod_nonneg n (show m ≠ 0 by omega)
  have h2 := Int.emod_lt_of_pos n (show 0 < m by omega)
  have e : n.tmod m = if 0 ≤ n ∨ m ∣ n then n % m else n % m - m := by
    rw [Int.tmod_eq_emod]
    split <;> simp_all <;> omega
  rw [e]
  split
  · exact ⟨fun _ => rfl, fun h => by omega, by omega, by omega⟩
  · exact ⟨fun h => by omega, fun _ => by omega, by omega, by omega⟩
set_option maxHeartbeats 1000000 in
theorem Pick_any (n m : Int) (w : World) (hm : 1 ≤ m) (hm2 : m ≤ 1000000) : Calls Try.prog 26 #[.int .i64 n, .int .i64 m] w fun e w' => e = .returned (.int .i64 (n % m)) ∧ w = w' := by
  obtain ⟨p1, p2, p3, p4⟩ := pick_math n m hm
  have P1 := Lib.hid p1
  have P2 := Lib.hid p2
  clear p1 p2
  have hm0 : (m == 0) = false := by simp; omega
  by_cases h : n.tmod m < 0
  · have e := Lib.hid (P2.out h)
    go_enter Try.func26, Try.ntmps26
    go_wp2_with fail
    go_ret
    exact ⟨by rw [← e.out]; rfl, rfl⟩
  · have e := Lib.hid (P1.out (by omega))
    have h' : 0 ≤ n.tmod m := by omega
    go_enter Try.func26, Try.ntmps26
    go_wp2_with fail
    go_ret
    exact ⟨by rw [← e.out]; rfl, rfl⟩
end Go.Proofs.Ytgbaelkoblnlhaa
