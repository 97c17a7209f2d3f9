/-
  Walks: the reference's bits of a term.
-/
import Derived.Test.YtgfodedmcjkmaaaDoorRForm
import Derived.IntWalk
namespace Go.Proofs.YtgfodedmcjkmaaaDoor
open Go.RowKit
open Go.Proofs.BitsM
theorem bits_in {n : Int} (h0 : 0 ≤ n) (h1 : n ≤ 16384) : withinB n 0 16384 = true := by unfold withinB; rw [decide_eq_true h0, decide_eq_true h1]; rfl
set_option maxHeartbeats 1000000 in
theorem rbits_any (f : Fd) (ai : Option Addr) (l ci : Nat) (w : World) (hs : f.bs.size ≤ maxLen) :
    Calls Tryd.prog 49 #[.agg #[.int .i64 f.k, .int .i64 f.i, .int .i64 f.g, .string f.nm, .string f.fn, .int .i64 f.ar, .slice ai l ci, .string f.bs, .int .i64 f.n]] w fun e w' => e = .returned (.bool (withinB f.n 0 16384 && validB f.bs f.n)) ∧ Below w.heap.size w w' := by
  obtain ⟨k, i, g, nm, fn, ar, bs, n⟩ := f
  simp only at *
  unfold maxLen at hs
  by_cases h0 : n < 0
  · have HF := Lib.hid (show (withinB n 0 16384 && validB bs n) = false by rw [validB_neg h0, Bool.and_false])
    go_enter Tryd.func49, Tryd.ntmps49
    go_wp2_with fail
    go_ret
    exact ⟨ret_bool HF.out.symm, below_alloc _ _⟩
  have h0' : 0 ≤ n := by omega
  by_cases h1 : 16384 < n
  · have HF := Lib.hid (show (withinB n 0 16384 && validB bs n) = false by
      have : withinB n 0 16384 = false := by unfold withinB; rw [decide_eq_false (show ¬ n ≤ 16384 by omega), Bool.and_false]
      rw [this, Bool.false_and])
    clear h0
    go_enter Tryd.func49, Tryd.ntmps49
    go_wp2_with fail
    go_ret
    exact ⟨ret_bool HF.out.symm, below_alloc _ _⟩
  have HI := Lib.hid (bits_in h0' (by omega))
  obtain ⟨m, rfl⟩ : ∃ m : Nat, n = (m : Int) := ⟨n.toNat, by omega⟩
  have h1' : (m : Int) ≤ 16384 := by omega
  clear h0 h0' h1
  by_cases hl : (bs.size : Int) = lenB (m : Int)
  case neg =>
    have HF := Lib.hid (show (withinB (m : Int) 0 16384 && validB bs (m : Int)) = false by rw [validB_size hl, Bool.and_false])
    have hl' : ¬ (bs.size : Int) = ((m : Int) + 7) / 8 := by unfold lenB at hl; omega
    have hl2 : ((bs.size : Int) != ((m : Int) + 7) / 8) = true := by simpa using hl'
    clear hl hl'
    go_enter Tryd.func49, Tryd.ntmps49
    go_wp2_with fail
    go_ret
    exact ⟨ret_bool HF.out.symm, below_alloc _ _⟩
  have HL := Lib.hid hl
  have hl2 : ((bs.size : Int) != ((m : Int) + 7) / 8) = false := by unfold lenB at hl; simp [hl]
  clear hl
  by_cases h8 : (m : Int) % 8 = 0
  case pos =>
    have HF := Lib.hid (show (withinB (m : Int) 0 16384 && validB bs (m : Int)) = true by rw [HI.out, validB_whole (by omega) HL.out h8]; rfl)
    have h82 : ((m : Int) % 8 == 0) = true := by simpa using h8
    clear h8
    go_enter Tryd.func49, Tryd.ntmps49
    go_wp2_with fail
    go_ret
    exact ⟨ret_bool HF.out.symm, below_alloc _ _⟩
  have HF := Lib.hid (show (withinB (m : Int) 0 16384 && validB bs (m : Int)) = decide (byteAt bs (bs.size - 1) % 2 ^ (8 - m % 8) = 0) by
    rw [HI.out, validB_part (by omega) HL.out h8, show ((m : Int) % 8).toNat = m % 8 by omega]; rfl)
  have h82 : ((m : Int) % 8 == 0) = false := by simpa using h8
  have hsz : 1 ≤ bs.size := by have := HL.out; unfold lenB at this; omega
  have hq : bs.size - 1 < bs.size := by omega
  have hi0 : (0 : Int) ≤ (bs.size : Int) - 1 := by omega
  have hi1 : (bs.size : Int) - 1 < (bs.size : Int) := by omega
  have hy := Lib.hid (byteAt_eq (s := bs) (k := bs.size - 1) (by omega))
  have hylt := byteAt_lt bs (bs.size - 1)
  clear h8
  generalize hym : byteAt bs (bs.size - 1) = y at hy hylt HF
  clear hym
  have hr : m % 8 < 8 := by omega
  go_enter Tryd.func49, Tryd.ntmps49
  go_wp2_with fail
  rw [show wrap64 ((bs[bs.size - 1]).toNat : Int) = (y : Int) by rw [hy.out]; unfold wrap64; omega]
  clear hy
  go_loop [4, 5] (fun u i => ∃ j q : Nat, m % 8 ≤ j ∧ j ≤ 8 ∧ i = .int .i64 j ∧ u = .int .i64 q ∧ Hid (q = 2 ^ (j - m % 8)) ∧ 1 ≤ q ∧ q ≤ 256) (fun _ i => 8 - (intOf i).toNat)
  case atStart => exact ⟨m % 8, 1, Nat.le_refl _, by omega, by go_num, rfl, Lib.hid (by rw [Nat.sub_self]), by omega, by omega⟩
  case round =>
    obtain ⟨j, q, hj0, hj, rfl, rfl, HQ, hq0, hq1⟩ := hrel
    by_cases hlt : j < 8
    · have hlt' : (j : Int) < 8 := by omega
      have HQ2 := Lib.hid (show q * 2 = 2 ^ (j + 1 - m % 8) by rw [HQ.out, show j + 1 - m % 8 = j - m % 8 + 1 by omega, Nat.pow_succ])
      have hq2 : q * 2 ≤ 256 := by
        rw [HQ2.out]; exact Nat.pow_le_pow_right (n := 2) (j := 8) (by omega) (by omega)
      go_wp2_with fail
      refine ⟨⟨j + 1, q * 2, by omega, by omega, by go_num, by go_num, HQ2, by omega, hq2⟩, by simp only [intOf]; omega⟩
    · have hlt' : ¬ (j : Int) < 8 := by omega
      obtain rfl : j = 8 := by omega
      have hq3 : (0 : Int) < (q : Int) := by omega
      have hq4 : (0 : Int) ≤ (y : Int) := by omega
      go_wp2_with fail
      go_ret
      refine ⟨?_, below_alloc _ _⟩
      rw [HF.out, ← HQ.out]
      refine ret_bool ?_
      rw [Bool.eq_iff_iff, decide_eq_true_eq]
      rw [beq_iff_eq]
      exact ⟨fun h => by exact_mod_cast h, fun h => by exact_mod_cast h⟩
end Go.Proofs.YtgfodedmcjkmaaaDoor
