/-
  Walks: the closure of terms.kinds for bit strings, and the reference's bits.
-/
import Derived.Test.YtgfodedmcjkmaaaDoorSets
import Derived.Test.YtgfodedmcjkmaaaDoorBitsMath
namespace Go.Proofs.YtgfodedmcjkmaaaDoor
open Go.RowKit
open Go.Proofs.BitsM
def lenB (n : Int) : Int := (n + 7) / 8
def validB (s : ByteArray) (n : Int) : Bool := decide (0 ≤ n) && decide ((s.size : Int) = lenB n) && (decide (n % 8 = 0) || decide (byteAt s (s.size - 1) % 2 ^ (8 - (n % 8).toNat) = 0))
theorem validB_neg {s : ByteArray} {n : Int} (h : n < 0) : validB s n = false := by simp [validB]; omega
theorem validB_size {s : ByteArray} {n : Int} (h : ¬ (s.size : Int) = lenB n) : validB s n = false := by simp [validB, h]
theorem validB_whole {s : ByteArray} {n : Int} (h0 : 0 ≤ n) (h : (s.size : Int) = lenB n) (h8 : n % 8 = 0) : validB s n = true := by simp [validB, h0, h, h8]
theorem validB_part {s : ByteArray} {n : Int} (h0 : 0 ≤ n) (h : (s.size : Int) = lenB n) (h8 : ¬ n % 8 = 0) : validB s n = decide (byteAt s (s.size - 1) % 2 ^ (8 - (n % 8).toNat) = 0) := by simp [validB, h0, h, h8]
theorem new2_1d (w : World) (o p : Obj) (n : Nat) : (((w.alloc o).alloc p).drewN n).heap[w.heap.size + 1]? = some p := new2_1 w o p
theorem tail_zero (x r : Nat) (hr : r ≤ 8) : ((x : Int) * 2 ^ r % 256 == 0) = decide (x % 2 ^ (8 - r) = 0) := by
  have h := mul_mod_byte x r hr
  have h2 : ((x : Int) * 2 ^ r % 256) = (((x % 2 ^ (8 - r)) * 2 ^ r : Nat) : Int) := by
    rw [← h]; simp
  rw [h2]
  have hp : 0 < 2 ^ r := Nat.two_pow_pos r
  generalize x % 2 ^ (8 - r) = y
  rw [Bool.eq_iff_iff, beq_iff_eq, decide_eq_true_eq]
  constructor
  · intro e
    have e' : y * 2 ^ r = 0 := by exact_mod_cast e
    rcases Nat.mul_eq_zero.1 e' with h | h
    · exact h
    · omega
  · rintro rfl; simp
set_option maxHeartbeats 2000000 in
theorem kind10_out (f : Fd) (ai : Option Addr) (l ci : Nat) (w : World) (h : withinB f.n 0 16384 = false) :
    Calls Tryd.prog 81 #[f.val (.slice ai l ci)] w fun e w' => e = kindRet {f with bs := ⟨#[]⟩, n := 0} (.slice ai l ci) false ∧ Below w.heap.size w w' := by
  obtain ⟨k, i, g, nm, fn, ar, bs, n⟩ := f
  simp only at *
  have H0 := Lib.hid (fun W => within_any n 0 16384 W)
  rw [h] at H0
  clear h
  unfold Fd.val Fd.cells
  go_enter Tryd.func81, Tryd.ntmps81
  go_wp2_with (go_at_call 71; with_reducible refine (H0.out _).mono ?_; rintro e w' ⟨rfl, rfl⟩)
  refine bodyPost_ret (results_pair rfl _ _ (w.heap.size + 1) _ _ _ _ _ _ _ _ _ rfl (new2_1 w _ _)) rfl ⟨rfl, ?_⟩
  exact balloc (balloc (Below.refl _ _) _) _
set_option maxHeartbeats 2000000 in
theorem kind10_in (f : Fd) (ai : Option Addr) (l ci : Nat) (w : World) (hs : f.bs.size ≤ maxLen) (h : withinB f.n 0 16384 = true) :
    Calls Tryd.prog 81 #[f.val (.slice ai l ci)] w fun e w' => e = kindRet {f with bs := ⟨#[]⟩, n := 0} (.slice ai l ci) (validB f.bs f.n) ∧ Below w.heap.size w w' := by
  obtain ⟨k, i, g, nm, fn, ar, bs, n⟩ := f
  simp only at *
  have H0 := Lib.hid (fun W => within_any n 0 16384 W)
  rw [h] at H0
  unfold withinB at h
  simp only [Bool.and_eq_true, decide_eq_true_eq] at h
  obtain ⟨n0, n1⟩ := h
  obtain ⟨m, rfl⟩ : ∃ m : Nat, n = (m : Int) := ⟨n.toNat, by omega⟩
  clear n0
  unfold maxLen at hs
  unfold Fd.val Fd.cells
  by_cases hl : (bs.size : Int) = lenB (m : Int)
  case neg =>
    have hfin := Lib.hid (validB_size (s := bs) hl)
    have hl' : ¬ (bs.size : Int) = ((m : Int) + 7) / 8 := by unfold lenB at hl; omega
    clear hl
    go_enter Tryd.func81, Tryd.ntmps81
    go_wp2_with (go_at_call 71; with_reducible refine (H0.out _).mono ?_; rintro e w' ⟨rfl, rfl⟩)
    refine bodyPost_ret (results_pair rfl _ _ (w.heap.size + 1) _ _ _ _ _ _ _ _ _ rfl (new2_1 w _ _)) rfl ⟨by rw [hfin.out]; rfl, ?_⟩
    exact balloc (balloc (Below.refl _ _) _) _
  case pos =>
    have l1 : (bs.size : Int) ≤ ((m : Int) + 7) / 8 := by unfold lenB at hl; omega
    have l2 : ((m : Int) + 7) / 8 ≤ (bs.size : Int) := by unfold lenB at hl; omega
    have HL := Lib.hid hl
    clear hl
    by_cases h8 : (m : Int) % 8 = 0
    case pos =>
      have hfin := Lib.hid (validB_whole (by omega) HL.out h8)
      go_enter Tryd.func81, Tryd.ntmps81
      go_wp2_with (go_at_call 71; with_reducible refine (H0.out _).mono ?_; rintro e w' ⟨rfl, rfl⟩)
      all_goals (try (exfalso; omega))
      refine bodyPost_ret (results_pair rfl _ _ (w.heap.size + 1) _ _ _ _ _ _ _ _ _ rfl (new2_1 w _ _)) rfl ⟨by rw [hfin.out]; rfl, ?_⟩
      exact balloc (balloc (Below.refl _ _) _) _
    case neg =>
      have hsz : 1 ≤ bs.size := by omega
      have le : ((m : Int) + 7) / 8 = (bs.size : Int) := by omega
      clear l1 l2
      have hw : IntKind.i64.wrap ((bs.size : Int) - 1) = ((bs.size - 1 : Nat) : Int) := by rw [IntKind.wrap_i64]; omega
      have hq : bs.size - 1 < bs.size := by omega
      have hb := Lib.hid (byteAt_eq (s := bs) (k := bs.size - 1) (by omega))
      have hfin := Lib.hid (validB_part (by omega) HL.out h8)
      go_enter Tryd.func81, Tryd.ntmps81
      go_wp2_with (go_at_call 71; with_reducible refine (H0.out _).mono ?_; rintro e w' ⟨rfl, rfl⟩)
      all_goals (try (exfalso; omega))
      go_quiet (fail)
      go_wp2_with fail
      refine bodyPost_ret (results_pair rfl _ _ (w.heap.size + 1) _ _ _ _ _ _ _ _ _ rfl (nine_blk (blk_oth (blk_oth (new2_1d w _ _ nq) (by omega) _ _) (by omega) _ _) _ _ _ _ _ _ _ _ _)) rfl ⟨?_, ?_⟩
      · rw [hfin.out, ← hb.out, show ((m : Int) % 8).toNat = m % 8 by omega, ← tail_zero _ _ (by omega)]
        rfl
      · repeat (with_reducible refine bset ?_ (by simp) _)
        exact bdrew (balloc (balloc (Below.refl _ _) _) _) _
end Go.Proofs.YtgfodedmcjkmaaaDoor
