/-
  Plain mathematics: the bits of an integer, written as bytes; a row turned round.
-/
import Derived.Test.YtdgjbejbbmnhbaaBitsMath
namespace Go.Proofs.BitsM
/-- the low bits of an integer, the highest first -/
def lowU (v : Int) : Nat := (v % 18446744073709551616).toNat
def vbits (v : Int) (size : Nat) : List Bool := (List.range size).map fun i => (lowU v).testBit (size - 1 - i)
theorem vbits_length (v : Int) (size : Nat) : (vbits v size).length = size := by simp [vbits]
def putU (v : Int) (size : Nat) : Nat := lowU v * 2 ^ (64 - size) % 2 ^ 64
def putV (v : Int) (size k : Nat) : Nat := putU v size * 2 ^ (8 * k) % 2 ^ 64
def putB (v : Int) (size k : Nat) : Nat := putV v size k / 2 ^ 56
theorem lowU_lt (v : Int) : lowU v < 2 ^ 64 := by unfold lowU; omega
theorem putB_lt (v : Int) (size k : Nat) : putB v size k < 256 := by
  unfold putB putV
  rw [Nat.div_lt_iff_lt_mul (by decide)]
  exact Nat.mod_lt _ (by decide)
theorem putV_zero (v : Int) (size : Nat) : putV v size 0 = putU v size := by simp [putV, putU]
theorem putV_succ (v : Int) (size k : Nat) : putV v size (k + 1) = putV v size k * 2 ^ 8 % 2 ^ 64 := by
  unfold putV
  rw [Nat.mod_mul_mod, Nat.mul_assoc, ← Nat.pow_add]
  rfl
theorem putB_testBit (v : Int) (size k j : Nat) (hs : size ≤ 64) (hj : j < 8) (hk : 8 * k < size) : (putB v size k).testBit (7 - j) = (vbits v size).getD (8 * k + j) false := by
  unfold putB putV putU
  rw [Nat.testBit_div_two_pow, Nat.testBit_mod_two_pow, Nat.testBit_mul_two_pow, Nat.testBit_mod_two_pow, Nat.testBit_mul_two_pow]
  have e1 : decide (7 - j + 56 < 64) = true := by simp; omega
  rw [e1]
  by_cases h : 8 * k + j < size
  · have e2 : decide (8 * k ≤ 7 - j + 56) = true := by simp; omega
    have e3 : decide (7 - j + 56 - 8 * k < 64) = true := by simp; omega
    have e4 : decide (64 - size ≤ 7 - j + 56 - 8 * k) = true := by simp; omega
    rw [e2, e3, e4]
    simp only [vbits, List.getD, List.getElem?_map, List.getElem?_range h, Option.map_some, Option.getD_some, Bool.true_and]
    congr 1; omega
  · rw [getD_ge _ _ (by rw [vbits_length]; omega)]
    by_cases h2 : 8 * k ≤ 7 - j + 56
    · have e4 : decide (64 - size ≤ 7 - j + 56 - 8 * k) = false := by simp; omega
      rw [e4]; simp
    · have e2 : decide (8 * k ≤ 7 - j + 56) = false := by simp; omega
      rw [e2]; simp
theorem putB_pack (v : Int) (size : Nat) (hs : size ≤ 64) : (List.range ((size + 7) / 8)).map (putB v size) = packN (vbits v size) := by
  apply packN_unique
  · simp [vbits_length]
  · intro x hx
    simp only [List.mem_map] at hx
    obtain ⟨k, _, rfl⟩ := hx
    exact putB_lt _ _ _
  · intro i hi
    simp only [List.length_map, List.length_range] at hi
    have h1 : i / 8 < (size + 7) / 8 := by omega
    unfold lbit
    simp only [List.getD, List.getElem?_map, List.getElem?_range h1, Option.map_some, Option.getD_some]
    have := putB_testBit v size (i / 8) (i % 8) hs (by omega) (by omega)
    rw [this]
    simp only [List.getD]
    congr 2; omega
/-- the row after k rounds of the loop that fills it -/
def putRow (v : Int) (size n k : Nat) : List Nat := (List.range n).map fun i => if i < k then putB v size i else 0
theorem putRow_zero (v : Int) (size n : Nat) : putRow v size n 0 = List.replicate n 0 := by
  apply List.ext_getElem <;> simp [putRow]
theorem putRow_succ (v : Int) (size n k : Nat) (_ : k < n) : putRow v size n (k + 1) = (putRow v size n k).set k (putB v size k) := by
  apply List.ext_getElem
  · simp [putRow]
  · intro i h1 h2
    simp only [putRow, List.getElem_map, List.getElem_range, List.getElem_set]
    by_cases e : k = i
    · subst e; simp
    · rw [if_neg e]
      by_cases h3 : i < k
      · rw [if_pos h3, if_pos (by omega)]
      · rw [if_neg h3, if_neg (by omega)]
theorem putRow_all (v : Int) (size n : Nat) : putRow v size n n = (List.range n).map (putB v size) := by
  apply List.map_congr_left
  intro i hi
  rw [if_pos (List.mem_range.1 hi)]
@[simp] theorem putRow_length (v : Int) (size n k : Nat) : (putRow v size n k).length = n := by simp [putRow]

/-- the row with its first k and its last k elements exchanged -/
def rvRow (o : List Nat) (k : Nat) : List Nat := (List.range o.length).map fun i => if i < k ∨ o.length - k ≤ i then o.getD (o.length - 1 - i) 0 else o.getD i 0
theorem rvRow_length (o : List Nat) (k : Nat) : (rvRow o k).length = o.length := by simp [rvRow]
theorem rvRow_zero (o : List Nat) : rvRow o 0 = o := by
  apply List.ext_getElem
  · simp [rvRow]
  · intro i h1 h2
    simp [rvRow, List.getD, h2]
    intro h; omega
theorem rvRow_getD (o : List Nat) (k i : Nat) (h1 : k ≤ i) (h2 : i < o.length - k) : (rvRow o k).getD i 0 = o.getD i 0 := by
  have : i < o.length := by omega
  simp only [rvRow, List.getD, List.getElem?_map, List.getElem?_range this, Option.map_some, Option.getD_some]
  rw [if_neg (by omega)]
theorem rvRow_succ (o : List Nat) (k : Nat) (h : 2 * k + 1 < o.length) : rvRow o (k + 1) = ((rvRow o k).set k (o.getD (o.length - 1 - k) 0)).set (o.length - 1 - k) (o.getD k 0) := by
  apply List.ext_getElem
  · simp [rvRow]
  · intro i h1 h2
    simp only [rvRow, List.length_map, List.length_range] at h1
    simp only [rvRow, List.getElem_map, List.getElem_range, List.getElem_set]
    by_cases e1 : o.length - 1 - k = i
    · rw [if_pos e1, if_pos (by omega)]; congr 1; omega
    · rw [if_neg e1]
      by_cases e2 : k = i
      · rw [if_pos e2, if_pos (by omega)]; congr 1; omega
      · rw [if_neg e2]
        by_cases h3 : i < k ∨ o.length - k ≤ i
        · rw [if_pos h3, if_pos (by omega)]
        · rw [if_neg h3, if_neg (by omega)]
theorem rvRow_all (o : List Nat) (k : Nat) (h : o.length ≤ 2 * k + 1) : rvRow o k = o.reverse := by
  apply List.ext_getElem
  · simp [rvRow]
  · intro i h1 h2
    simp only [List.length_reverse] at h2
    simp only [rvRow, List.getElem_map, List.getElem_range, List.getElem_reverse]
    by_cases h3 : i < k ∨ o.length - k ≤ i
    · rw [if_pos h3]
      simp only [List.getD]
      rw [List.getElem?_eq_getElem (by omega)]; rfl
    · rw [if_neg h3]
      have : o.length - 1 - i = i := by omega
      simp only [List.getD, this]
      rw [List.getElem?_eq_getElem h2]; rfl
end Go.Proofs.BitsM
