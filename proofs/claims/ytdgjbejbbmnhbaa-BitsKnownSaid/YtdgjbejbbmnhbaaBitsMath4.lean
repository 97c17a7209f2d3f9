/-
  Plain mathematics: the integer that a list of bits encodes; bytes in the reverse order.
-/
import Derived.Test.YtdgjbejbbmnhbaaBitsMath3
import Derived.Test.YtdgjbejbbmnhbaaBitsPut
namespace Go.Proofs.Ytdgjbejbbmnhbaa
open Go.RowKit Go.Proofs.BitsM
theorem accN_add (L : List Bool) (i a : Nat) : ∀ b, accN L i (a + b) = accN L i a * 2 ^ b + accN L (i + a) b
  | 0 => by simp [accN]
  | b + 1 => by
    rw [← Nat.add_assoc, accN, accN_add L i a b, accN, Nat.pow_succ, Nat.add_assoc i a b]
    rw [Nat.mul_add, ← Nat.mul_assoc 2, Nat.mul_comm 2 (accN L i a), Nat.mul_assoc, Nat.mul_comm 2 (2 ^ b)]
    omega
theorem accN_zeros (L : List Bool) (i : Nat) (h : L.length ≤ i) : ∀ b, accN L i b = 0
  | 0 => rfl
  | b + 1 => by rw [accN, accN_zeros L i h b, getD_ge L (i + b) (by omega)]; rfl
/-- the integer of all bits -/
def valN (L : List Bool) : Nat := accN L 0 L.length
theorem valN_lt (L : List Bool) : valN L < 2 ^ L.length := accN_lt _ _ _
theorem valN_high (L : List Bool) (n : Nat) (h : L.length = n + 1) : valN L = (L.getD 0 false).toNat * 2 ^ n + accN L 1 n ∧ accN L 1 n < 2 ^ n := by
  refine ⟨?_, accN_lt _ _ _⟩
  unfold valN
  rw [h, Nat.add_comm n 1, accN_add]
  simp [accN]
theorem accN_bytes (L : List Bool) (k : Nat) : accN L 0 (8 * (k + 1)) = accN L 0 (8 * k) * 256 + (packN L).getD k 0 := by
  rw [show 8 * (k + 1) = 8 * k + 8 by omega, accN_add, Nat.zero_add, accN_eight]
  congr 1
  by_cases h : k < (packN L).length
  · simp only [List.getD, List.getElem?_eq_getElem h, Option.getD_some]
    simp [packN]
  · rw [List.getD, List.getElem?_eq_none (by omega)]
    rw [packN_length] at h
    have e : ∀ j, L.getD (8 * k + j) false = false := fun j => getD_ge _ _ (by omega)
    simp only [byteN, e]
    rfl
theorem accN_pad (L : List Bool) (q : Nat) (h : L.length ≤ 8 * q) : accN L 0 (8 * q) = valN L * 2 ^ (8 * q - L.length) := by
  rw [show 8 * q = L.length + (8 * q - L.length) by omega, accN_add, Nat.zero_add, accN_zeros _ _ (Nat.le_refl _)]
  unfold valN
  rw [show L.length + (8 * q - L.length) - L.length = 8 * q - L.length by omega]
  omega
/-- the bits with their bytes in the reverse order -/
def turnB (L : List Bool) : List Bool := (List.range L.length).map fun i => L.getD (8 * (L.length / 8 - 1 - i / 8) + i % 8) false
@[simp] theorem turnB_length (L : List Bool) : (turnB L).length = L.length := by simp [turnB]
theorem turnB_getD (L : List Bool) (i : Nat) (h : i < L.length) : (turnB L).getD i false = L.getD (8 * (L.length / 8 - 1 - i / 8) + i % 8) false := by
  simp [turnB, List.getD, h]
theorem turnB_nil : turnB [] = [] := rfl
theorem packN_turn (L : List Bool) (q : Nat) (h : L.length = 8 * q) : (packN L).reverse = packN (turnB L) := by
  apply packN_unique
  · simp
  · intro x hx
    exact packN_lt L x (List.mem_reverse.1 hx)
  · intro i hi
    simp only [List.length_reverse, packN_length] at hi
    rw [turnB_getD _ _ (by omega)]
    have hb := packN_lbit L (8 * (L.length / 8 - 1 - i / 8) + i % 8)
    rw [← hb]
    unfold lbit
    rw [show (8 * (L.length / 8 - 1 - i / 8) + i % 8) / 8 = L.length / 8 - 1 - i / 8 by omega, show (8 * (L.length / 8 - 1 - i / 8) + i % 8) % 8 = i % 8 by omega]
    congr 1
    have hlen : (packN L).length = q := by rw [packN_length]; omega
    simp only [List.getD]
    rw [List.getElem?_reverse (by rw [hlen]; omega), hlen]
    congr 2
    omega
theorem turnB_take (L : List Bool) (q k : Nat) (h : L.length = 8 * q) (hk : k < q) : (turnB L).take (8 * (k + 1)) = (turnB L).take (8 * k) ++ (L.drop (8 * (q - 1 - k))).take 8 := by
  apply List.ext_getElem
  · simp; omega
  · intro i h1 h2
    simp only [List.length_take, turnB_length] at h1
    rw [List.getElem_take]
    have e : (turnB L)[i]'(by rw [turnB_length]; omega) = L.getD (8 * (L.length / 8 - 1 - i / 8) + i % 8) false := by
      rw [← turnB_getD L i (by omega)]
      simp only [List.getD]
      rw [List.getElem?_eq_getElem (by rw [turnB_length]; omega)]; rfl
    rw [e]
    by_cases hi : i < 8 * k
    · rw [List.getElem_append_left (by simp; omega), List.getElem_take]
      have e2 : (turnB L)[i]'(by rw [turnB_length]; omega) = L.getD (8 * (L.length / 8 - 1 - i / 8) + i % 8) false := e
      rw [e2]
    · rw [List.getElem_append_right (by simp; omega), List.getElem_take, List.getElem_drop]
      simp only [List.length_take, turnB_length]
      have hm : min (8 * k) L.length = 8 * k := by omega
      simp only [hm]
      simp only [List.getD]
      rw [List.getElem?_eq_getElem (by omega)]
      simp only [Option.getD_some]
      congr 1; omega
theorem vbits_take (v : Int) (size k : Nat) (h : k < size) : (vbits v size).take (k + 1) = (vbits v size).take k ++ [(lowU v).testBit (size - 1 - k)] := by
  rw [List.take_succ_eq_append_getElem (by rw [vbits_length]; exact h)]
  simp [vbits]
/-- the little-endian or big-endian order -/
def endB (little : Bool) (L : List Bool) : List Bool := if little = true then turnB L else L
@[simp] theorem endB_length (little : Bool) (L : List Bool) : (endB little L).length = L.length := by unfold endB; split <;> simp
theorem put_end (v : Int) (size : Nat) (little : Bool) (h8 : little = true → size % 8 = 0) : bytesS (putBytes v size little) = packS (endB little (vbits v size)) := by
  unfold putBytes endB
  cases little
  · rfl
  · have := h8 rfl
    rw [if_pos rfl, if_pos rfl, packS_eq, packN_turn (vbits v size) (size / 8) (by rw [vbits_length]; omega)]
/-- what GetInt returns of valid bits -/
def getV (M : List Bool) (signed : Bool) : Int × Int :=
  if signed = true then (if M.getD 0 false = true then (valN M : Int) - 2 ^ M.length else valN M, 0)
  else if M.length = 64 ∧ M.getD 0 false = true then (0, 7) else (valN M, 0)
def getBad (s : ByteArray) (n : Int) (little : Bool) : Bool := !validB s n || decide (64 < n) || (little && !decide (n % 8 = 0))
def getR (s : ByteArray) (n : Int) (signed little : Bool) : Int × Int :=
  if getBad s n little = true then (0, 2) else getV (endB little (bitsB s 0 n.toNat)) signed
/-- the bytes put together, k of them -/
def accU (M : List Bool) (k : Nat) : Nat := accN M 0 (8 * k) * 2 ^ (64 - 8 * k)
theorem accU_lt (M : List Bool) (k : Nat) (hk : k ≤ 8) : accU M k < 2 ^ 64 := by
  unfold accU
  have h := accN_lt M 0 (8 * k)
  calc _ < 2 ^ (8 * k) * 2 ^ (64 - 8 * k) := (Nat.mul_lt_mul_right (Nat.two_pow_pos _)).2 h
    _ = 2 ^ 64 := by rw [← Nat.pow_add]; congr 1; omega
theorem accU_or (M : List Bool) (k : Nat) (hk : k < 8) : accU M k ||| ((packN M).getD k 0 * 2 ^ (56 - 8 * k)) = accU M (k + 1) := by
  have hb : (packN M).getD k 0 < 256 := getD_lt256 _ (packN_lt M) k
  have hlt : (packN M).getD k 0 * 2 ^ (56 - 8 * k) < 2 ^ (64 - 8 * k) := by
    calc _ < 256 * 2 ^ (56 - 8 * k) := (Nat.mul_lt_mul_right (Nat.two_pow_pos _)).2 hb
      _ = 2 ^ (64 - 8 * k) := by rw [show 64 - 8 * k = 8 + (56 - 8 * k) by omega, Nat.pow_add]
  unfold accU
  rw [Nat.mul_comm (accN M 0 (8 * k)), ← Nat.two_pow_add_eq_or_of_lt hlt, accN_bytes, Nat.add_mul, show 64 - 8 * (k + 1) = 56 - 8 * k by omega]
  congr 1
  rw [show 64 - 8 * k = 8 + (56 - 8 * k) by omega, Nat.pow_add, Nat.mul_comm, Nat.mul_assoc]
theorem accU_all (M : List Bool) (q : Nat) (h : M.length ≤ 8 * q) (hq : q ≤ 8) : accU M q = valN M * 2 ^ (64 - M.length) := by
  unfold accU
  rw [accN_pad M q h, Nat.mul_assoc, ← Nat.pow_add]
  congr 2; omega
end Go.Proofs.Ytdgjbejbbmnhbaa
