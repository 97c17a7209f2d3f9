/-
  Plain mathematics: an integer written and read back.
-/
import Derived.Test.YtdgjbejbbmnhbaaBitsMath5
namespace Go.Proofs.Ytdgjbejbbmnhbaa
open Go.RowKit Go.Proofs.BitsM
theorem vbits_getD (v : Int) (size i : Nat) (h : i < size) : (vbits v size).getD i false = (lowU v).testBit (size - 1 - i) := by
  simp [vbits, List.getD, h]
theorem vbits_acc (v : Int) (size : Nat) : ∀ k, k ≤ size → accN (vbits v size) 0 k = lowU v / 2 ^ (size - k) % 2 ^ k := by
  intro k
  induction k with
  | zero => intro _; simp [accN, Nat.mod_one]
  | succ k ih =>
    intro hk
    rw [accN, ih (by omega), Nat.zero_add, vbits_getD _ _ _ (by omega), Nat.toNat_testBit, show size - k = (size - (k + 1)) + 1 by omega, show size - 1 - k = size - (k + 1) by omega, Nat.pow_succ (m := size - (k + 1)), ← Nat.div_div_eq_div_mul]
    generalize lowU v / 2 ^ (size - (k + 1)) = y
    rw [Nat.pow_succ, Nat.mul_comm (2 ^ k) 2, Nat.mod_mul]
    omega
theorem vbits_val (v : Int) (size : Nat) : valN (vbits v size) = lowU v % 2 ^ size := by
  unfold valN
  rw [vbits_length, vbits_acc v size size (Nat.le_refl _), Nat.sub_self]
  simp
theorem lowU_mod (a : Int) (size : Nat) (h : size ≤ 64) : ((lowU a % 2 ^ size : Nat) : Int) = a % 2 ^ size := by
  have hd : ((2 : Int) ^ size) ∣ 18446744073709551616 := ⟨2 ^ (64 - size), by rw [← Int.pow_add, show size + (64 - size) = 64 by omega]; rfl⟩
  rw [Int.natCast_emod]
  unfold lowU
  rw [Int.toNat_of_nonneg (by omega)]
  have e : ((2 ^ size : Nat) : Int) = 2 ^ size := by simp
  rw [e, Int.emod_emod_of_dvd _ hd]
theorem vbits_congr {a b : Int} {size : Nat} (h : size ≤ 64) (hab : a % 2 ^ size = b % 2 ^ size) : vbits a size = vbits b size := by
  have e : lowU a % 2 ^ size = lowU b % 2 ^ size := by
    have := lowU_mod a size h
    have := lowU_mod b size h
    omega
  unfold vbits
  apply List.map_congr_left
  intro i hi
  have hlt : size - 1 - i < size := by have := List.mem_range.1 hi; omega
  have h1 := Nat.testBit_mod_two_pow (lowU a) size (size - 1 - i)
  have h2 := Nat.testBit_mod_two_pow (lowU b) size (size - 1 - i)
  rw [e, h2] at h1
  simpa [hlt] using h1.symm
/-- the integer that is read back -/
def svN (v : Int) (size : Nat) : Int := (getV (vbits v size) true).1
theorem vhigh (v : Int) (size : Nat) (h1 : 1 ≤ size) : (vbits v size).getD 0 false = true ↔ 2 ^ (size - 1) ≤ lowU v % 2 ^ size := by
  rw [← vbits_val, high_iff (vbits v size) (size - 1) (by rw [vbits_length]; omega)]
theorem sv_eq (v : Int) (size : Nat) (h1 : 1 ≤ size) : svN v size = if 2 ^ (size - 1) ≤ lowU v % 2 ^ size then ((lowU v % 2 ^ size : Nat) : Int) - 2 ^ size else ((lowU v % 2 ^ size : Nat) : Int) := by
  unfold svN getV
  rw [if_pos rfl, vbits_val, vbits_length]
  by_cases h : (vbits v size).getD 0 false = true
  · rw [if_pos h, if_pos ((vhigh v size h1).1 h)]
  · rw [if_neg h, if_neg (mt (vhigh v size h1).2 h)]
theorem sv_mod (v : Int) (size : Nat) (h1 : 1 ≤ size) (h64 : size ≤ 64) : svN v size % 2 ^ size = v % 2 ^ size := by
  have e := lowU_mod v size h64
  rw [sv_eq v size h1]
  split
  · rw [e, Int.sub_emod_right, Int.emod_emod_of_dvd _ (Int.dvd_refl _)]
  · rw [e, Int.emod_emod_of_dvd _ (Int.dvd_refl _)]
theorem two_split (size : Nat) (h1 : 1 ≤ size) : (2 : Int) ^ size = 2 * 2 ^ (size - 1) := by
  obtain ⟨n, rfl⟩ : ∃ n, size = n + 1 := ⟨size - 1, by omega⟩
  rw [Nat.add_sub_cancel, Int.pow_succ]; omega
theorem sv_range (v : Int) (size : Nat) (h1 : 1 ≤ size) : -(2 ^ (size - 1)) ≤ svN v size ∧ svN v size < 2 ^ (size - 1) := by
  have hlt : lowU v % 2 ^ size < 2 ^ size := Nat.mod_lt _ (Nat.two_pow_pos _)
  have hn : (2 : Nat) ^ size = 2 * 2 ^ (size - 1) := by
    obtain ⟨n, rfl⟩ : ∃ n, size = n + 1 := ⟨size - 1, by omega⟩
    rw [Nat.add_sub_cancel, Nat.pow_succ]; omega
  have hc : ((2 ^ (size - 1) : Nat) : Int) = 2 ^ (size - 1) := by simp
  rw [sv_eq v size h1, two_split size h1, ← hc]
  generalize lowU v % 2 ^ size = V at *
  generalize (2 : Nat) ^ (size - 1) = B at *
  split <;> omega
theorem sv_ok (v : Int) (size : Nat) (h1 : 1 ≤ size) (h64 : size ≤ 64) : i64ok (svN v size) := by
  obtain ⟨a, b⟩ := sv_range v size h1
  have hc : ((2 ^ (size - 1) : Nat) : Int) = 2 ^ (size - 1) := by simp
  have hle : (2 : Nat) ^ (size - 1) ≤ 2 ^ 63 := Nat.pow_le_pow_right (by omega) (by omega)
  rw [← hc] at a b
  constructor <;> omega
theorem sv_fits (v : Int) (size : Nat) (h1 : 1 ≤ size) (h64 : size ≤ 64) (ha : -(2 ^ (size - 1)) ≤ v) (hb : v < 2 ^ (size - 1)) : svN v size = v := by
  obtain ⟨c, d⟩ := sv_range v size h1
  have hm := sv_mod v size h1 h64
  have hd : (2 : Int) ^ size ∣ svN v size - v := Int.dvd_of_emod_eq_zero (by rw [Int.emod_eq_emod_iff_emod_sub_eq_zero.1 hm])
  obtain ⟨q, hq⟩ := hd
  rw [two_split size h1] at hq
  have hc : ((2 ^ (size - 1) : Nat) : Int) = 2 ^ (size - 1) := by simp
  have hp : 0 < (2 : Nat) ^ (size - 1) := Nat.two_pow_pos _
  rw [← hc] at ha hb c d hq
  clear hc hm
  generalize (2 : Nat) ^ (size - 1) = B at *
  have hq0 : q = 0 := by
    rcases Int.lt_trichotomy q 0 with h | h | h
    · have : 2 * (B : Int) * q ≤ 2 * (B : Int) * (-1) := Int.mul_le_mul_of_nonneg_left (by omega) (by omega)
      omega
    · exact h
    · have : 2 * (B : Int) * 1 ≤ 2 * (B : Int) * q := Int.mul_le_mul_of_nonneg_left (by omega) (by omega)
      omega
  subst hq0
  omega
theorem turnB_turnB (L : List Bool) (q : Nat) (h : L.length = 8 * q) : turnB (turnB L) = L := by
  apply List.ext_getElem
  · simp
  · intro i h1 h2
    have e1 : (turnB (turnB L))[i] = (turnB (turnB L)).getD i false := by
      simp only [List.getD]; rw [List.getElem?_eq_getElem h1]; rfl
    rw [e1, turnB_getD _ _ (by simpa using h2), turnB_length, turnB_getD _ _ (by omega)]
    simp only [List.getD]
    rw [List.getElem?_eq_getElem (by omega)]
    simp only [Option.getD_some]
    congr 1; omega
theorem endB_endB (little : Bool) (L : List Bool) (h : little = true → L.length % 8 = 0) : endB little (endB little L) = L := by
  unfold endB
  cases little
  · rfl
  · rw [if_pos rfl, if_pos rfl]
    exact turnB_turnB L (L.length / 8) (by have := h rfl; omega)
/-- what is read of what was written -/
theorem get_put (v : Int) (size : Nat) (little signed : Bool) (h64 : size ≤ 64) (h8 : little = true → size % 8 = 0) :
    getR (packS (endB little (vbits v size))) size signed little = getV (vbits v size) signed := by
  have hl : (endB little (vbits v size)).length = size := by simp [vbits_length]
  have hv := pack_valid (endB little (vbits v size))
  rw [hl] at hv
  have hb := bitsB_all (endB little (vbits v size))
  rw [hl] at hb
  unfold getR getBad
  rw [hv, Int.toNat_natCast, hb, endB_endB little _ (by rw [vbits_length]; exact h8)]
  rw [if_neg]
  simp
  refine ⟨by omega, fun hh => ?_⟩
  have := h8 hh
  omega
theorem put_ok_eq (v : Int) (size : Nat) (little : Bool) (h64 : size ≤ 64) (h8 : little = true → size % 8 = 0) : putR v size little = (packS (endB little (vbits v size)), (size : Int), 0) := by
  have hb : ¬ putBad size little = true := by
    rw [putBad_iff]
    rintro (h | h | ⟨h, h'⟩)
    · omega
    · omega
    · have := h8 h; omega
  rw [← put_end v size little h8]
  unfold putR
  rw [if_neg hb, Int.toNat_natCast]
theorem put_again (v : Int) (size : Nat) (little : Bool) (h1 : 1 ≤ size) (h64 : size ≤ 64) (h8 : little = true → size % 8 = 0) : putR (svN v size) size little = (packS (endB little (vbits v size)), (size : Int), 0) := by
  rw [put_ok_eq _ _ _ h64 h8, vbits_congr h64 (sv_mod v size h1 h64)]
theorem getV_true (v : Int) (size : Nat) : getV (vbits v size) true = (svN v size, 0) := by
  unfold svN getV; rfl
theorem neg_high (v : Int) (hv : i64ok v) : (vbits v 64).getD 0 false = true ↔ v < 0 := by
  rw [vhigh v 64 (by omega)]
  obtain ⟨a, b⟩ := hv
  unfold lowU
  omega
theorem getV_false (v : Int) (size : Nat) (hv : i64ok v) (h64 : size ≤ 64) : getV (vbits v size) false = if size = 64 ∧ v < 0 then (0, 7) else (((lowU v % 2 ^ size : Nat) : Int), 0) := by
  unfold getV
  rw [if_neg (by decide), vbits_length, vbits_val]
  by_cases h : size = 64
  · subst h
    by_cases hn : v < 0
    · rw [if_pos ⟨rfl, (neg_high v hv).2 hn⟩, if_pos ⟨rfl, hn⟩]
    · rw [if_neg (fun e => hn ((neg_high v hv).1 e.2)), if_neg (fun e => hn e.2)]
  · rw [if_neg (fun e => h e.1), if_neg (fun e => h e.1)]
end Go.Proofs.Ytdgjbejbbmnhbaa
