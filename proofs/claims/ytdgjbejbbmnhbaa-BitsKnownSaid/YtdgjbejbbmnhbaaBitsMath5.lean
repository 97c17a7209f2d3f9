/-
  Plain mathematics: the integer out of the bytes put together.
-/
import Derived.Test.YtdgjbejbbmnhbaaBitsMath4
namespace Go.Proofs.Ytdgjbejbbmnhbaa
open Go.RowKit Go.Proofs.BitsM
theorem u64_or_nat (a b : Nat) (ha : a < 2 ^ 64) (hb : b < 2 ^ 64) : bits .or .u64 (a : Int) (b : Int) = ((a ||| b : Nat) : Int) :=
  (bits_nat .u64 64 (by decide) (fun n h0 h1 => by simp [IntKind.wrap, IntKind.bits, IntKind.signed]; simp at h1; omega) a b ha hb).2
theorem acc_step (L : List Bool) (k x u0 : Nat) (hk : k < 8) (hu : u0 = accU L k) (hx : (packN L).getD k 0 = x) :
    bits BinOp.or IntKind.u64 (u0 : Int) (IntKind.u64.wrap ((x : Int) * 2 ^ (56 - 8 * k))) = ((accU L (k + 1) : Nat) : Int) := by
  subst hu hx
  have hb : (packN L).getD k 0 < 256 := getD_lt256 _ (packN_lt L) k
  have hlt : (packN L).getD k 0 * 2 ^ (56 - 8 * k) < 2 ^ 64 := by
    calc _ < 256 * 2 ^ (56 - 8 * k) := (Nat.mul_lt_mul_right (Nat.two_pow_pos _)).2 hb
      _ = 2 ^ (8 + (56 - 8 * k)) := by rw [Nat.pow_add]
      _ ≤ 2 ^ 64 := Nat.pow_le_pow_right (by omega) (by omega)
  rw [u64_wrap_nat, Nat.mod_eq_of_lt hlt, u64_or_nat _ _ (accU_lt L k (by omega)) hlt, accU_or L k hk]
theorem acc_div (L : List Bool) (q u0 : Nat) (h : L.length ≤ 64) (hq : q = (L.length + 7) / 8) (hu : u0 = accU L q) : ((u0 : Int) / 2 ^ (64 - L.length)) = ((valN L : Nat) : Int) := by
  rw [hu, accU_all L q (by omega) (by omega), cast_shr, Nat.mul_div_cancel _ (Nat.two_pow_pos _)]
theorem high_iff (L : List Bool) (n : Nat) (h : L.length = n + 1) : L.getD 0 false = true ↔ 2 ^ n ≤ valN L := by
  obtain ⟨e, hlt⟩ := valN_high L n h
  rw [e]
  cases L.getD 0 false <;> simp <;> omega
theorem val_range (L : List Bool) (h1 : 1 ≤ L.length) (h : L.length ≤ 64) : (9223372036854775807 < (valN L : Int)) ↔ (L.length = 64 ∧ L.getD 0 false = true) := by
  obtain ⟨n, hn⟩ : ∃ n, L.length = n + 1 := ⟨L.length - 1, by omega⟩
  have hlt := valN_lt L
  rw [high_iff L n hn, hn]
  rw [hn] at hlt
  constructor
  · intro hv
    have h63 : 63 ≤ n := by
      rcases Nat.lt_or_ge n 63 with h' | h'
      · have : 2 ^ (n + 1) ≤ 2 ^ 63 := Nat.pow_le_pow_right (by omega) (by omega)
        omega
      · exact h'
    obtain rfl : n = 63 := by omega
    omega
  · rintro ⟨h64, hv⟩
    obtain rfl : n = 63 := by omega
    omega
theorem val_small (L : List Bool) (h1 : 1 ≤ L.length) (h : L.length ≤ 64) (hr : ¬ (L.length = 64 ∧ L.getD 0 false = true)) : wrap64 (valN L : Int) = valN L := by
  have := mt (val_range L h1 h).1 hr
  exact IntWalk.wrap64_in _ ⟨by omega, by omega⟩
theorem getV_u (L : List Bool) (h1 : 1 ≤ L.length) (h : L.length ≤ 64) : getV L false = if 9223372036854775807 < (valN L : Int) then (0, 7) else (wrap64 (valN L), 0) := by
  unfold getV
  by_cases hr : L.length = 64 ∧ L.getD 0 false = true
  · rw [if_neg (by decide), if_pos hr, if_pos ((val_range L h1 h).2 hr)]
  · rw [if_neg (by decide), if_neg hr, if_neg (mt (val_range L h1 h).1 hr), val_small L h1 h hr]
theorem getV_s (L : List Bool) (h1 : 1 ≤ L.length) (h : L.length ≤ 64) : wrap64 ((accU L ((L.length + 7) / 8) : Nat) : Int) / 2 ^ (64 - L.length) = (getV L true).1 := by
  obtain ⟨n, hn⟩ : ∃ n, L.length = n + 1 := ⟨L.length - 1, by omega⟩
  have hlt := valN_lt L
  have hh := high_iff L n hn
  rw [accU_all L _ (by omega) (by omega)]
  unfold getV
  rw [if_pos rfl, hn]
  rw [hn] at hlt
  have e1 : (2 : Nat) ^ (n + 1) * 2 ^ (64 - (n + 1)) = 2 ^ 64 := by rw [← Nat.pow_add]; congr 1; omega
  have e2 : (2 : Nat) ^ n * 2 ^ (64 - (n + 1)) = 2 ^ 63 := by rw [← Nat.pow_add]; congr 1; omega
  have hp := Nat.two_pow_pos (64 - (n + 1))
  have hpow : (2 : Int) ^ (64 - (n + 1)) = ((2 ^ (64 - (n + 1)) : Nat) : Int) := by simp
  have hpow2 : (2 : Int) ^ (n + 1) = ((2 ^ (n + 1) : Nat) : Int) := by simp
  rw [hpow, hpow2]
  have hle : (2 : Nat) ^ (n + 1) ≤ 2 ^ 64 := Nat.pow_le_pow_right (by omega) (by omega)
  have hle2 : (2 : Nat) ^ n ≤ 2 ^ 63 := Nat.pow_le_pow_right (by omega) (by omega)
  have h2n : (2 : Nat) ^ (n + 1) = 2 * 2 ^ n := by rw [Nat.pow_succ]; omega
  generalize (2 : Nat) ^ (64 - (n + 1)) = P at *
  generalize (2 : Nat) ^ (n + 1) = A at *
  generalize (2 : Nat) ^ n = B at *
  generalize valN L = V at *
  by_cases hv : B ≤ V
  · rw [if_pos (hh.2 hv)]
    have h3 : B * P ≤ V * P := Nat.mul_le_mul_right _ hv
    have h4 : V * P < A * P := (Nat.mul_lt_mul_right hp).2 hlt
    have h5 : wrap64 ((V * P : Nat) : Int) = ((V : Int) - A) * P := by
      have : wrap64 ((V * P : Nat) : Int) = ((V * P : Nat) : Int) - 18446744073709551616 := by
        unfold wrap64; omega
      rw [this, Int.sub_mul]
      have e3 : (A : Int) * P = 18446744073709551616 := by
        have := congrArg (fun x : Nat => (x : Int)) e1
        simp only [Int.natCast_mul] at this
        rw [this]; rfl
      rw [e3]; simp
    rw [h5, Int.mul_ediv_cancel _ (by omega)]
  · rw [if_neg (mt hh.1 hv)]
    have h4 : V * P < B * P := (Nat.mul_lt_mul_right hp).2 (by omega)
    have h5 : wrap64 ((V * P : Nat) : Int) = ((V * P : Nat) : Int) := IntWalk.wrap64_in _ ⟨by omega, by omega⟩
    rw [h5]
    have e3 : ((V * P : Nat) : Int) / (P : Int) = (V : Int) := by
      rw [Int.natCast_mul, Int.mul_ediv_cancel _ (by omega)]
    rw [e3]
theorem getV_s2 (L : List Bool) : (getV L true).2 = 0 := by unfold getV; simp
end Go.Proofs.Ytdgjbejbbmnhbaa
