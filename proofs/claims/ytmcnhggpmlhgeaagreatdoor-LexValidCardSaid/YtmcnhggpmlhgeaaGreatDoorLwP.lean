/-
  Plain facts on what Scan and Join answer.
-/
import Derived.Test.YtmcnhggpmlhgeaaGreatDoorRpK
namespace Go.Proofs.YtmcnhggpmlhgeaaGreatDoor
open Go.RowKit
theorem dec_small {n : Nat} (h : n < 10) : Lib.decDigits n = [UInt8.ofNat (48 + n)] := by rw [Lib.decDigits, dif_pos h]
theorem dec_big {n : Nat} (h : ¬ n < 10) : Lib.decDigits n = Lib.decDigits (n / 10) ++ [UInt8.ofNat (48 + n % 10)] := by rw [Lib.decDigits, dif_neg h]
theorem scanT_bad_ne (len : Nat) : ∀ (j : Nat) (s : List UInt8) (p : Nat) (e : Int), scanT len j s = .bad p e → e ≠ 0
  | 0, s, p, e, h => by rw [scanT] at h; cases h
  | j + 1, s, p, e, h => by
    rw [scanT] at h
    split at h
    · cases h
    · split at h
      · rename_i ht
        injection h with h1 h2
        have h3 := bad_ne ht
        omega
      · split at h
        · rename_i hs
          injection h with h1 h2
          rw [← h2]; exact scanT_bad_ne len j _ _ _ hs
        · cases h
theorem scan_bad_ne {s : List UInt8} {p : Nat} {e : Int} (h : scanL s = .bad p e) : e ≠ 0 := by
  unfold scanL at h
  split at h
  · injection h with h1 h2
    rw [← h2]; decide
  · exact scanT_bad_ne _ _ _ _ _ h
theorem scanT_len (len : Nat) : ∀ (j : Nat) (s : List UInt8) (l : List Tok), scanT len j s = .ok l → l.length ≤ s.length
  | 0, s, l, h => by
    rw [scanT] at h
    injection h with h
    rw [← h]; exact Nat.zero_le _
  | j + 1, s, l, h => by
    have hk := skip_len false s
    rw [scanT] at h
    split at h
    · injection h with h
      rw [← h]; exact Nat.zero_le _
    · rename_i hsk
      rw [hsk] at hk
      split at h
      · cases h
      · rename_i ht
        have h1 := tok_len ht
        split at h
        · cases h
        · rename_i hs
          have h2 := scanT_len len j _ _ hs
          injection h with h
          rw [← h, List.length_cons]; omega
theorem scan_ok_len {s : List UInt8} {l : List Tok} (h : scanL s = .ok l) : l.length ≤ 65536 := by
  unfold scanL at h
  split at h
  · cases h
  · have := scanT_len _ _ _ _ h
    omega
theorem join_has (l : List Tok) (i : Nat) (h : i < l.length) : (textTk l[i]).length ≤ (joinTk (l.take (i + 1))).length := by
  rw [join_step l i h, List.length_append, List.length_append]; omega
end Go.Proofs.YtmcnhggpmlhgeaaGreatDoor
