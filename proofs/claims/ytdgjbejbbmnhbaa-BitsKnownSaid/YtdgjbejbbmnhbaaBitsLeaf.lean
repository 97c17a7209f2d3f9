/-
  Walks over the leaves of package bits and its reference: length, at, the eight bits, Valid, Bit, Of.
-/
import Derived.Test.YtdgjbejbbmnhbaaBase
import Derived.Test.YtdgjbejbbmnhbaaBitsMath
namespace Go.Proofs.Ytdgjbejbbmnhbaa
open Go.RowKit Go.Proofs.BitsM
def lenB (n : Int) : Int := (n + 7) / 8
set_option maxHeartbeats 400000 in
theorem length_any (n : Int) (h0 : 0 ≤ n) (h1 : n ≤ 9223372036854775807) (w : World) :
    Calls Try.prog 39 #[.int .i64 n] w fun e w' => e = .returned (.int .i64 (lenB n)) ∧ w = w' := by
  by_cases h : 0 < n % 8
  · go_enter Try.func39, Try.ntmps39
    go_wp2
    go_ret
    exact ⟨ret_int (by unfold lenB; omega), rfl⟩
  · go_enter Try.func39, Try.ntmps39
    go_wp2
    go_ret
    exact ⟨ret_int (by unfold lenB; omega), rfl⟩
theorem wrap64_small (n : Int) (h0 : 0 ≤ n) (h1 : n < 256) : wrap64 n = n := IntWalk.wrap64_in n ⟨by omega, by omega⟩
theorem i64_and1 (n : Nat) (h : n < 256) : bits .and .i64 (n : Int) 1 = ((n % 2 : Nat) : Int) := by
  have := (bits_nat .i64 8 (by decide) (fun n h0 h1 => by rw [IntKind.wrap_i64]; simp at h1; omega) n 1 h (by decide)).1
  rw [show ((1 : Nat) : Int) = 1 from rfl] at this
  rw [this, Nat.and_one_is_mod]
set_option maxHeartbeats 400000 in
theorem at_any (s : ByteArray) (i : Nat) (hs : s.size ≤ maxLen) (hi : i ≤ 9223372036854775807) (h1 : i / 8 < s.size) (w : World) :
    Calls Try.prog 40 #[.string s, .int .i64 i] w fun e w' => e = .returned (.int .i64 (bitN s i)) ∧ w = w' := by
  unfold maxLen at hs
  have hfin : Ending.returned (Value.int .i64 (bits BinOp.and IntKind.i64 (wrap64 (↑s[i / 8].toNat / 2 ^ (7 - i % 8))) 1)) = .returned (.int .i64 (bitN s i)) := by
    apply ret_int
    rw [byteAt_eq h1, bitN_eq]
    have hb := byteAt_lt s (i / 8)
    have hd : byteAt s (i / 8) / 2 ^ (7 - i % 8) < 256 := Nat.lt_of_le_of_lt (Nat.div_le_self _ _) hb
    have e : ((byteAt s (i / 8) : Nat) : Int) / 2 ^ (7 - i % 8) = ((byteAt s (i / 8) / 2 ^ (7 - i % 8) : Nat) : Int) := by simp
    rw [e, wrap64_small _ (Int.natCast_nonneg _) (Int.ofNat_lt.2 hd), i64_and1 _ hd]
  have HF := Lib.hid hfin
  clear hfin
  go_enter Try.func40, Try.ntmps40
  go_wp2
  go_ret
  exact ⟨HF.out, rfl⟩
theorem cast_shl (a r : Nat) : ((a : Int) * 2 ^ r % 256) = ((a * 2 ^ r % 256 : Nat) : Int) := by simp
theorem cast_shr (a r : Nat) : ((a : Int) / 2 ^ r) = ((a / 2 ^ r : Nat) : Int) := by simp
theorem u8_or_nat (a b : Nat) (ha : a < 256) (hb : b < 256) : bits .or .u8 (a : Int) (b : Int) = ((a ||| b : Nat) : Int) :=
  (bits_nat .u8 8 (by decide) (fun n h0 h1 => by rw [IntKind.wrap_u8]; simp at h1; omega) a b ha hb).2
theorem u8_and_nat (a b : Nat) (ha : a < 256) (hb : b < 256) : bits .and .u8 (a : Int) (b : Int) = ((a &&& b : Nat) : Int) :=
  (bits_nat .u8 8 (by decide) (fun n h0 h1 => by rw [IntKind.wrap_u8]; simp at h1; omega) a b ha hb).1
theorem div_lt_byte {a r : Nat} (h : a < 256) : a / 2 ^ r < 256 := Nat.lt_of_le_of_lt (Nat.div_le_self _ _) h
theorem u8_or_eight (s : ByteArray) (i : Nat) : bits BinOp.or IntKind.u8 (↑(byteAt s (i / 8)) * 2 ^ (i % 8) % 256) (↑(byteAt s (i / 8 + 1)) / 2 ^ (8 - i % 8)) = ↑(eightN s i) := by
  rw [cast_shl, cast_shr, u8_or_nat _ _ (Nat.mod_lt _ (by omega)) (div_lt_byte (byteAt_lt _ _)), split_byte _ _ _ (Nat.mod_lt _ (by omega)) (byteAt_lt _ _)]
  rfl
theorem u8_eight0 (s : ByteArray) (i : Nat) (h : byteAt s (i / 8 + 1) = 0) : ((byteAt s (i / 8) : Int) * 2 ^ (i % 8) % 256) = ↑(eightN s i) := by
  rw [cast_shl]; unfold eightN; rw [h]; simp
theorem u8_eight1 (s : ByteArray) (i : Nat) (h : i % 8 = 0) : ((byteAt s (i / 8) : Int) * 2 ^ (i % 8) % 256) = ↑(eightN s i) := by
  rw [cast_shl]; unfold eightN; rw [h]
  have := byteAt_lt s (i / 8 + 1)
  simp; omega
set_option maxHeartbeats 400000 in
theorem eight_any (s : ByteArray) (i : Nat) (hs : s.size ≤ maxLen)  (h2 : i ≤ 9223372036854775807) (h1 : i / 8 < s.size) (w : World) (a : Addr) (ha : w.cell? a = some (.string s)) :
    Calls Try.prog 45 #[.int .i64 i, .pointer (some a)] w fun e w' => e = .returned (.int .u8 (eightN s i)) ∧ w = w' := by
  unfold maxLen at hs
  have HE := Lib.hid (byteAt_eq h1)
  by_cases h3 : 0 < i % 8
  · have h3' : (0 : Int) < (i : Int) % 8 := by omega
    by_cases h4 : i / 8 + 1 < s.size
    · have h4' : (i : Int) / 8 + 1 < s.size := by omega
      have HE' := Lib.hid (byteAt_eq h4)
      go_enter Try.func45, Try.ntmps45
      go_wp2
      go_ret
      refine ⟨ret_int ?_, rfl⟩
      rw [HE.out, HE'.out]
      exact u8_or_eight s i
    · have h4' : ¬ (i : Int) / 8 + 1 < s.size := by omega
      go_enter Try.func45, Try.ntmps45
      go_wp2
      go_ret
      refine ⟨ret_int ?_, rfl⟩
      rw [HE.out]
      exact u8_eight0 s i (byteAt_ge (by omega))
  · have h3' : ¬ (0 : Int) < (i : Int) % 8 := by omega
    go_enter Try.func45, Try.ntmps45
    go_wp2
    go_ret
    refine ⟨ret_int ?_, rfl⟩
    rw [HE.out]
    exact u8_eight1 s i (by omega)

/-- a valid bit string: its bytes are those of n bits, the unused bits 0 -/
def validB (s : ByteArray) (n : Int) : Bool := decide (0 ≤ n) && decide ((s.size : Int) = lenB n) && (decide (n % 8 = 0) || decide (byteAt s (s.size - 1) % 2 ^ (8 - (n % 8).toNat) = 0))
theorem mask_low (x u : Nat) (hu : u < 8) (hx : x < 256) : bits .and .u8 (x : Int) (255 / 2 ^ u) = ((x % 2 ^ (8 - u) : Nat) : Int) := by
  have e : (255 : Int) / 2 ^ u = ((255 / 2 ^ u : Nat) : Int) := by simp
  rw [e, u8_and_nat _ _ hx (div_lt_byte (by omega))]
  have e2 : 255 / 2 ^ u = 2 ^ (8 - u) - 1 := by
    match u, hu with
    | 0, _ => rfl | 1, _ => rfl | 2, _ => rfl | 3, _ => rfl | 4, _ => rfl | 5, _ => rfl | 6, _ => rfl | 7, _ => rfl
  rw [e2, Nat.and_two_pow_sub_one_eq_mod]
theorem validB_neg {s : ByteArray} {n : Int} (h : n < 0) : validB s n = false := by simp [validB]; omega
theorem validB_size {s : ByteArray} {n : Int} (h : ¬ (s.size : Int) = lenB n) : validB s n = false := by simp [validB, h]
theorem validB_whole {s : ByteArray} {n : Int} (h0 : 0 ≤ n) (h : (s.size : Int) = lenB n) (h8 : n % 8 = 0) : validB s n = true := by simp [validB, h0, h, h8]
theorem validB_part {s : ByteArray} {n : Int} (h0 : 0 ≤ n) (h : (s.size : Int) = lenB n) (h8 : ¬ n % 8 = 0) : validB s n = decide (byteAt s (s.size - 1) % 2 ^ (8 - (n % 8).toNat) = 0) := by simp [validB, h0, h, h8]
theorem validB_mask {s : ByteArray} {n : Int} (h0 : 0 ≤ n) (h : (s.size : Int) = lenB n) (h8 : ¬ n % 8 = 0) :
    (bits BinOp.and IntKind.u8 ((byteAt s (s.size - 1) : Nat) : Int) (255 / 2 ^ (n % 8).toNat) == 0) = validB s n := by
  rw [validB_part h0 h h8, mask_low _ _ (by omega) (byteAt_lt _ _)]
  rw [Bool.eq_iff_iff]
  generalize byteAt s (s.size - 1) % 2 ^ (8 - (n % 8).toNat) = x
  simp
set_option maxHeartbeats 400000 in
theorem Valid_any (s : ByteArray) (n : Int) (hs : s.size ≤ maxLen) (h0 : -9223372036854775808 ≤ n) (h1 : n ≤ 9223372036854775807) (w : World) :
    Calls Try.prog 16 #[.agg #[.string s, .int .i64 n]] w fun e w' => e = .returned (.bool (validB s n)) ∧ Below w.heap.size w w' := by
  unfold maxLen at hs
  by_cases hn : n < 0
  · have hd : decide (n < 0) = true := by simpa using hn
    have hfin := Lib.hid (validB_neg (s := s) hn)
    go_enter Try.func16, Try.ntmps16
    go_wp2_with fail
    go_quiet ((go_at_call 39; exact Calls.quiet_of_same ((length_any _ (by omega) (by omega) _).mono (by rintro e w' ⟨rfl, rfl⟩; exact ⟨rfl, rfl⟩))))
    go_wp2
    go_ret
    exact ⟨ret_bool hfin.out.symm, bdrewN (below_alloc _ _) _⟩
  · have hd : decide (n < 0) = false := by simpa using hn
    by_cases hl : (s.size : Int) = lenB n
    · have hl' : ((s.size : Int) != lenB n) = false := by simpa using hl
      have HL := Lib.hid hl
      clear hl
      by_cases h8 : n % 8 = 0
      · have hfin := Lib.hid (validB_whole (by omega) HL.out h8)
        go_enter Try.func16, Try.ntmps16
        go_wp2_with fail
        go_quiet ((go_at_call 39; exact Calls.quiet_of_same ((length_any _ (by omega) (by omega) _).mono (by rintro e w' ⟨rfl, rfl⟩; exact ⟨rfl, rfl⟩))))
        go_wp2
        go_ret
        exact ⟨ret_bool hfin.out.symm, bdrewN (below_alloc _ _) _⟩
      · have hsz : 1 ≤ s.size := by have := HL.out; unfold lenB at this; omega
        have hb := Lib.hid (byteAt_eq (s := s) (k := s.size - 1) (by omega))
        have hfin := Lib.hid (validB_mask (by omega) HL.out h8)
        go_enter Try.func16, Try.ntmps16
        go_wp2_with fail
        go_quiet ((go_at_call 39; exact Calls.quiet_of_same ((length_any _ (by omega) (by omega) _).mono (by rintro e w' ⟨rfl, rfl⟩; exact ⟨rfl, rfl⟩))))
        go_wp2
        go_ret
        exact ⟨ret_bool (by rw [← hfin.out, ← hb.out]), bdrewN (below_alloc _ _) _⟩
    · have hl' : ((s.size : Int) != lenB n) = true := by simpa using hl
      have hfin := Lib.hid (validB_size (s := s) hl)
      clear hl
      go_enter Try.func16, Try.ntmps16
      go_wp2_with fail
      go_quiet ((go_at_call 39; exact Calls.quiet_of_same ((length_any _ (by omega) (by omega) _).mono (by rintro e w' ⟨rfl, rfl⟩; exact ⟨rfl, rfl⟩))))
      go_wp2
      go_ret
      exact ⟨ret_bool hfin.out.symm, bdrewN (below_alloc _ _) _⟩

/-- the reference's loop over the unused bits -/
theorem low_bits (x u : Nat) (hu : u ≤ 8) : x % 2 ^ (8 - u) = 0 ↔ ∀ i, u ≤ i → i < 8 → x / 2 ^ (7 - i) % 2 = 0 := by
  have key : ∀ m, x % 2 ^ m = 0 ↔ ∀ j, j < m → x / 2 ^ j % 2 = 0 := by
    intro m
    induction m with
    | zero => simp [Nat.mod_one]
    | succ m ih =>
      have hm := Nat.mod_mul (x := x) (a := 2 ^ m) (b := 2)
      rw [Nat.pow_succ, hm]
      constructor
      · intro h j hj
        have h1 : x % 2 ^ m = 0 := by omega
        have h2 : 2 ^ m * (x / 2 ^ m % 2) = 0 := by omega
        by_cases e : j = m
        · subst e; rcases Nat.mul_eq_zero.1 h2 with h | h
          · have := Nat.two_pow_pos j; omega
          · exact h
        · exact ih.1 h1 j (by omega)
      · intro h
        have h1 := ih.2 fun j hj => h j (by omega)
        have h2 := h m (by omega)
        rw [h1, h2]; simp
  rw [key]
  constructor
  · intro h i h1 h2; exact h _ (by omega)
  · intro h j hj; have := h (7 - j) (by omega) (by omega); rwa [show 7 - (7 - j) = j by omega] at this
theorem mod2_zero {a : Nat} (h : (((a % 2 : Nat) : Int) == 1) = false) : a % 2 = 0 := by
  have : ¬ ((a % 2 : Nat) : Int) = 1 := by simpa using h
  omega
theorem refbit (x : Nat) (hx : x < 256) (j : Nat) : (wrap64 (x : Int) / 2 ^ j).tmod 2 = ((x / 2 ^ j % 2 : Nat) : Int) := by
  rw [wrap64_small _ (by omega) (by omega), cast_shr]
  rw [Int.tmod_eq_emod_of_nonneg (Int.natCast_nonneg _)]
  rfl
set_option maxHeartbeats 1000000 in
theorem rValid_any (s : ByteArray) (n : Int) (hs : s.size ≤ maxLen) (h0 : -9223372036854775808 ≤ n) (h1 : n ≤ 9223372036854775807) (w : World) :
    Calls Try.prog 17 #[.agg #[.string s, .int .i64 n]] w fun e w' => e = .returned (.bool (validB s n)) ∧ Below w.heap.size w w' := by
  unfold maxLen at hs
  by_cases hn : n < 0
  · have hfin := Lib.hid (validB_neg (s := s) hn)
    go_enter Try.func17, Try.ntmps17
    go_wp2
    go_ret
    exact ⟨ret_bool hfin.out.symm, (below_alloc _ _)⟩
  · by_cases h8 : n % 8 = 0
    · by_cases hl : (s.size : Int) = n / 8
      · have hfin := Lib.hid (validB_whole (s := s) (by omega) (by unfold lenB; omega) h8)
        have hl' : ((s.size : Int) != n / 8) = false := by simpa using hl
        have h8' : ¬ 0 < n % 8 := by omega
        have HL := Lib.hid hl
        clear hl
        go_enter Try.func17, Try.ntmps17
        go_wp2
        refine wp_loop_rounds 1 ?_
        rw [rounds_succ]
        go_wp2
        go_ret
        exact ⟨ret_bool hfin.out.symm, (below_alloc _ _)⟩
      · have hfin := Lib.hid (validB_size (s := s) (n := n) (by unfold lenB; omega))
        have hl' : ((s.size : Int) != n / 8) = true := by simpa using hl
        have h8' : ¬ 0 < n % 8 := by omega
        clear hl
        go_enter Try.func17, Try.ntmps17
        go_wp2
        go_ret
        exact ⟨ret_bool hfin.out.symm, (below_alloc _ _)⟩
    · have h8' : 0 < n % 8 := by omega
      by_cases hl : (s.size : Int) = n / 8 + 1
      · have hl' : ((s.size : Int) != n / 8 + 1) = false := by simpa using hl
        have hfin := Lib.hid (validB_part (s := s) (n := n) (by omega) (by unfold lenB; omega) h8)
        have hlow := Lib.hid (low_bits (byteAt s (s.size - 1)) (n % 8).toNat (by omega))
        have HL := Lib.hid hl
        have hk : (n / 8).toNat < s.size := by omega
        have hk' : s.size - 1 = (n / 8).toNat := by omega
        have hb := Lib.hid (byteAt_eq (s := s) hk)
        have HK := Lib.hid hk'
        clear hl hk'
        go_enter Try.func17, Try.ntmps17
        go_wp2
        go_loop [4] (fun i => ∃ k : Nat, (n % 8).toNat ≤ k ∧ k ≤ 8 ∧ i = .int .i64 k ∧ ∀ i, (n % 8).toNat ≤ i → i < k → byteAt s (s.size - 1) / 2 ^ (7 - i) % 2 = 0) (fun i => 8 - (intOf i).toNat)
        case atStart => exact ⟨(n % 8).toNat, Nat.le_refl _, by omega, by go_num, by intro i h1 h2; omega⟩
        case round =>
          obtain ⟨k, hk1, hk2, rfl, hz⟩ := hrel
          have HZ := Lib.hid hz
          clear hz
          have hk0 : 0 < k := by omega
          by_cases hk8 : k < 8
          · have hrb := Lib.hid (refbit (byteAt s (n / 8).toNat) (byteAt_lt _ _) (7 - k))
            go_wp2
            · have ht : ((wrap64 ↑s[(n / 8).toNat].toNat / 2 ^ (7 - k)).tmod 2 == 1) = true := by assumption
              rw [hb.out, hrb.out] at ht
              go_ret
              refine ⟨ret_bool ?_, below_alloc _ _⟩
              rw [hfin.out, eq_comm, decide_eq_false_iff_not, hlow.out]
              intro h
              have := h k hk1 hk8
              rw [HK.out] at this
              rw [this] at ht
              simp at ht
            · have ht : ((wrap64 ↑s[(n / 8).toNat].toNat / 2 ^ (7 - k)).tmod 2 == 1) = false := by assumption
              rw [hb.out, hrb.out] at ht
              go_round
              case rel =>
                refine ⟨k + 1, by omega, by omega, by go_num, ?_⟩
                intro i h1 h2
                by_cases e : i = k
                · subst e
                  rw [HK.out]
                  exact mod2_zero ht
                · exact HZ.out i h1 (Nat.lt_of_le_of_ne (Nat.le_of_lt_succ h2) e)
              case measure => simp [intOf]; omega
          · have HK8 := Lib.hid hk8
            go_wp2
            go_ret
            refine ⟨ret_bool ?_, below_alloc _ _⟩
            rw [hfin.out, eq_comm, decide_eq_true_eq, hlow.out]
            have hk8' := HK8.out
            intro i h1 h2
            exact HZ.out i h1 (by omega)
      · have hfin := Lib.hid (validB_size (s := s) (n := n) (by unfold lenB; omega))
        have hl' : ((s.size : Int) != n / 8 + 1) = true := by simpa using hl
        clear hl
        go_enter Try.func17, Try.ntmps17
        go_wp2
        go_ret
        exact ⟨ret_bool hfin.out.symm, (below_alloc _ _)⟩

/-- what Bit returns -/
def bitI (s : ByteArray) (n i : Int) : Int := if validB s n = true ∧ 0 ≤ i ∧ i < n then (bitN s i.toNat : Int) else -1
theorem valid_size {s : ByteArray} {n : Int} (h : validB s n = true) : 0 ≤ n ∧ (s.size : Int) = lenB n := by
  simp [validB] at h; exact ⟨h.1.1, h.1.2⟩
theorem valid_in {s : ByteArray} {n : Int} (h : validB s n = true) {i : Nat} (hi : (i : Int) < n) : i / 8 < s.size := by
  have := valid_size h; unfold lenB at this; omega
set_option maxHeartbeats 1000000 in
theorem Bit_any (s : ByteArray) (n i : Int) (hs : s.size ≤ maxLen) (h0 : -9223372036854775808 ≤ n) (h1 : n ≤ 9223372036854775807) (g0 : -9223372036854775808 ≤ i) (g1 : i ≤ 9223372036854775807) (w : World) :
    Calls Try.prog 18 #[.agg #[.string s, .int .i64 n], .int .i64 i] w fun e w' => e = .returned (.int .i64 (bitI s n i)) ∧ Below w.heap.size w w' := by
  by_cases hv : validB s n = true
  · by_cases hi : 0 ≤ i
    · by_cases hn : i < n
      · obtain ⟨k, rfl⟩ := Int.eq_ofNat_of_zero_le hi
        have hin := valid_in hv hn
        have hfin := Lib.hid (show bitI s n k = bitN s k by unfold bitI; rw [if_pos ⟨hv, by omega, hn⟩]; rfl)
        go_enter Try.func18, Try.ntmps18
        go_wp2_with fail
        refine (Valid_any _ _ hs h0 h1 _).mono ?_
        rintro e w1 ⟨rfl, hb⟩
        have hc := bcell hb
        go_wp2_with fail
        refine (at_any _ _ hs (by omega) hin _).mono ?_
        rintro e w2 ⟨rfl, rfl⟩
        go_wp2_with fail
        all_goals (go_ret; exact ⟨ret_int hfin.out.symm, (below_alloc _ _).trans (hb.mono (by simp))⟩)
      · have hfin := Lib.hid (show bitI s n i = -1 by unfold bitI; rw [if_neg (by omega)])
        go_enter Try.func18, Try.ntmps18
        go_wp2_with fail
        refine (Valid_any _ _ hs h0 h1 _).mono ?_
        rintro e w1 ⟨rfl, hb⟩
        have hc := bcell hb
        go_wp2_with fail
        all_goals (go_ret; exact ⟨ret_int hfin.out.symm, (below_alloc _ _).trans (hb.mono (by simp))⟩)
    · have hfin := Lib.hid (show bitI s n i = -1 by unfold bitI; rw [if_neg (by omega)])
      go_enter Try.func18, Try.ntmps18
      go_wp2_with fail
      refine (Valid_any _ _ hs h0 h1 _).mono ?_
      rintro e w1 ⟨rfl, hb⟩
      have hc := bcell hb
      go_wp2_with fail
      go_ret
      exact ⟨ret_int hfin.out.symm, (below_alloc _ _).trans (hb.mono (by simp))⟩
  · have hfin := Lib.hid (show bitI s n i = -1 by unfold bitI; rw [if_neg (by simp [hv])])
    have hv' : validB s n = false := by simpa using hv
    clear hv
    go_enter Try.func18, Try.ntmps18
    go_wp2_with fail
    refine (Valid_any _ _ hs h0 h1 _).mono ?_
    rintro e w1 ⟨rfl, hb⟩
    have hc := bcell hb
    go_wp2_with fail
    go_ret
    exact ⟨ret_int hfin.out.symm, (below_alloc _ _).trans (hb.mono (by simp))⟩
set_option maxHeartbeats 1000000 in
theorem rBit_any (s : ByteArray) (n i : Int) (hs : s.size ≤ maxLen) (h0 : -9223372036854775808 ≤ n) (h1 : n ≤ 9223372036854775807) (g0 : -9223372036854775808 ≤ i) (g1 : i ≤ 9223372036854775807) (w : World) :
    Calls Try.prog 19 #[.agg #[.string s, .int .i64 n], .int .i64 i] w fun e w' => e = .returned (.int .i64 (bitI s n i)) ∧ Below w.heap.size w w' := by
  by_cases hv : validB s n = true
  · by_cases hi : 0 ≤ i
    · by_cases hn : i < n
      · obtain ⟨k, rfl⟩ := Int.eq_ofNat_of_zero_le hi
        have hin := valid_in hv hn
        have hb8 := Lib.hid (byteAt_eq hin)
        have hfin := Lib.hid (show bitI s n k = bitN s k by unfold bitI; rw [if_pos ⟨hv, by omega, hn⟩]; rfl)
        go_enter Try.func19, Try.ntmps19
        go_wp2_with fail
        refine (rValid_any _ _ hs h0 h1 _).mono ?_
        rintro e w1 ⟨rfl, hb⟩
        have hc := bcell hb
        go_wp2_with fail
        go_ret
        refine ⟨ret_int ?_, (below_alloc _ _).trans (hb.mono (by simp))⟩
        rw [hfin.out, hb8.out, refbit _ (byteAt_lt _ _), bitN_eq]
      · have hfin := Lib.hid (show bitI s n i = -1 by unfold bitI; rw [if_neg (by omega)])
        go_enter Try.func19, Try.ntmps19
        go_wp2_with fail
        refine (rValid_any _ _ hs h0 h1 _).mono ?_
        rintro e w1 ⟨rfl, hb⟩
        have hc := bcell hb
        go_wp2_with fail
        all_goals (go_ret; exact ⟨ret_int hfin.out.symm, (below_alloc _ _).trans (hb.mono (by simp))⟩)
    · have hfin := Lib.hid (show bitI s n i = -1 by unfold bitI; rw [if_neg (by omega)])
      go_enter Try.func19, Try.ntmps19
      go_wp2_with fail
      refine (rValid_any _ _ hs h0 h1 _).mono ?_
      rintro e w1 ⟨rfl, hb⟩
      have hc := bcell hb
      go_wp2_with fail
      go_ret
      exact ⟨ret_int hfin.out.symm, (below_alloc _ _).trans (hb.mono (by simp))⟩
  · have hfin := Lib.hid (show bitI s n i = -1 by unfold bitI; rw [if_neg (by simp [hv])])
    have hv' : validB s n = false := by simpa using hv
    clear hv
    go_enter Try.func19, Try.ntmps19
    go_wp2_with fail
    refine (rValid_any _ _ hs h0 h1 _).mono ?_
    rintro e w1 ⟨rfl, hb⟩
    have hc := bcell hb
    go_wp2_with fail
    go_ret
    exact ⟨ret_int hfin.out.symm, (below_alloc _ _).trans (hb.mono (by simp))⟩
set_option maxHeartbeats 400000 in
theorem Of_any (s : ByteArray) (hs : 8 * s.size ≤ maxLen) (w : World) :
    Calls Try.prog 20 #[.string s] w fun e w' => e = .returned (.agg #[.string s, .int .i64 (8 * s.size)]) ∧ Below w.heap.size w w' := by
  unfold maxLen at hs
  go_enter Try.func20, Try.ntmps20
  go_wp2
  refine bodyPost_ret (v := .agg #[.string s, .int .i64 (8 * s.size)]) (by simp [results, Try.results20, go_sem]) rfl ⟨rfl, ?_⟩
  exact below_alloc _ _
end Go.Proofs.Ytdgjbejbbmnhbaa
