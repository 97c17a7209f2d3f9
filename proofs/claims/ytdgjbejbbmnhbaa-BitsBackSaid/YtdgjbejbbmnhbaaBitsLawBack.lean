/-
  The law BitsBack: the walk.
-/
import Derived.Test.YtdgjbejbbmnhbaaBitsMath6
import Derived.Test.YtdgjbejbbmnhbaaBitsLawInts
namespace Go.Proofs.Ytdgjbejbbmnhbaa
open Go.RowKit Go.Proofs.BitsM
theorem u64_and_nat (a b : Nat) (ha : a < 2 ^ 64) (hb : b < 2 ^ 64) : bits .and .u64 (a : Int) (b : Int) = ((a &&& b : Nat) : Int) :=
  (bits_nat .u64 64 (by decide) (fun n h0 h1 => by simp [IntKind.wrap, IntKind.bits, IntKind.signed]; simp at h1; omega) a b ha hb).1
theorem mask_low_u (size : Nat) (h : size ≤ 64) : IntKind.u64.wrap (IntKind.u64.wrap (2 ^ size) - 1) = ((2 ^ size - 1 : Nat) : Int) := by
  have hw : ∀ n : Int, IntKind.u64.wrap n = n % 18446744073709551616 := fun n => by simp [IntKind.wrap, IntKind.bits, IntKind.signed]
  have e : (2 : Int) ^ size = ((2 ^ size : Nat) : Int) := by simp
  have hp := Nat.two_pow_pos size
  have hle : (2 : Nat) ^ size ≤ 2 ^ 64 := Nat.pow_le_pow_right (by omega) h
  rw [hw, hw, e]
  generalize (2 : Nat) ^ size = P at *
  omega
theorem mask_eq (v : Int) (size : Nat) (h : size ≤ 64) : (IntKind.u64.wrap ((lowU v : Int) % 2 ^ size) != bits BinOp.and IntKind.u64 (lowU v : Int) (IntKind.u64.wrap (IntKind.u64.wrap (2 ^ size) - 1))) = false := by
  have hp := Nat.two_pow_pos size
  have hle : (2 : Nat) ^ size ≤ 2 ^ 64 := Nat.pow_le_pow_right (by omega) h
  have hl := lowU_lt v
  have e : (2 : Int) ^ size = ((2 ^ size : Nat) : Int) := by simp
  have e2 : (lowU v : Int) % 2 ^ size = ((lowU v % 2 ^ size : Nat) : Int) := by rw [e]; simp
  have hm : lowU v % 2 ^ size < 2 ^ size := Nat.mod_lt _ hp
  have hw : IntKind.u64.wrap ((lowU v % 2 ^ size : Nat) : Int) = ((lowU v % 2 ^ size : Nat) : Int) := by
    simp only [IntKind.wrap, IntKind.bits, IntKind.signed]
    simp; omega
  rw [mask_low_u size h, u64_and_nat _ _ hl (by omega), Nat.and_two_pow_sub_one_eq_mod, e2, hw]
  simp
theorem wrap_two (size : Nat) (h1 : 1 ≤ size) (h : size < 64) : wrap64 ((2 : Int) ^ (size - 1)) = 2 ^ (size - 1) ∧ wrap64 (-(2 : Int) ^ (size - 1)) = -(2 ^ (size - 1)) := by
  have hle : (2 : Nat) ^ (size - 1) ≤ 2 ^ 62 := Nat.pow_le_pow_right (by omega) (by omega)
  have e : (2 : Int) ^ (size - 1) = ((2 ^ (size - 1) : Nat) : Int) := by simp
  rw [e]
  generalize (2 : Nat) ^ (size - 1) = P at *
  unfold wrap64
  constructor <;> omega
theorem mask_64 (v : Int) : (lowU v : Int) % 18446744073709551616 = lowU v := by have := lowU_lt v; omega
theorem mask_64b (v : Int) : ((lowU v : Int) != bits BinOp.and IntKind.u64 (lowU v : Int) (IntKind.u64.wrap (IntKind.u64.wrap 18446744073709551616 - 1))) = false := by
  have h := mask_eq v 64 (by omega)
  have hw : IntKind.u64.wrap ((lowU v : Nat) : Int) = ((lowU v : Nat) : Int) := by
    have hl := lowU_lt v
    simp only [IntKind.wrap, IntKind.bits, IntKind.signed]
    simp; omega
  rw [show (2 : Int) ^ 64 = 18446744073709551616 from rfl, mask_64, hw] at h
  exact h
set_option maxRecDepth 100000 in
set_option maxHeartbeats 4000000 in
theorem back_in (v : Int) (size : Nat) (hv : i64ok v) (h1 : 1 ≤ size) (h64 : size < 64) (ha : -(2 ^ (size - 1)) ≤ v) (hb : v < 2 ^ (size - 1)) (w : World) :
    Calls Try.prog 9 #[.int .i64 v, .int .i64 size] w (Yes w) := by
  have l1 : ¬ (size : Int) < 1 := by omega
  have l2 : ¬ (64 : Int) < (size : Int) := by omega
  have b64 : ((size : Int) == 64) = false := by simp; omega
  have hm := mask_eq v size (by omega)
  obtain ⟨e1, e2⟩ := wrap_two size h1 h64
  have hnv : (svN v size != v) = false := by rw [sv_fits v size h1 (by omega) ha hb]; simp
  have r1 : ¬ v < wrap64 (-2 ^ (size - 1)) := by rw [e2]; omega
  have r2 : v < wrap64 (2 ^ (size - 1)) := by rw [e1]; exact hb
  clear ha hb
  clear e1 e2
  have hlo := u64_wrap_low v
  have hvv := hv
  obtain ⟨v0, v1⟩ := hvv
  go_enter Try.func9, Try.ntmps9
  go_wp2_with fail
  go_loopw [5] (fun i wr => ∃ k : Nat, k ≤ 2 ∧ i = .int .i64 k ∧ Hid (Below w.heap.size w wr)) (fun i _ => 2 - (intOf i).toNat)
  case atStart => exact ⟨0, by omega, rfl, Lib.hid (Below.refl _ _)⟩
  case round =>
    obtain ⟨k, hk, rfl, HB⟩ := hrel
    by_cases hlt : k < 2
    · have hlt' : (k : Int) < 2 := by omega
      cases hlit : ((k : Int) == 1)
      · have hp := fun W => Put_ok v size false hv (by simp [putBad]; omega) W
        have hg := fun W => Get_any (packS (endB false (vbits v size))) (size : Nat) true false (by rw [packS_size, endB_length, vbits_length, maxLen_val]; omega) ⟨by omega, by omega⟩ W
        have hu := fun W => Get_any (packS (endB false (vbits v size))) (size : Nat) false false (by rw [packS_size, endB_length, vbits_length, maxLen_val]; omega) ⟨by omega, by omega⟩ W
        have hq := fun W => Put_ok (svN v size) size false (sv_ok v size (by omega) (by omega)) (by simp [putBad]; omega) W
        rw [put_ok_eq v size false (by omega) (by simp)] at hp
        rw [get_put v size false true (by omega) (by simp), getV_true] at hg
        rw [get_put v size false false (by omega) (by simp), getV_false v size hv (by omega)] at hu
        rw [put_again v size false (by omega) (by omega) (by simp)] at hq
        have hsz := sv_ok v size (by omega) (by omega)
        generalize packS (endB false (vbits v size)) = t at hp hg hu hq
        generalize svN v size = n at hp hg hu hq hsz hnv
        rw [if_neg (fun e => by omega), Int.natCast_emod, show ((2 ^ size : Nat) : Int) = 2 ^ size by simp] at hu
        simp only [bitsRet, getRet] at hp hg hq hu
        have HP := Lib.hid hp
        have HG := Lib.hid hg
        have HU := Lib.hid hu
        have HQ := Lib.hid hq
        clear hp hg hu hq
        obtain ⟨n0, n1⟩ := hsz
        go_wp2_with fail
        refine (HP.out _).mono ?_
        rintro e w1 ⟨rfl, hb1⟩
        have HB1 := Lib.hid (bstep HB.out hb1)
        clear hb1
        go_wp2_with fail
        refine (HG.out _).mono ?_
        rintro e w2 ⟨rfl, hb2⟩
        have HX2 := Lib.hid (keepB hb2 (new1_0 w1 (.cells #[.string t, .int .i64 size] 25)))
        have HB2 := Lib.hid (bstep (balloc HB1.out _) hb2)
        clear hb2
        go_wp2_with fail
        refine (HQ.out _).mono ?_
        rintro e w3 ⟨rfl, hb3⟩
        have HX3 := Lib.hid (keepB hb3 HX2.out)
        have HB3 := Lib.hid (bstep HB2.out hb3)
        clear hb3
        have a0 := cells_of HX3.out 0
        have a1 := cells_of HX3.out 1
        simp only [List.getElem?_toArray, List.getElem?_cons_succ, List.getElem?_cons_zero] at a0 a1
        have z1 := lt_of_block HX3.out
        go_wp2_with fail
        refine (HU.out _).mono ?_
        rintro e w4 ⟨rfl, hb4⟩
        have HB4 := Lib.hid (bstep (balloc HB3.out _) hb4)
        clear hb4
        go_wp2_with fail
        go_roundw
        case rel => exact ⟨k + 1, by omega, by go_num, HB4⟩
        case measure => simp only [intOf]; omega
      · by_cases h8 : size % 8 = 0
        · have h8' : ((size : Int) % 8 != 0) = false := by simp; omega
          have hp := fun W => Put_ok v size true hv (by simp [putBad]; omega) W
          have hg := fun W => Get_any (packS (endB true (vbits v size))) (size : Nat) true true (by rw [packS_size, endB_length, vbits_length, maxLen_val]; omega) ⟨by omega, by omega⟩ W
          have hu := fun W => Get_any (packS (endB true (vbits v size))) (size : Nat) false true (by rw [packS_size, endB_length, vbits_length, maxLen_val]; omega) ⟨by omega, by omega⟩ W
          have hq := fun W => Put_ok (svN v size) size true (sv_ok v size (by omega) (by omega)) (by simp [putBad]; omega) W
          rw [put_ok_eq v size true (by omega) (fun _ => h8)] at hp
          rw [get_put v size true true (by omega) (fun _ => h8), getV_true] at hg
          rw [get_put v size true false (by omega) (fun _ => h8), getV_false v size hv (by omega)] at hu
          rw [put_again v size true (by omega) (by omega) (fun _ => h8)] at hq
          have hsz := sv_ok v size (by omega) (by omega)
          generalize packS (endB true (vbits v size)) = t at hp hg hu hq
          generalize svN v size = n at hp hg hu hq hsz hnv
          rw [if_neg (fun e => by omega), Int.natCast_emod, show ((2 ^ size : Nat) : Int) = 2 ^ size by simp] at hu
          simp only [bitsRet, getRet] at hp hg hq hu
          have HP := Lib.hid hp
          have HG := Lib.hid hg
          have HU := Lib.hid hu
          have HQ := Lib.hid hq
          clear hp hg hu hq
          obtain ⟨n0, n1⟩ := hsz
          go_wp2_with fail
          refine (HP.out _).mono ?_
          rintro e w1 ⟨rfl, hb1⟩
          have HB1 := Lib.hid (bstep HB.out hb1)
          clear hb1
          go_wp2_with fail
          refine (HG.out _).mono ?_
          rintro e w2 ⟨rfl, hb2⟩
          have HX2 := Lib.hid (keepB hb2 (new1_0 w1 (.cells #[.string t, .int .i64 size] 25)))
          have HB2 := Lib.hid (bstep (balloc HB1.out _) hb2)
          clear hb2
          go_wp2_with fail
          refine (HQ.out _).mono ?_
          rintro e w3 ⟨rfl, hb3⟩
          have HX3 := Lib.hid (keepB hb3 HX2.out)
          have HB3 := Lib.hid (bstep HB2.out hb3)
          clear hb3
          have a0 := cells_of HX3.out 0
          have a1 := cells_of HX3.out 1
          simp only [List.getElem?_toArray, List.getElem?_cons_succ, List.getElem?_cons_zero] at a0 a1
          have z1 := lt_of_block HX3.out
          go_wp2_with fail
          refine (HU.out _).mono ?_
          rintro e w4 ⟨rfl, hb4⟩
          have HB4 := Lib.hid (bstep (balloc HB3.out _) hb4)
          clear hb4
          go_wp2_with fail
          go_roundw
          case rel => exact ⟨k + 1, by omega, by go_num, HB4⟩
          case measure => simp only [intOf]; omega
        · have h8' : ((size : Int) % 8 != 0) = true := by simp; omega
          have hp := fun W => Put_bad v (size : Int) true hv ⟨by omega, by omega⟩ (putBad_iff.2 (.inr (.inr ⟨rfl, by omega⟩))) W
          rw [show putR v (size : Int) true = (⟨#[]⟩, 0, 2) by unfold putR; rw [if_pos (putBad_iff.2 (.inr (.inr ⟨rfl, by omega⟩)))]] at hp
          simp only [bitsRet] at hp
          have HP := Lib.hid hp
          clear hp h8 hnv
          go_wp2_with fail
          refine (HP.out _).mono ?_
          rintro e w1 ⟨rfl, hb1⟩
          have HB1 := Lib.hid (bstep HB.out hb1)
          clear hb1
          go_wp2_with fail
          go_roundw
          case rel => exact ⟨k + 1, by omega, by go_num, Lib.hid (balloc HB1.out _)⟩
          case measure => simp only [intOf]; omega
    · have hlt' : ¬ (k : Int) < 2 := by omega
      go_wp2_with fail
      refine (awake_any _).mono ?_
      rintro e w1 ⟨rfl, hb⟩
      go_wp2_with fail
      go_ret
      exact ⟨rfl, bstep HB.out hb⟩
set_option maxRecDepth 100000 in
set_option maxHeartbeats 4000000 in
theorem back_lo (v : Int) (size : Nat) (hv : i64ok v) (h1 : 1 ≤ size) (h64 : size < 64) (ha : v < -(2 ^ (size - 1))) (w : World) :
    Calls Try.prog 9 #[.int .i64 v, .int .i64 size] w (Yes w) := by
  have l1 : ¬ (size : Int) < 1 := by omega
  have l2 : ¬ (64 : Int) < (size : Int) := by omega
  have b64 : ((size : Int) == 64) = false := by simp; omega
  have hm := mask_eq v size (by omega)
  obtain ⟨e1, e2⟩ := wrap_two size h1 h64
  have hnv : svN v size = svN v size := rfl
  have r1 : v < wrap64 (-2 ^ (size - 1)) := by rw [e2]; exact ha
  clear ha
  clear e1 e2
  have hlo := u64_wrap_low v
  have hvv := hv
  obtain ⟨v0, v1⟩ := hvv
  go_enter Try.func9, Try.ntmps9
  go_wp2_with fail
  go_loopw [5] (fun i wr => ∃ k : Nat, k ≤ 2 ∧ i = .int .i64 k ∧ Hid (Below w.heap.size w wr)) (fun i _ => 2 - (intOf i).toNat)
  case atStart => exact ⟨0, by omega, rfl, Lib.hid (Below.refl _ _)⟩
  case round =>
    obtain ⟨k, hk, rfl, HB⟩ := hrel
    by_cases hlt : k < 2
    · have hlt' : (k : Int) < 2 := by omega
      cases hlit : ((k : Int) == 1)
      · have hp := fun W => Put_ok v size false hv (by simp [putBad]; omega) W
        have hg := fun W => Get_any (packS (endB false (vbits v size))) (size : Nat) true false (by rw [packS_size, endB_length, vbits_length, maxLen_val]; omega) ⟨by omega, by omega⟩ W
        have hu := fun W => Get_any (packS (endB false (vbits v size))) (size : Nat) false false (by rw [packS_size, endB_length, vbits_length, maxLen_val]; omega) ⟨by omega, by omega⟩ W
        have hq := fun W => Put_ok (svN v size) size false (sv_ok v size (by omega) (by omega)) (by simp [putBad]; omega) W
        rw [put_ok_eq v size false (by omega) (by simp)] at hp
        rw [get_put v size false true (by omega) (by simp), getV_true] at hg
        rw [get_put v size false false (by omega) (by simp), getV_false v size hv (by omega)] at hu
        rw [put_again v size false (by omega) (by omega) (by simp)] at hq
        have hsz := sv_ok v size (by omega) (by omega)
        generalize packS (endB false (vbits v size)) = t at hp hg hu hq
        generalize svN v size = n at hp hg hu hq hsz hnv
        rw [if_neg (fun e => by omega), Int.natCast_emod, show ((2 ^ size : Nat) : Int) = 2 ^ size by simp] at hu
        simp only [bitsRet, getRet] at hp hg hq hu
        have HP := Lib.hid hp
        have HG := Lib.hid hg
        have HU := Lib.hid hu
        have HQ := Lib.hid hq
        clear hp hg hu hq
        obtain ⟨n0, n1⟩ := hsz
        go_wp2_with fail
        refine (HP.out _).mono ?_
        rintro e w1 ⟨rfl, hb1⟩
        have HB1 := Lib.hid (bstep HB.out hb1)
        clear hb1
        go_wp2_with fail
        refine (HG.out _).mono ?_
        rintro e w2 ⟨rfl, hb2⟩
        have HX2 := Lib.hid (keepB hb2 (new1_0 w1 (.cells #[.string t, .int .i64 size] 25)))
        have HB2 := Lib.hid (bstep (balloc HB1.out _) hb2)
        clear hb2
        go_wp2_with fail
        refine (HQ.out _).mono ?_
        rintro e w3 ⟨rfl, hb3⟩
        have HX3 := Lib.hid (keepB hb3 HX2.out)
        have HB3 := Lib.hid (bstep HB2.out hb3)
        clear hb3
        have a0 := cells_of HX3.out 0
        have a1 := cells_of HX3.out 1
        simp only [List.getElem?_toArray, List.getElem?_cons_succ, List.getElem?_cons_zero] at a0 a1
        have z1 := lt_of_block HX3.out
        go_wp2_with fail
        refine (HU.out _).mono ?_
        rintro e w4 ⟨rfl, hb4⟩
        have HB4 := Lib.hid (bstep (balloc HB3.out _) hb4)
        clear hb4
        go_wp2_with fail
        go_roundw
        case rel => exact ⟨k + 1, by omega, by go_num, HB4⟩
        case measure => simp only [intOf]; omega
      · by_cases h8 : size % 8 = 0
        · have h8' : ((size : Int) % 8 != 0) = false := by simp; omega
          have hp := fun W => Put_ok v size true hv (by simp [putBad]; omega) W
          have hg := fun W => Get_any (packS (endB true (vbits v size))) (size : Nat) true true (by rw [packS_size, endB_length, vbits_length, maxLen_val]; omega) ⟨by omega, by omega⟩ W
          have hu := fun W => Get_any (packS (endB true (vbits v size))) (size : Nat) false true (by rw [packS_size, endB_length, vbits_length, maxLen_val]; omega) ⟨by omega, by omega⟩ W
          have hq := fun W => Put_ok (svN v size) size true (sv_ok v size (by omega) (by omega)) (by simp [putBad]; omega) W
          rw [put_ok_eq v size true (by omega) (fun _ => h8)] at hp
          rw [get_put v size true true (by omega) (fun _ => h8), getV_true] at hg
          rw [get_put v size true false (by omega) (fun _ => h8), getV_false v size hv (by omega)] at hu
          rw [put_again v size true (by omega) (by omega) (fun _ => h8)] at hq
          have hsz := sv_ok v size (by omega) (by omega)
          generalize packS (endB true (vbits v size)) = t at hp hg hu hq
          generalize svN v size = n at hp hg hu hq hsz hnv
          rw [if_neg (fun e => by omega), Int.natCast_emod, show ((2 ^ size : Nat) : Int) = 2 ^ size by simp] at hu
          simp only [bitsRet, getRet] at hp hg hq hu
          have HP := Lib.hid hp
          have HG := Lib.hid hg
          have HU := Lib.hid hu
          have HQ := Lib.hid hq
          clear hp hg hu hq
          obtain ⟨n0, n1⟩ := hsz
          go_wp2_with fail
          refine (HP.out _).mono ?_
          rintro e w1 ⟨rfl, hb1⟩
          have HB1 := Lib.hid (bstep HB.out hb1)
          clear hb1
          go_wp2_with fail
          refine (HG.out _).mono ?_
          rintro e w2 ⟨rfl, hb2⟩
          have HX2 := Lib.hid (keepB hb2 (new1_0 w1 (.cells #[.string t, .int .i64 size] 25)))
          have HB2 := Lib.hid (bstep (balloc HB1.out _) hb2)
          clear hb2
          go_wp2_with fail
          refine (HQ.out _).mono ?_
          rintro e w3 ⟨rfl, hb3⟩
          have HX3 := Lib.hid (keepB hb3 HX2.out)
          have HB3 := Lib.hid (bstep HB2.out hb3)
          clear hb3
          have a0 := cells_of HX3.out 0
          have a1 := cells_of HX3.out 1
          simp only [List.getElem?_toArray, List.getElem?_cons_succ, List.getElem?_cons_zero] at a0 a1
          have z1 := lt_of_block HX3.out
          go_wp2_with fail
          refine (HU.out _).mono ?_
          rintro e w4 ⟨rfl, hb4⟩
          have HB4 := Lib.hid (bstep (balloc HB3.out _) hb4)
          clear hb4
          go_wp2_with fail
          go_roundw
          case rel => exact ⟨k + 1, by omega, by go_num, HB4⟩
          case measure => simp only [intOf]; omega
        · have h8' : ((size : Int) % 8 != 0) = true := by simp; omega
          have hp := fun W => Put_bad v (size : Int) true hv ⟨by omega, by omega⟩ (putBad_iff.2 (.inr (.inr ⟨rfl, by omega⟩))) W
          rw [show putR v (size : Int) true = (⟨#[]⟩, 0, 2) by unfold putR; rw [if_pos (putBad_iff.2 (.inr (.inr ⟨rfl, by omega⟩)))]] at hp
          simp only [bitsRet] at hp
          have HP := Lib.hid hp
          clear hp h8 hnv
          go_wp2_with fail
          refine (HP.out _).mono ?_
          rintro e w1 ⟨rfl, hb1⟩
          have HB1 := Lib.hid (bstep HB.out hb1)
          clear hb1
          go_wp2_with fail
          go_roundw
          case rel => exact ⟨k + 1, by omega, by go_num, Lib.hid (balloc HB1.out _)⟩
          case measure => simp only [intOf]; omega
    · have hlt' : ¬ (k : Int) < 2 := by omega
      go_wp2_with fail
      refine (awake_any _).mono ?_
      rintro e w1 ⟨rfl, hb⟩
      go_wp2_with fail
      go_ret
      exact ⟨rfl, bstep HB.out hb⟩
set_option maxRecDepth 100000 in
set_option maxHeartbeats 4000000 in
theorem back_hi (v : Int) (size : Nat) (hv : i64ok v) (h1 : 1 ≤ size) (h64 : size < 64) (ha : 2 ^ (size - 1) ≤ v) (w : World) :
    Calls Try.prog 9 #[.int .i64 v, .int .i64 size] w (Yes w) := by
  have l1 : ¬ (size : Int) < 1 := by omega
  have l2 : ¬ (64 : Int) < (size : Int) := by omega
  have b64 : ((size : Int) == 64) = false := by simp; omega
  have hm := mask_eq v size (by omega)
  obtain ⟨e1, e2⟩ := wrap_two size h1 h64
  have hnv : svN v size = svN v size := rfl
  have hpos : (0 : Int) < 2 ^ (size - 1) := Int.pow_pos (by omega)
  have r1 : ¬ v < wrap64 (-2 ^ (size - 1)) := by rw [e2]; omega
  have r2 : ¬ v < wrap64 (2 ^ (size - 1)) := by rw [e1]; omega
  clear ha hpos
  clear e1 e2
  have hlo := u64_wrap_low v
  have hvv := hv
  obtain ⟨v0, v1⟩ := hvv
  go_enter Try.func9, Try.ntmps9
  go_wp2_with fail
  go_loopw [5] (fun i wr => ∃ k : Nat, k ≤ 2 ∧ i = .int .i64 k ∧ Hid (Below w.heap.size w wr)) (fun i _ => 2 - (intOf i).toNat)
  case atStart => exact ⟨0, by omega, rfl, Lib.hid (Below.refl _ _)⟩
  case round =>
    obtain ⟨k, hk, rfl, HB⟩ := hrel
    by_cases hlt : k < 2
    · have hlt' : (k : Int) < 2 := by omega
      cases hlit : ((k : Int) == 1)
      · have hp := fun W => Put_ok v size false hv (by simp [putBad]; omega) W
        have hg := fun W => Get_any (packS (endB false (vbits v size))) (size : Nat) true false (by rw [packS_size, endB_length, vbits_length, maxLen_val]; omega) ⟨by omega, by omega⟩ W
        have hu := fun W => Get_any (packS (endB false (vbits v size))) (size : Nat) false false (by rw [packS_size, endB_length, vbits_length, maxLen_val]; omega) ⟨by omega, by omega⟩ W
        have hq := fun W => Put_ok (svN v size) size false (sv_ok v size (by omega) (by omega)) (by simp [putBad]; omega) W
        rw [put_ok_eq v size false (by omega) (by simp)] at hp
        rw [get_put v size false true (by omega) (by simp), getV_true] at hg
        rw [get_put v size false false (by omega) (by simp), getV_false v size hv (by omega)] at hu
        rw [put_again v size false (by omega) (by omega) (by simp)] at hq
        have hsz := sv_ok v size (by omega) (by omega)
        generalize packS (endB false (vbits v size)) = t at hp hg hu hq
        generalize svN v size = n at hp hg hu hq hsz hnv
        rw [if_neg (fun e => by omega), Int.natCast_emod, show ((2 ^ size : Nat) : Int) = 2 ^ size by simp] at hu
        simp only [bitsRet, getRet] at hp hg hq hu
        have HP := Lib.hid hp
        have HG := Lib.hid hg
        have HU := Lib.hid hu
        have HQ := Lib.hid hq
        clear hp hg hu hq
        obtain ⟨n0, n1⟩ := hsz
        go_wp2_with fail
        refine (HP.out _).mono ?_
        rintro e w1 ⟨rfl, hb1⟩
        have HB1 := Lib.hid (bstep HB.out hb1)
        clear hb1
        go_wp2_with fail
        refine (HG.out _).mono ?_
        rintro e w2 ⟨rfl, hb2⟩
        have HX2 := Lib.hid (keepB hb2 (new1_0 w1 (.cells #[.string t, .int .i64 size] 25)))
        have HB2 := Lib.hid (bstep (balloc HB1.out _) hb2)
        clear hb2
        go_wp2_with fail
        refine (HQ.out _).mono ?_
        rintro e w3 ⟨rfl, hb3⟩
        have HX3 := Lib.hid (keepB hb3 HX2.out)
        have HB3 := Lib.hid (bstep HB2.out hb3)
        clear hb3
        have a0 := cells_of HX3.out 0
        have a1 := cells_of HX3.out 1
        simp only [List.getElem?_toArray, List.getElem?_cons_succ, List.getElem?_cons_zero] at a0 a1
        have z1 := lt_of_block HX3.out
        go_wp2_with fail
        refine (HU.out _).mono ?_
        rintro e w4 ⟨rfl, hb4⟩
        have HB4 := Lib.hid (bstep (balloc HB3.out _) hb4)
        clear hb4
        go_wp2_with fail
        go_roundw
        case rel => exact ⟨k + 1, by omega, by go_num, HB4⟩
        case measure => simp only [intOf]; omega
      · by_cases h8 : size % 8 = 0
        · have h8' : ((size : Int) % 8 != 0) = false := by simp; omega
          have hp := fun W => Put_ok v size true hv (by simp [putBad]; omega) W
          have hg := fun W => Get_any (packS (endB true (vbits v size))) (size : Nat) true true (by rw [packS_size, endB_length, vbits_length, maxLen_val]; omega) ⟨by omega, by omega⟩ W
          have hu := fun W => Get_any (packS (endB true (vbits v size))) (size : Nat) false true (by rw [packS_size, endB_length, vbits_length, maxLen_val]; omega) ⟨by omega, by omega⟩ W
          have hq := fun W => Put_ok (svN v size) size true (sv_ok v size (by omega) (by omega)) (by simp [putBad]; omega) W
          rw [put_ok_eq v size true (by omega) (fun _ => h8)] at hp
          rw [get_put v size true true (by omega) (fun _ => h8), getV_true] at hg
          rw [get_put v size true false (by omega) (fun _ => h8), getV_false v size hv (by omega)] at hu
          rw [put_again v size true (by omega) (by omega) (fun _ => h8)] at hq
          have hsz := sv_ok v size (by omega) (by omega)
          generalize packS (endB true (vbits v size)) = t at hp hg hu hq
          generalize svN v size = n at hp hg hu hq hsz hnv
          rw [if_neg (fun e => by omega), Int.natCast_emod, show ((2 ^ size : Nat) : Int) = 2 ^ size by simp] at hu
          simp only [bitsRet, getRet] at hp hg hq hu
          have HP := Lib.hid hp
          have HG := Lib.hid hg
          have HU := Lib.hid hu
          have HQ := Lib.hid hq
          clear hp hg hu hq
          obtain ⟨n0, n1⟩ := hsz
          go_wp2_with fail
          refine (HP.out _).mono ?_
          rintro e w1 ⟨rfl, hb1⟩
          have HB1 := Lib.hid (bstep HB.out hb1)
          clear hb1
          go_wp2_with fail
          refine (HG.out _).mono ?_
          rintro e w2 ⟨rfl, hb2⟩
          have HX2 := Lib.hid (keepB hb2 (new1_0 w1 (.cells #[.string t, .int .i64 size] 25)))
          have HB2 := Lib.hid (bstep (balloc HB1.out _) hb2)
          clear hb2
          go_wp2_with fail
          refine (HQ.out _).mono ?_
          rintro e w3 ⟨rfl, hb3⟩
          have HX3 := Lib.hid (keepB hb3 HX2.out)
          have HB3 := Lib.hid (bstep HB2.out hb3)
          clear hb3
          have a0 := cells_of HX3.out 0
          have a1 := cells_of HX3.out 1
          simp only [List.getElem?_toArray, List.getElem?_cons_succ, List.getElem?_cons_zero] at a0 a1
          have z1 := lt_of_block HX3.out
          go_wp2_with fail
          refine (HU.out _).mono ?_
          rintro e w4 ⟨rfl, hb4⟩
          have HB4 := Lib.hid (bstep (balloc HB3.out _) hb4)
          clear hb4
          go_wp2_with fail
          go_roundw
          case rel => exact ⟨k + 1, by omega, by go_num, HB4⟩
          case measure => simp only [intOf]; omega
        · have h8' : ((size : Int) % 8 != 0) = true := by simp; omega
          have hp := fun W => Put_bad v (size : Int) true hv ⟨by omega, by omega⟩ (putBad_iff.2 (.inr (.inr ⟨rfl, by omega⟩))) W
          rw [show putR v (size : Int) true = (⟨#[]⟩, 0, 2) by unfold putR; rw [if_pos (putBad_iff.2 (.inr (.inr ⟨rfl, by omega⟩)))]] at hp
          simp only [bitsRet] at hp
          have HP := Lib.hid hp
          clear hp h8 hnv
          go_wp2_with fail
          refine (HP.out _).mono ?_
          rintro e w1 ⟨rfl, hb1⟩
          have HB1 := Lib.hid (bstep HB.out hb1)
          clear hb1
          go_wp2_with fail
          go_roundw
          case rel => exact ⟨k + 1, by omega, by go_num, Lib.hid (balloc HB1.out _)⟩
          case measure => simp only [intOf]; omega
    · have hlt' : ¬ (k : Int) < 2 := by omega
      go_wp2_with fail
      refine (awake_any _).mono ?_
      rintro e w1 ⟨rfl, hb⟩
      go_wp2_with fail
      go_ret
      exact ⟨rfl, bstep HB.out hb⟩
set_option maxRecDepth 100000 in
set_option maxHeartbeats 4000000 in
theorem back_neg (v : Int) (hv : i64ok v) (hneg : v < 0) (w : World) :
    Calls Try.prog 9 #[.int .i64 v, .int .i64 64] w (Yes w) := by
  have hfit : svN v 64 = v := sv_fits v 64 (by omega) (by omega) (by have := hv.1; omega) (by have := hv.2; omega)
  have hnv : (v != v) = false := by simp
  have hlo := u64_wrap_low v
  have hvv := hv
  obtain ⟨v0, v1⟩ := hvv
  go_enter Try.func9, Try.ntmps9
  go_wp2_with fail
  go_loopw [5] (fun i wr => ∃ k : Nat, k ≤ 2 ∧ i = .int .i64 k ∧ Hid (Below w.heap.size w wr)) (fun i _ => 2 - (intOf i).toNat)
  case atStart => exact ⟨0, by omega, rfl, Lib.hid (Below.refl _ _)⟩
  case round =>
    obtain ⟨k, hk, rfl, HB⟩ := hrel
    by_cases hlt : k < 2
    · have hlt' : (k : Int) < 2 := by omega
      cases hlit : ((k : Int) == 1)
      · have hp := fun W => Put_ok v 64 false hv (by decide) W
        have hg := fun W => Get_any (packS (endB false (vbits v 64))) (64 : Nat) true false (by rw [packS_size, endB_length, vbits_length, maxLen_val]; omega) ⟨by omega, by omega⟩ W
        have hu := fun W => Get_any (packS (endB false (vbits v 64))) (64 : Nat) false false (by rw [packS_size, endB_length, vbits_length, maxLen_val]; omega) ⟨by omega, by omega⟩ W
        have hq := fun W => Put_ok (svN v 64) 64 false (sv_ok v 64 (by omega) (by omega)) (by decide) W
        rw [put_ok_eq v 64 false (by omega) (by simp)] at hp
        rw [get_put v 64 false true (by omega) (by simp), getV_true] at hg
        rw [get_put v 64 false false (by omega) (by simp), getV_false v 64 hv (by omega)] at hu
        rw [put_again v 64 false (by omega) (by omega) (by simp)] at hq
        have hsz := sv_ok v 64 (by omega) (by omega)
        have hsv : svN v 64 = v := hfit
        rw [hsv] at hg hq
        generalize packS (endB false (vbits v 64)) = t at hp hg hu hq
        rw [if_pos ⟨rfl, hneg⟩] at hu
        simp only [bitsRet, getRet] at hp hg hq hu
        rw [show (((64 : Nat) : Int)) = 64 from rfl] at hp hg hq hu
        have HP := Lib.hid hp
        have HG := Lib.hid hg
        have HU := Lib.hid hu
        have HQ := Lib.hid hq
        clear hp hg hu hq
        obtain ⟨n0, n1⟩ := hsz
        go_wp2_with fail
        refine (HP.out _).mono ?_
        rintro e w1 ⟨rfl, hb1⟩
        have HB1 := Lib.hid (bstep HB.out hb1)
        clear hb1
        go_wp2_with fail
        refine (HG.out _).mono ?_
        rintro e w2 ⟨rfl, hb2⟩
        have HX2 := Lib.hid (keepB hb2 (new1_0 w1 (.cells #[.string t, .int .i64 64] 25)))
        have HB2 := Lib.hid (bstep (balloc HB1.out _) hb2)
        clear hb2
        go_wp2_with fail
        refine (HQ.out _).mono ?_
        rintro e w3 ⟨rfl, hb3⟩
        have HX3 := Lib.hid (keepB hb3 HX2.out)
        have HB3 := Lib.hid (bstep HB2.out hb3)
        clear hb3
        have a0 := cells_of HX3.out 0
        have a1 := cells_of HX3.out 1
        simp only [List.getElem?_toArray, List.getElem?_cons_succ, List.getElem?_cons_zero] at a0 a1
        have z1 := lt_of_block HX3.out
        go_wp2_with fail
        refine (HU.out _).mono ?_
        rintro e w4 ⟨rfl, hb4⟩
        have HB4 := Lib.hid (bstep (balloc HB3.out _) hb4)
        clear hb4
        go_wp2_with fail
        go_roundw
        case rel => exact ⟨k + 1, by omega, by go_num, HB4⟩
        case measure => simp only [intOf]; omega
      · have hp := fun W => Put_ok v 64 true hv (by decide) W
        have hg := fun W => Get_any (packS (endB true (vbits v 64))) (64 : Nat) true true (by rw [packS_size, endB_length, vbits_length, maxLen_val]; omega) ⟨by omega, by omega⟩ W
        have hu := fun W => Get_any (packS (endB true (vbits v 64))) (64 : Nat) false true (by rw [packS_size, endB_length, vbits_length, maxLen_val]; omega) ⟨by omega, by omega⟩ W
        have hq := fun W => Put_ok (svN v 64) 64 true (sv_ok v 64 (by omega) (by omega)) (by decide) W
        rw [put_ok_eq v 64 true (by omega) (by simp)] at hp
        rw [get_put v 64 true true (by omega) (by simp), getV_true] at hg
        rw [get_put v 64 true false (by omega) (by simp), getV_false v 64 hv (by omega)] at hu
        rw [put_again v 64 true (by omega) (by omega) (by simp)] at hq
        have hsz := sv_ok v 64 (by omega) (by omega)
        have hsv : svN v 64 = v := hfit
        rw [hsv] at hg hq
        generalize packS (endB true (vbits v 64)) = t at hp hg hu hq
        rw [if_pos ⟨rfl, hneg⟩] at hu
        simp only [bitsRet, getRet] at hp hg hq hu
        rw [show (((64 : Nat) : Int)) = 64 from rfl] at hp hg hq hu
        have HP := Lib.hid hp
        have HG := Lib.hid hg
        have HU := Lib.hid hu
        have HQ := Lib.hid hq
        clear hp hg hu hq
        obtain ⟨n0, n1⟩ := hsz
        go_wp2_with fail
        refine (HP.out _).mono ?_
        rintro e w1 ⟨rfl, hb1⟩
        have HB1 := Lib.hid (bstep HB.out hb1)
        clear hb1
        go_wp2_with fail
        refine (HG.out _).mono ?_
        rintro e w2 ⟨rfl, hb2⟩
        have HX2 := Lib.hid (keepB hb2 (new1_0 w1 (.cells #[.string t, .int .i64 64] 25)))
        have HB2 := Lib.hid (bstep (balloc HB1.out _) hb2)
        clear hb2
        go_wp2_with fail
        refine (HQ.out _).mono ?_
        rintro e w3 ⟨rfl, hb3⟩
        have HX3 := Lib.hid (keepB hb3 HX2.out)
        have HB3 := Lib.hid (bstep HB2.out hb3)
        clear hb3
        have a0 := cells_of HX3.out 0
        have a1 := cells_of HX3.out 1
        simp only [List.getElem?_toArray, List.getElem?_cons_succ, List.getElem?_cons_zero] at a0 a1
        have z1 := lt_of_block HX3.out
        go_wp2_with fail
        refine (HU.out _).mono ?_
        rintro e w4 ⟨rfl, hb4⟩
        have HB4 := Lib.hid (bstep (balloc HB3.out _) hb4)
        clear hb4
        go_wp2_with fail
        go_roundw
        case rel => exact ⟨k + 1, by omega, by go_num, HB4⟩
        case measure => simp only [intOf]; omega
    · have hlt' : ¬ (k : Int) < 2 := by omega
      go_wp2_with fail
      refine (awake_any _).mono ?_
      rintro e w1 ⟨rfl, hb⟩
      go_wp2_with fail
      go_ret
      exact ⟨rfl, bstep HB.out hb⟩
set_option maxRecDepth 100000 in
set_option maxHeartbeats 4000000 in
theorem back_nn (v : Int) (hv : i64ok v) (hneg : ¬ v < 0) (w : World) :
    Calls Try.prog 9 #[.int .i64 v, .int .i64 64] w (Yes w) := by
  have hfit : svN v 64 = v := sv_fits v 64 (by omega) (by omega) (by have := hv.1; omega) (by have := hv.2; omega)
  have hnv : (v != v) = false := by simp
  have hm := mask_64 v
  have hm2 := mask_64b v
  have hlo := u64_wrap_low v
  have hvv := hv
  obtain ⟨v0, v1⟩ := hvv
  go_enter Try.func9, Try.ntmps9
  go_wp2_with fail
  go_loopw [5] (fun i wr => ∃ k : Nat, k ≤ 2 ∧ i = .int .i64 k ∧ Hid (Below w.heap.size w wr)) (fun i _ => 2 - (intOf i).toNat)
  case atStart => exact ⟨0, by omega, rfl, Lib.hid (Below.refl _ _)⟩
  case round =>
    obtain ⟨k, hk, rfl, HB⟩ := hrel
    by_cases hlt : k < 2
    · have hlt' : (k : Int) < 2 := by omega
      cases hlit : ((k : Int) == 1)
      · have hp := fun W => Put_ok v 64 false hv (by decide) W
        have hg := fun W => Get_any (packS (endB false (vbits v 64))) (64 : Nat) true false (by rw [packS_size, endB_length, vbits_length, maxLen_val]; omega) ⟨by omega, by omega⟩ W
        have hu := fun W => Get_any (packS (endB false (vbits v 64))) (64 : Nat) false false (by rw [packS_size, endB_length, vbits_length, maxLen_val]; omega) ⟨by omega, by omega⟩ W
        have hq := fun W => Put_ok (svN v 64) 64 false (sv_ok v 64 (by omega) (by omega)) (by decide) W
        rw [put_ok_eq v 64 false (by omega) (by simp)] at hp
        rw [get_put v 64 false true (by omega) (by simp), getV_true] at hg
        rw [get_put v 64 false false (by omega) (by simp), getV_false v 64 hv (by omega)] at hu
        rw [put_again v 64 false (by omega) (by omega) (by simp)] at hq
        have hsz := sv_ok v 64 (by omega) (by omega)
        have hsv : svN v 64 = v := hfit
        rw [hsv] at hg hq
        generalize packS (endB false (vbits v 64)) = t at hp hg hu hq
        rw [if_neg (fun e => by omega)] at hu
        simp only [bitsRet, getRet] at hp hg hq hu
        rw [show (((64 : Nat) : Int)) = 64 from rfl] at hp hg hq hu
        have HP := Lib.hid hp
        have HG := Lib.hid hg
        have HU := Lib.hid hu
        have HQ := Lib.hid hq
        clear hp hg hu hq
        obtain ⟨n0, n1⟩ := hsz
        go_wp2_with fail
        refine (HP.out _).mono ?_
        rintro e w1 ⟨rfl, hb1⟩
        have HB1 := Lib.hid (bstep HB.out hb1)
        clear hb1
        go_wp2_with fail
        refine (HG.out _).mono ?_
        rintro e w2 ⟨rfl, hb2⟩
        have HX2 := Lib.hid (keepB hb2 (new1_0 w1 (.cells #[.string t, .int .i64 64] 25)))
        have HB2 := Lib.hid (bstep (balloc HB1.out _) hb2)
        clear hb2
        go_wp2_with fail
        refine (HQ.out _).mono ?_
        rintro e w3 ⟨rfl, hb3⟩
        have HX3 := Lib.hid (keepB hb3 HX2.out)
        have HB3 := Lib.hid (bstep HB2.out hb3)
        clear hb3
        have a0 := cells_of HX3.out 0
        have a1 := cells_of HX3.out 1
        simp only [List.getElem?_toArray, List.getElem?_cons_succ, List.getElem?_cons_zero] at a0 a1
        have z1 := lt_of_block HX3.out
        go_wp2_with fail
        refine (HU.out _).mono ?_
        rintro e w4 ⟨rfl, hb4⟩
        have HB4 := Lib.hid (bstep (balloc HB3.out _) hb4)
        clear hb4
        go_wp2_with fail
        go_roundw
        case rel => exact ⟨k + 1, by omega, by go_num, HB4⟩
        case measure => simp only [intOf]; omega
      · have hp := fun W => Put_ok v 64 true hv (by decide) W
        have hg := fun W => Get_any (packS (endB true (vbits v 64))) (64 : Nat) true true (by rw [packS_size, endB_length, vbits_length, maxLen_val]; omega) ⟨by omega, by omega⟩ W
        have hu := fun W => Get_any (packS (endB true (vbits v 64))) (64 : Nat) false true (by rw [packS_size, endB_length, vbits_length, maxLen_val]; omega) ⟨by omega, by omega⟩ W
        have hq := fun W => Put_ok (svN v 64) 64 true (sv_ok v 64 (by omega) (by omega)) (by decide) W
        rw [put_ok_eq v 64 true (by omega) (by simp)] at hp
        rw [get_put v 64 true true (by omega) (by simp), getV_true] at hg
        rw [get_put v 64 true false (by omega) (by simp), getV_false v 64 hv (by omega)] at hu
        rw [put_again v 64 true (by omega) (by omega) (by simp)] at hq
        have hsz := sv_ok v 64 (by omega) (by omega)
        have hsv : svN v 64 = v := hfit
        rw [hsv] at hg hq
        generalize packS (endB true (vbits v 64)) = t at hp hg hu hq
        rw [if_neg (fun e => by omega)] at hu
        simp only [bitsRet, getRet] at hp hg hq hu
        rw [show (((64 : Nat) : Int)) = 64 from rfl] at hp hg hq hu
        have HP := Lib.hid hp
        have HG := Lib.hid hg
        have HU := Lib.hid hu
        have HQ := Lib.hid hq
        clear hp hg hu hq
        obtain ⟨n0, n1⟩ := hsz
        go_wp2_with fail
        refine (HP.out _).mono ?_
        rintro e w1 ⟨rfl, hb1⟩
        have HB1 := Lib.hid (bstep HB.out hb1)
        clear hb1
        go_wp2_with fail
        refine (HG.out _).mono ?_
        rintro e w2 ⟨rfl, hb2⟩
        have HX2 := Lib.hid (keepB hb2 (new1_0 w1 (.cells #[.string t, .int .i64 64] 25)))
        have HB2 := Lib.hid (bstep (balloc HB1.out _) hb2)
        clear hb2
        go_wp2_with fail
        refine (HQ.out _).mono ?_
        rintro e w3 ⟨rfl, hb3⟩
        have HX3 := Lib.hid (keepB hb3 HX2.out)
        have HB3 := Lib.hid (bstep HB2.out hb3)
        clear hb3
        have a0 := cells_of HX3.out 0
        have a1 := cells_of HX3.out 1
        simp only [List.getElem?_toArray, List.getElem?_cons_succ, List.getElem?_cons_zero] at a0 a1
        have z1 := lt_of_block HX3.out
        go_wp2_with fail
        refine (HU.out _).mono ?_
        rintro e w4 ⟨rfl, hb4⟩
        have HB4 := Lib.hid (bstep (balloc HB3.out _) hb4)
        clear hb4
        go_wp2_with fail
        go_roundw
        case rel => exact ⟨k + 1, by omega, by go_num, HB4⟩
        case measure => simp only [intOf]; omega
    · have hlt' : ¬ (k : Int) < 2 := by omega
      go_wp2_with fail
      refine (awake_any _).mono ?_
      rintro e w1 ⟨rfl, hb⟩
      go_wp2_with fail
      go_ret
      exact ⟨rfl, bstep HB.out hb⟩
set_option maxRecDepth 100000 in
set_option maxHeartbeats 1000000 in
theorem lawBack (v size : Int) (hv : i64ok v) (hz : i64ok size) (w : World) :
    Calls Try.prog 9 #[.int .i64 v, .int .i64 size] w (Yes w) := by
  by_cases h0 : size < 1
  · go_enter Try.func9, Try.ntmps9
    go_wp2_with fail
    refine (awake_any _).mono ?_
    rintro e w1 ⟨rfl, hb⟩
    go_wp2_with fail
    go_ret
    exact ⟨rfl, hb⟩
  · by_cases h1 : 64 < size
    · go_enter Try.func9, Try.ntmps9
      go_wp2_with fail
      refine (awake_any _).mono ?_
      rintro e w1 ⟨rfl, hb⟩
      go_wp2_with fail
      go_ret
      exact ⟨rfl, hb⟩
    · obtain ⟨n, rfl⟩ := Int.eq_ofNat_of_zero_le (show 0 ≤ size by omega)
      by_cases h64 : n = 64
      · subst h64
        by_cases hn : v < 0
        · exact back_neg v hv hn w
        · exact back_nn v hv hn w
      · by_cases ha : v < -(2 ^ (n - 1))
        · exact back_lo v n hv (by omega) (by omega) ha w
        · by_cases hb : v < 2 ^ (n - 1)
          · exact back_in v n hv (by omega) (by omega) (by omega) hb w
          · exact back_hi v n hv (by omega) (by omega) (by omega) w
end Go.Proofs.Ytdgjbejbbmnhbaa
