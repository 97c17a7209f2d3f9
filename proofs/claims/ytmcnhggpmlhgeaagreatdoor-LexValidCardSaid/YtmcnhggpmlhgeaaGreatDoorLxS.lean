/-
  Walks: Valid of lex.
-/
import Derived.Test.YtmcnhggpmlhgeaaGreatDoorLd
import Derived.Test.YtmcnhggpmlhgeaaGreatDoorNames
namespace Go.Proofs.YtmcnhggpmlhgeaaGreatDoor
open Go.RowKit Go.Proofs.BitsM
/-- a byte that a string token may not hold -/
def oddB (x : Nat) : Bool := decide (x ≠ 10) && (decide (x < 32) || decide (126 < x))
theorem odd_plain (c : UInt8) : oddB c.toNat = !(decide (c.toNat = 10) || (decide (32 ≤ c.toNat) && decide (c.toNat ≤ 126))) := by
  unfold oddB
  rw [Bool.eq_iff_iff]
  simp only [Bool.and_eq_true, Bool.or_eq_true, Bool.not_eq_true', Bool.or_eq_false_iff, Bool.and_eq_false_iff, decide_eq_true_eq, decide_eq_false_iff_not]
  omega
theorem contains_plain (tx : List UInt8) : ∀ (f pos : Nat), tx.length ≤ pos + f → decide (0 ≤ Lib.idxFuncFrom oddB true (ba tx) f pos) = !plainB (tx.drop pos)
  | 0, pos, h => by
    rw [List.drop_eq_nil_of_le (by omega)]
    rfl
  | f + 1, pos, h => by
    unfold Lib.idxFuncFrom
    rw [ba_size]
    by_cases hp : pos < tx.length
    · rw [if_pos hp]
      have hs : pos < (ba tx).size := by rw [ba_size]; exact hp
      obtain ⟨c, he, hdr⟩ : ∃ c, (ba tx)[pos]'hs = c ∧ tx.drop pos = c :: tx.drop (pos + 1) := ⟨_, rfl, List.drop_eq_getElem_cons hp⟩
      rw [hdr]
      have hpl : plainB (c :: tx.drop (pos + 1)) = (!oddB c.toNat && plainB (tx.drop (pos + 1))) := by
        rw [odd_plain, Bool.not_not]; rfl
      rw [hpl]
      by_cases ha : c.toNat < 128
      · have hd := decode_ascii (ba tx) pos hs (by rw [he]; exact ha)
        rw [he] at hd
        rw [hd]
        simp only
        cases ho : oddB c.toNat with
        | true =>
          rw [if_pos rfl]
          simp
        | false =>
          rw [if_neg Bool.false_ne_true, contains_plain tx f (pos + 1) (by omega)]
          simp
      · have hd := decode_high (ba tx) pos hs (by rw [he]; omega)
        have h1 : oddB (Utf8.decode (ba tx) pos).1 = true := by
          unfold oddB
          simp only [Bool.and_eq_true, Bool.or_eq_true, decide_eq_true_eq]
          omega
        have h2 : oddB c.toNat = true := by
          unfold oddB
          simp only [Bool.and_eq_true, Bool.or_eq_true, decide_eq_true_eq]
          omega
        rw [h1, if_pos rfl, h2]
        simp
    · rw [if_neg hp, List.drop_eq_nil_of_le (by omega)]
      rfl
theorem contains_any (tx : List UInt8) : decide (0 ≤ Lib.idxFunc oddB true (ba tx)) = !plainB tx := by
  unfold Lib.idxFunc
  rw [contains_plain tx (ba tx).size 0 (by rw [ba_size]; omega)]
  rfl
set_option maxRecDepth 100000 in
set_option maxHeartbeats 4000000 in
theorem odd_call (x : Nat) (hx : x ≤ 1114111) (w : World) : Calls Tryz.prog 42 #[.int .i32 (x : Int)] w fun e w' => e = .returned (.bool (oddB x)) ∧ w' = w := by
  have hs : oddB x = (decide (x ≠ 10) && (decide (x < 32) || decide (126 < x))) := rfl
  generalize oddB x = r at hs ⊢
  by_cases h1 : x = 10
  · have HR := Lib.hid (show r = false by rw [hs]; simp [h1])
    clear hs
    have x1 : (x : Int) = 10 := by omega
    clear h1
    go_enter Tryz.func42, Tryz.ntmps42
    go_wp2_with fail
    go_ret
    exact ⟨by rw [HR.out]; rfl, rfl⟩
  · have x1 : ¬ (x : Int) = 10 := by omega
    by_cases h2 : x < 32
    · have HR := Lib.hid (show r = true by rw [hs]; simp [h1, h2])
      clear hs
      have x2 : (x : Int) < 32 := by omega
      clear h1 h2
      go_enter Tryz.func42, Tryz.ntmps42
      go_wp2_with fail
      go_ret
      exact ⟨by rw [HR.out]; rfl, rfl⟩
    · have x2 : ¬ (x : Int) < 32 := by omega
      by_cases h3 : 126 < x
      · have HR := Lib.hid (show r = true by rw [hs]; simp [h1, h3])
        clear hs
        have x3 : (126 : Int) < (x : Int) := by omega
        clear h1 h2 h3
        go_enter Tryz.func42, Tryz.ntmps42
        go_wp2_with fail
        go_ret
        exact ⟨by rw [HR.out]; rfl, rfl⟩
      · have HR := Lib.hid (show r = false by rw [hs]; simp [h2, h3])
        clear hs
        have x3 : ¬ (126 : Int) < (x : Int) := by omega
        clear h1 h2 h3
        go_enter Tryz.func42, Tryz.ntmps42
        go_wp2_with fail
        go_ret
        exact ⟨by rw [HR.out]; rfl, rfl⟩
theorem contains_call (tx : List UInt8) (w : World) : Calls Tryz.prog 41 #[.string (ba tx), .func (.func 42) #[] #[]] w fun e w' => e = .returned (.bool (!plainB tx)) ∧ Below w.heap.size w w' := by
  rw [← contains_any]
  refine Tryz.strings_ContainsFunc_grows _ #[] (by intro args w; kernel_rfl) oddB (ba tx) w ?_
  intro W x hx hb
  refine (odd_call x hx W).mono ?_
  rintro e w' ⟨rfl, rfl⟩
  exact ⟨rfl, Below.refl _ _⟩
set_option maxRecDepth 100000 in
set_option maxHeartbeats 8000000 in
theorem Valid_3a (k : Int) (tx : List UInt8) (n : Nat) (pos : Int) (w : World) (hk : k = 3) (ht : tx ≠ []) :
    Calls Tryz.prog 18 #[.agg #[.int .i64 k, .string (ba tx), .int .u64 (n : Int), .int .i64 pos]] w fun e w' => e = .returned (.bool false) ∧ Below w.heap.size w w' := by
  have x3 : (k == 3) = true := by simp; omega
  have xe : (ba tx).toList.isEmpty = false := by rw [ba_toList]; cases tx with | nil => exact absurd rfl ht | cons c r => rfl
  clear hk ht
  go_enter Tryz.func18, Tryz.ntmps18
  go_wp2_with fail
  go_ret
  exact ⟨rfl, below_alloc _ _⟩
set_option maxRecDepth 100000 in
set_option maxHeartbeats 8000000 in
theorem Valid_3b (k : Int) (tx : List UInt8) (n : Nat) (pos : Int) (w : World) (hk : k = 3) (ht : tx = []) (hn : n ≤ 9223372036854775808) :
    Calls Tryz.prog 18 #[.agg #[.int .i64 k, .string (ba tx), .int .u64 (n : Int), .int .i64 pos]] w fun e w' => e = .returned (.bool true) ∧ Below w.heap.size w w' := by
  have x3 : (k == 3) = true := by simp; omega
  subst ht
  have xe : (ba ([] : List UInt8)).toList.isEmpty = true := by rw [ba_toList]; rfl
  have xn : (n : Int) ≤ 9223372036854775808 := by omega
  clear hk hn
  go_enter Tryz.func18, Tryz.ntmps18
  go_wp2_with fail
  go_ret
  exact ⟨rfl, below_alloc _ _⟩
set_option maxRecDepth 100000 in
set_option maxHeartbeats 8000000 in
theorem Valid_3c (k : Int) (tx : List UInt8) (n : Nat) (pos : Int) (w : World) (hk : k = 3) (ht : tx = []) (hn : ¬ n ≤ 9223372036854775808) :
    Calls Tryz.prog 18 #[.agg #[.int .i64 k, .string (ba tx), .int .u64 (n : Int), .int .i64 pos]] w fun e w' => e = .returned (.bool false) ∧ Below w.heap.size w w' := by
  have x3 : (k == 3) = true := by simp; omega
  subst ht
  have xe : (ba ([] : List UInt8)).toList.isEmpty = true := by rw [ba_toList]; rfl
  have xn : ¬ (n : Int) ≤ 9223372036854775808 := by omega
  clear hk hn
  go_enter Tryz.func18, Tryz.ntmps18
  go_wp2_with fail
  go_ret
  exact ⟨rfl, below_alloc _ _⟩
set_option maxRecDepth 100000 in
set_option maxHeartbeats 8000000 in
theorem Valid_nz (k : Int) (tx : List UInt8) (n : Nat) (pos : Int) (w : World) (hk : k ≠ 3) (hn : n ≠ 0) :
    Calls Tryz.prog 18 #[.agg #[.int .i64 k, .string (ba tx), .int .u64 (n : Int), .int .i64 pos]] w fun e w' => e = .returned (.bool false) ∧ Below w.heap.size w w' := by
  have x3 : (k == 3) = false := by simp; omega
  have xn : ((n : Int) == 0) = false := by simp; omega
  clear hk hn
  go_enter Tryz.func18, Tryz.ntmps18
  go_wp2_with fail
  go_ret
  exact ⟨rfl, below_alloc _ _⟩
set_option maxRecDepth 100000 in
set_option maxHeartbeats 8000000 in
theorem Valid_other (k : Int) (tx : List UInt8) (n : Nat) (pos : Int) (w : World) (hk : ¬ (k = 1 ∨ k = 2 ∨ k = 3 ∨ k = 4 ∨ k = 5 ∨ k = 6)) (hn : n = 0) :
    Calls Tryz.prog 18 #[.agg #[.int .i64 k, .string (ba tx), .int .u64 (n : Int), .int .i64 pos]] w fun e w' => e = .returned (.bool false) ∧ Below w.heap.size w w' := by
  subst hn
  have x3 : (k == 3) = false := by simp; omega
  have x1 : (k == 1) = false := by simp; omega
  have x2 : (k == 2) = false := by simp; omega
  have x4 : (k == 4) = false := by simp; omega
  have x5 : (k == 5) = false := by simp; omega
  have x6 : (k == 6) = false := by simp; omega
  clear hk
  go_enter Tryz.func18, Tryz.ntmps18
  go_wp2_with fail
  go_ret
  exact ⟨rfl, below_alloc _ _⟩
set_option maxRecDepth 100000 in
set_option maxHeartbeats 8000000 in
theorem Valid_5 (k : Int) (tx : List UInt8) (n : Nat) (pos : Int) (w : World) (hk : k = 5) (hn : n = 0) (hl : tx.length ≤ 1000000) (hT : ∀ W, Below w.heap.size w W → As W) :
    Calls Tryz.prog 18 #[.agg #[.int .i64 k, .string (ba tx), .int .u64 (n : Int), .int .i64 pos]] w fun e w' => e = .returned (.bool (resB tx)) ∧ Below w.heap.size w w' := by
  subst hn
  have x3 : (k == 3) = false := by simp; omega
  have x1 : (k == 1) = false := by simp; omega
  have x2 : (k == 2) = false := by simp; omega
  have x4 : (k == 4) = false := by simp; omega
  have x5 : (k == 5) = true := by simp; omega
  have x6 : (k == 6) = false := by simp; omega
  clear hk
  have HT := Lib.hid hT
  clear hT
  go_enter Tryz.func18, Tryz.ntmps18
  go_wp2_with fail
  refine (Reserved_p tx (by omega) _ fun W hb => HT.out W (bstep (below_alloc w _) hb)).mono ?_
  rintro e w1 ⟨rfl, hb1⟩
  have HW1 := Lib.hid (bstep (below_alloc w _) hb1)
  clear hb1
  go_wp2_with fail
  go_ret
  exact ⟨rfl, HW1.out⟩
set_option maxRecDepth 100000 in
set_option maxHeartbeats 8000000 in
theorem Valid_4 (k : Int) (tx : List UInt8) (n : Nat) (pos : Int) (w : World) (hk : k = 4) (hn : n = 0) :
    Calls Tryz.prog 18 #[.agg #[.int .i64 k, .string (ba tx), .int .u64 (n : Int), .int .i64 pos]] w fun e w' => e = .returned (.bool (plainB tx)) ∧ Below w.heap.size w w' := by
  subst hn
  have x3 : (k == 3) = false := by simp; omega
  have x1 : (k == 1) = false := by simp; omega
  have x2 : (k == 2) = false := by simp; omega
  have x4 : (k == 4) = true := by simp; omega
  have x5 : (k == 5) = false := by simp; omega
  have x6 : (k == 6) = false := by simp; omega
  clear hk
  go_enter Tryz.func18, Tryz.ntmps18
  go_wp2_with fail
  refine (contains_call tx _).mono ?_
  rintro e w1 ⟨rfl, hb1⟩
  have HW1 := Lib.hid (bstep (below_alloc w _) hb1)
  clear hb1
  go_wp2_with fail
  go_ret
  exact ⟨ret_bool (by cases plainB tx <;> rfl), HW1.out⟩
set_option maxRecDepth 100000 in
set_option maxHeartbeats 8000000 in
theorem Valid_1a (k : Int) (tx : List UInt8) (n : Nat) (pos : Int) (w : World) (hk : k = 1) (hn : n = 0) (hB : nameB (ba tx) = true) (hl : tx.length ≤ 1000000) (hT : ∀ W, Below w.heap.size w W → As W) :
    Calls Tryz.prog 18 #[.agg #[.int .i64 k, .string (ba tx), .int .u64 (n : Int), .int .i64 pos]] w fun e w' => e = .returned (.bool (!resB tx)) ∧ Below w.heap.size w w' := by
  subst hn
  have x3 : (k == 3) = false := by simp; omega
  have x1 : (k == 1) = true := by simp; omega
  have x2 : (k == 2) = false := by simp; omega
  have x4 : (k == 4) = false := by simp; omega
  have x5 : (k == 5) = false := by simp; omega
  have x6 : (k == 6) = false := by simp; omega
  clear hk
  have HT := Lib.hid hT
  clear hT
  have HN := Lib.hid fun W => (show Calls Tryz.prog 38 #[.string (ba tx)] W fun e w' => e = .returned (.bool true) ∧ Below W.heap.size W w' from by rw [← hB]; exact Valid_any (ba tx) (by rw [ba_size]; unfold maxLen; omega) W)
  clear hB
  go_enter Tryz.func18, Tryz.ntmps18
  go_wp2_with fail
  refine (HN.out _).mono ?_
  rintro e w1 ⟨rfl, hb1⟩
  have HW1 := Lib.hid (bstep (below_alloc w _) hb1)
  obtain ⟨c0, c1, c2, c3, -⟩ := four_cells ((hb1.block w.heap.size (by simp)).trans (heap_alloc_new w _))
  clear hb1
  go_wp2_with fail
  refine (Reserved_p tx (by omega) _ fun W hb => HT.out W (bstep HW1.out hb)).mono ?_
  rintro e w2 ⟨rfl, hb2⟩
  have HW2 := Lib.hid (bstep HW1.out hb2)
  clear hb2 HW1 c0 c1 c2 c3
  go_wp2_with fail
  go_ret
  exact ⟨ret_bool (by cases resB tx <;> rfl), HW2.out⟩
set_option maxRecDepth 100000 in
set_option maxHeartbeats 8000000 in
theorem Valid_1b (k : Int) (tx : List UInt8) (n : Nat) (pos : Int) (w : World) (hk : k = 1) (hn : n = 0) (hB : nameB (ba tx) = false) (hl : tx.length ≤ 1000000) (hT : ∀ W, Below w.heap.size w W → As W) :
    Calls Tryz.prog 18 #[.agg #[.int .i64 k, .string (ba tx), .int .u64 (n : Int), .int .i64 pos]] w fun e w' => e = .returned (.bool false) ∧ Below w.heap.size w w' := by
  subst hn
  have x3 : (k == 3) = false := by simp; omega
  have x1 : (k == 1) = true := by simp; omega
  have x2 : (k == 2) = false := by simp; omega
  have x4 : (k == 4) = false := by simp; omega
  have x5 : (k == 5) = false := by simp; omega
  have x6 : (k == 6) = false := by simp; omega
  clear hk
  have HT := Lib.hid hT
  clear hT
  have HN := Lib.hid fun W => (show Calls Tryz.prog 38 #[.string (ba tx)] W fun e w' => e = .returned (.bool false) ∧ Below W.heap.size W w' from by rw [← hB]; exact Valid_any (ba tx) (by rw [ba_size]; unfold maxLen; omega) W)
  clear hB
  go_enter Tryz.func18, Tryz.ntmps18
  go_wp2_with fail
  refine (HN.out _).mono ?_
  rintro e w1 ⟨rfl, hb1⟩
  have HW1 := Lib.hid (bstep (below_alloc w _) hb1)
  obtain ⟨c0, c1, c2, c3, -⟩ := four_cells ((hb1.block w.heap.size (by simp)).trans (heap_alloc_new w _))
  clear hb1
  go_wp2_with fail
  go_ret
  exact ⟨rfl, HW1.out⟩
theorem signB_eq (tx : List UInt8) (h : signN tx = tx.length) (h0 : tx ≠ []) : signB tx = true := by
  have h1 := signN_take (s := tx) (by rw [h]; cases tx with | nil => exact absurd rfl h0 | cons c r => simp)
  rw [h, List.take_length] at h1
  exact h1.1
set_option maxRecDepth 100000 in
set_option maxHeartbeats 8000000 in
theorem Valid_6a (k : Int) (tx : List UInt8) (n : Nat) (pos : Int) (w : World) (hk : k = 6) (hn : n = 0) (ht : tx = []) :
    Calls Tryz.prog 18 #[.agg #[.int .i64 k, .string (ba tx), .int .u64 (n : Int), .int .i64 pos]] w fun e w' => e = .returned (.bool false) ∧ Below w.heap.size w w' := by
  subst hn
  have x3 : (k == 3) = false := by simp; omega
  have x1 : (k == 1) = false := by simp; omega
  have x2 : (k == 2) = false := by simp; omega
  have x4 : (k == 4) = false := by simp; omega
  have x5 : (k == 5) = false := by simp; omega
  have x6 : (k == 6) = true := by simp; omega
  clear hk
  have xe : (ba tx).toList.isEmpty = true := by rw [ba_toList, ht]; rfl
  clear ht
  go_enter Tryz.func18, Tryz.ntmps18
  go_upto_region 16 with (fail)
  have HB0 := Lib.hid (show (fun W : World => W.heap[w.heap.size]? = some (.cells #[.int .i64 k, .string (ba tx), .int .u64 ((0 : Nat) : Int), .int .i64 pos] 36 (0, 0)) ∧ Below w.heap.size w W) (w.alloc (.cells #[.int .i64 k, .string (ba tx), .int .u64 ((0 : Nat) : Int), .int .i64 pos] 36 (0, 0))).drew from ⟨heap_alloc_new w _, (below_alloc w _).drew⟩)
  refine' wp_region_fix (by kernel_rfl) 12 [some 82, some 83, some 84, some 85, some 86, some 87, some 88, some 89, some 90, some 91, some 92, some 93] [_, _, _, _, _, _, _, _, _, _, _, _] [] (fun _ W => W.heap[w.heap.size]? = some (.cells #[.int .i64 k, .string (ba tx), .int .u64 ((0 : Nat) : Int), .int .i64 pos] 36 (0, 0)) ∧ Below w.heap.size w W) (by kernel_rfl) (by decide) (by kernel_rfl) (by decide) (by rfl) (by decide) (HB0.out) ?_ ?_
  rotate_left 12
  · refine all_cons 0 ?_ (all_cons 1 ?_ (all_cons 2 ?_ (all_cons 3 ?_ (all_cons 4 ?_ (all_cons 5 ?_ (all_cons 6 ?_ (all_cons 7 ?_ (all_cons 8 ?_ (all_cons 9 ?_ (all_cons 10 ?_ (all_cons 11 ?_ (all_done 12))))))))))))
    · intro o ho fs W HFi HAf HJ A HA HZ K' HK
      have z1 : A.tmps[1]? = some _ := HZ.out 1 (by decide)
      clear HAf HA HZ
      cases ho
      go_simp
      exact HK.out _ HJ.out
    · intro o ho fs W HFi HAf HJ A HA HZ K' HK
      have f0 : fs 0 = true := by cases ho; exact HAf.out ⟨0, .data⟩ (by simp) rfl
      have s0 := HA.out 0 82 (by decide) f0 rfl
      simp only [List.getD_cons_zero] at s0
      clear HAf HA HZ f0
      obtain ⟨c0, c1, c2, c3, -⟩ := four_cells HJ.out.1
      cases ho
      go_simp
      exact HK.out _ HJ.out
    · intro o ho fs W HFi HAf HJ A HA HZ K' HK
      have f1 : fs 1 = true := by cases ho; exact HAf.out ⟨1, .data⟩ (by simp) rfl
      have s1 := HA.out 1 83 (by decide) f1 rfl
      simp only [List.getD_cons_succ, List.getD_cons_zero] at s1
      clear HAf HA HZ f1
      cases ho
      go_simp
      exact HK.out _ HJ.out
    · intro o ho fs W HFi HAf HJ A HA HZ K' HK
      have f2 : fs 2 = true := by cases ho; exact HAf.out ⟨2, .data⟩ (by simp) rfl
      have s2 := HA.out 2 84 (by decide) f2 rfl
      simp only [List.getD_cons_succ, List.getD_cons_zero] at s2
      clear HAf HA HZ f2
      cases ho
      go_simp
      exact HK.out _ HJ.out
    · intro o ho fs W HFi HAf HJ A HA HZ K' HK
      have z1 : A.tmps[1]? = some _ := HZ.out 1 (by decide)
      have f3 : fs 3 = true := by cases ho; exact HAf.out ⟨3, .guard⟩ (by simp) rfl
      have s3 := HA.out 3 85 (by decide) f3 rfl
      simp only [List.getD_cons_succ, List.getD_cons_zero] at s3
      clear HAf HA HZ f3
      cases ho
      go_simp
      exact HK.out _ HJ.out
    · intro o ho fs W HFi HAf HJ A HA HZ K' HK
      have f4 : fs 4 = true := by cases ho; exact HAf.out ⟨4, .data⟩ (by simp) rfl
      have s4 := HA.out 4 86 (by decide) f4 rfl
      simp only [List.getD_cons_succ, List.getD_cons_zero] at s4
      have f3 : fs 3 = true := by cases ho; exact HAf.out ⟨3, .guard⟩ (by simp) rfl
      have s3 := HA.out 3 85 (by decide) f3 rfl
      simp only [List.getD_cons_succ, List.getD_cons_zero] at s3
      clear HAf HA HZ f4 f3
      obtain ⟨c0, c1, c2, c3, -⟩ := four_cells HJ.out.1
      cases ho
      go_simp
      exact HK.out _ HJ.out
    · intro o ho fs W HFi HAf HJ A HA HZ K' HK
      have f5 : fs 5 = true := by cases ho; exact HAf.out ⟨5, .data⟩ (by simp) rfl
      have s5 := HA.out 5 87 (by decide) f5 rfl
      simp only [List.getD_cons_succ, List.getD_cons_zero] at s5
      have f3 : fs 3 = true := by cases ho; exact HAf.out ⟨3, .chain⟩ (by simp) rfl
      have s3 := HA.out 3 85 (by decide) f3 rfl
      simp only [List.getD_cons_succ, List.getD_cons_zero] at s3
      clear HAf HA HZ f5 f3
      cases ho
      go_simp
      exact HK.out _ HJ.out
    · intro o ho fs W HFi HAf HJ A HA HZ K' HK
      have z1 : A.tmps[1]? = some _ := HZ.out 1 (by decide)
      have f3 : fs 3 = true := by cases ho; exact HAf.out ⟨3, .guard⟩ (by simp) rfl
      have s3 := HA.out 3 85 (by decide) f3 rfl
      simp only [List.getD_cons_succ, List.getD_cons_zero] at s3
      clear HAf HA HZ f3
      cases ho
      go_simp
      exact HK.out _ HJ.out
    · intro o ho fs W HFi HAf HJ A HA HZ K' HK
      have f7 : fs 7 = true := by cases ho; exact HAf.out ⟨7, .data⟩ (by simp) rfl
      have s7 := HA.out 7 89 (by decide) f7 rfl
      simp only [List.getD_cons_succ, List.getD_cons_zero] at s7
      have f3 : fs 3 = true := by cases ho; exact HAf.out ⟨3, .guard⟩ (by simp) rfl
      have s3 := HA.out 3 85 (by decide) f3 rfl
      simp only [List.getD_cons_succ, List.getD_cons_zero] at s3
      clear HAf HA HZ f7 f3
      obtain ⟨c0, c1, c2, c3, -⟩ := four_cells HJ.out.1
      cases ho
      go_simp
      exact HK.out _ HJ.out
    · intro o ho fs W HFi HAf HJ A HA HZ K' HK
      have f8 : fs 8 = true := by cases ho; exact HAf.out ⟨8, .data⟩ (by simp) rfl
      have s8 := HA.out 8 90 (by decide) f8 rfl
      simp only [List.getD_cons_succ, List.getD_cons_zero] at s8
      have f3 : fs 3 = true := by cases ho; exact HAf.out ⟨3, .guard⟩ (by simp) rfl
      have s3 := HA.out 3 85 (by decide) f3 rfl
      simp only [List.getD_cons_succ, List.getD_cons_zero] at s3
      clear HAf HA HZ f8 f3
      cases ho
      go_simp
      exact HK.out _ HJ.out
    · intro o ho fs W HFi HAf HJ A HA HZ K' HK
      have f6 : fs 6 = true := by cases ho; exact HAf.out ⟨6, .data⟩ (by simp) rfl
      have s6 := HA.out 6 88 (by decide) f6 rfl
      simp only [List.getD_cons_succ, List.getD_cons_zero] at s6
      have f9 : fs 9 = true := by cases ho; exact HAf.out ⟨9, .data⟩ (by simp) rfl
      have s9 := HA.out 9 91 (by decide) f9 rfl
      simp only [List.getD_cons_succ, List.getD_cons_zero] at s9
      have f3 : fs 3 = true := by cases ho; exact HAf.out ⟨3, .guard⟩ (by simp) rfl
      have s3 := HA.out 3 85 (by decide) f3 rfl
      simp only [List.getD_cons_succ, List.getD_cons_zero] at s3
      clear HAf HA HZ f6 f9 f3
      cases ho
      go_simp
      exact HK.out _ HJ.out
    · intro o ho fs W HFi HAf HJ A HA HZ K' HK
      have f3 : fs 3 = true := by cases ho; exact HAf.out ⟨3, .data⟩ (by simp) rfl
      have s3 := HA.out 3 85 (by decide) f3 rfl
      simp only [List.getD_cons_succ, List.getD_cons_zero] at s3
      have f10 : fs 10 = true := by cases ho; exact HAf.out ⟨10, .data⟩ (by simp) rfl
      have s10 := HA.out 10 92 (by decide) f10 rfl
      simp only [List.getD_cons_succ, List.getD_cons_zero] at s10
      clear HAf HA HZ f3 f10
      cases ho
      go_simp
      exact HK.out _ HJ.out
  · intro W hJ
    simp only [canon, Act.put, List.getD_cons_succ, List.getD_cons_zero, List.drop_succ_cons, List.drop_zero, List.setIfInBounds_toArray, List.set_cons_zero, List.set_cons_succ]
    have HW := Lib.hid hJ.2
    clear hJ
    go_wp2_with fail
    go_ret
    exact ⟨rfl, HW.out⟩
set_option maxRecDepth 100000 in
set_option maxHeartbeats 8000000 in
theorem Valid_6b (k : Int) (tx : List UInt8) (n : Nat) (pos : Int) (w : World) (hk : k = 6) (hn : n = 0) (hl : tx.length ≤ 1000000) (ht : tx ≠ []) (hs : signN tx = tx.length) :
    Calls Tryz.prog 18 #[.agg #[.int .i64 k, .string (ba tx), .int .u64 (n : Int), .int .i64 pos]] w fun e w' => e = .returned (.bool true) ∧ Below w.heap.size w w' := by
  subst hn
  have x3 : (k == 3) = false := by simp; omega
  have x1 : (k == 1) = false := by simp; omega
  have x2 : (k == 2) = false := by simp; omega
  have x4 : (k == 4) = false := by simp; omega
  have x5 : (k == 5) = false := by simp; omega
  have x6 : (k == 6) = true := by simp; omega
  clear hk
  have xe : (ba tx).toList.isEmpty = false := by rw [ba_toList]; cases tx with | nil => exact absurd rfl ht | cons c r => rfl
  have s1 : ((ba tx).size : Int) = (tx.length : Int) := by rw [ba_size]
  have xs : ((signN tx : Int) == (tx.length : Int)) = true := by simp; omega
  clear ht hs
  have HSg := Lib.hid fun W => sign_any tx W (by omega)
  generalize signN tx = sg at xs HSg
  go_enter Tryz.func18, Tryz.ntmps18
  go_upto_region 16 with (fail)
  have HB0 := Lib.hid (show (fun W : World => W.heap[w.heap.size]? = some (.cells #[.int .i64 k, .string (ba tx), .int .u64 ((0 : Nat) : Int), .int .i64 pos] 36 (0, 0)) ∧ Below w.heap.size w W) (w.alloc (.cells #[.int .i64 k, .string (ba tx), .int .u64 ((0 : Nat) : Int), .int .i64 pos] 36 (0, 0))).drew from ⟨heap_alloc_new w _, (below_alloc w _).drew⟩)
  refine' wp_region_fix (by kernel_rfl) 12 [some 82, some 83, some 84, some 85, some 86, some 87, some 88, some 89, some 90, some 91, some 92, some 93] [_, _, _, _, _, _, _, _, _, _, _, _] [] (fun _ W => W.heap[w.heap.size]? = some (.cells #[.int .i64 k, .string (ba tx), .int .u64 ((0 : Nat) : Int), .int .i64 pos] 36 (0, 0)) ∧ Below w.heap.size w W) (by kernel_rfl) (by decide) (by kernel_rfl) (by decide) (by rfl) (by decide) (HB0.out) ?_ ?_
  rotate_left 12
  · refine all_cons 0 ?_ (all_cons 1 ?_ (all_cons 2 ?_ (all_cons 3 ?_ (all_cons 4 ?_ (all_cons 5 ?_ (all_cons 6 ?_ (all_cons 7 ?_ (all_cons 8 ?_ (all_cons 9 ?_ (all_cons 10 ?_ (all_cons 11 ?_ (all_done 12))))))))))))
    · intro o ho fs W HFi HAf HJ A HA HZ K' HK
      have z1 : A.tmps[1]? = some _ := HZ.out 1 (by decide)
      clear HAf HA HZ
      cases ho
      go_simp
      exact HK.out _ HJ.out
    · intro o ho fs W HFi HAf HJ A HA HZ K' HK
      have f0 : fs 0 = true := by cases ho; exact HAf.out ⟨0, .data⟩ (by simp) rfl
      have s0 := HA.out 0 82 (by decide) f0 rfl
      simp only [List.getD_cons_zero] at s0
      clear HAf HA HZ f0
      obtain ⟨c0, c1, c2, c3, -⟩ := four_cells HJ.out.1
      cases ho
      go_simp
      exact HK.out _ HJ.out
    · intro o ho fs W HFi HAf HJ A HA HZ K' HK
      have f1 : fs 1 = true := by cases ho; exact HAf.out ⟨1, .data⟩ (by simp) rfl
      have s1 := HA.out 1 83 (by decide) f1 rfl
      simp only [List.getD_cons_succ, List.getD_cons_zero] at s1
      clear HAf HA HZ f1
      cases ho
      go_simp
      exact HK.out _ HJ.out
    · intro o ho fs W HFi HAf HJ A HA HZ K' HK
      have f2 : fs 2 = true := by cases ho; exact HAf.out ⟨2, .data⟩ (by simp) rfl
      have s2 := HA.out 2 84 (by decide) f2 rfl
      simp only [List.getD_cons_succ, List.getD_cons_zero] at s2
      clear HAf HA HZ f2
      cases ho
      go_simp
      exact HK.out _ HJ.out
    · intro o ho fs W HFi HAf HJ A HA HZ K' HK
      have z1 : A.tmps[1]? = some _ := HZ.out 1 (by decide)
      have f3 : fs 3 = true := by cases ho; exact HAf.out ⟨3, .guard⟩ (by simp) rfl
      have s3 := HA.out 3 85 (by decide) f3 rfl
      simp only [List.getD_cons_succ, List.getD_cons_zero] at s3
      clear HAf HA HZ f3
      cases ho
      go_simp
      exact HK.out _ HJ.out
    · intro o ho fs W HFi HAf HJ A HA HZ K' HK
      have f4 : fs 4 = true := by cases ho; exact HAf.out ⟨4, .data⟩ (by simp) rfl
      have s4 := HA.out 4 86 (by decide) f4 rfl
      simp only [List.getD_cons_succ, List.getD_cons_zero] at s4
      have f3 : fs 3 = true := by cases ho; exact HAf.out ⟨3, .guard⟩ (by simp) rfl
      have s3 := HA.out 3 85 (by decide) f3 rfl
      simp only [List.getD_cons_succ, List.getD_cons_zero] at s3
      clear HAf HA HZ f4 f3
      obtain ⟨c0, c1, c2, c3, -⟩ := four_cells HJ.out.1
      cases ho
      go_simp
      exact HK.out _ HJ.out
    · intro o ho fs W HFi HAf HJ A HA HZ K' HK
      have f5 : fs 5 = true := by cases ho; exact HAf.out ⟨5, .data⟩ (by simp) rfl
      have s5 := HA.out 5 87 (by decide) f5 rfl
      simp only [List.getD_cons_succ, List.getD_cons_zero] at s5
      have f3 : fs 3 = true := by cases ho; exact HAf.out ⟨3, .chain⟩ (by simp) rfl
      have s3 := HA.out 3 85 (by decide) f3 rfl
      simp only [List.getD_cons_succ, List.getD_cons_zero] at s3
      clear HAf HA HZ f5 f3
      cases ho
      go_simp
      refine (HSg.out W).mono ?_
      rintro e w' ⟨rfl, rfl⟩
      exact HK.out _ HJ.out
    · intro o ho fs W HFi HAf HJ A HA HZ K' HK
      have z1 : A.tmps[1]? = some _ := HZ.out 1 (by decide)
      have f3 : fs 3 = true := by cases ho; exact HAf.out ⟨3, .guard⟩ (by simp) rfl
      have s3 := HA.out 3 85 (by decide) f3 rfl
      simp only [List.getD_cons_succ, List.getD_cons_zero] at s3
      clear HAf HA HZ f3
      cases ho
      go_simp
      exact HK.out _ HJ.out
    · intro o ho fs W HFi HAf HJ A HA HZ K' HK
      have f7 : fs 7 = true := by cases ho; exact HAf.out ⟨7, .data⟩ (by simp) rfl
      have s7 := HA.out 7 89 (by decide) f7 rfl
      simp only [List.getD_cons_succ, List.getD_cons_zero] at s7
      have f3 : fs 3 = true := by cases ho; exact HAf.out ⟨3, .guard⟩ (by simp) rfl
      have s3 := HA.out 3 85 (by decide) f3 rfl
      simp only [List.getD_cons_succ, List.getD_cons_zero] at s3
      clear HAf HA HZ f7 f3
      obtain ⟨c0, c1, c2, c3, -⟩ := four_cells HJ.out.1
      cases ho
      go_simp
      exact HK.out _ HJ.out
    · intro o ho fs W HFi HAf HJ A HA HZ K' HK
      have f8 : fs 8 = true := by cases ho; exact HAf.out ⟨8, .data⟩ (by simp) rfl
      have s8 := HA.out 8 90 (by decide) f8 rfl
      simp only [List.getD_cons_succ, List.getD_cons_zero] at s8
      have f3 : fs 3 = true := by cases ho; exact HAf.out ⟨3, .guard⟩ (by simp) rfl
      have s3 := HA.out 3 85 (by decide) f3 rfl
      simp only [List.getD_cons_succ, List.getD_cons_zero] at s3
      clear HAf HA HZ f8 f3
      cases ho
      go_simp
      exact HK.out _ HJ.out
    · intro o ho fs W HFi HAf HJ A HA HZ K' HK
      have f6 : fs 6 = true := by cases ho; exact HAf.out ⟨6, .data⟩ (by simp) rfl
      have s6 := HA.out 6 88 (by decide) f6 rfl
      simp only [List.getD_cons_succ, List.getD_cons_zero] at s6
      have f9 : fs 9 = true := by cases ho; exact HAf.out ⟨9, .data⟩ (by simp) rfl
      have s9 := HA.out 9 91 (by decide) f9 rfl
      simp only [List.getD_cons_succ, List.getD_cons_zero] at s9
      have f3 : fs 3 = true := by cases ho; exact HAf.out ⟨3, .guard⟩ (by simp) rfl
      have s3 := HA.out 3 85 (by decide) f3 rfl
      simp only [List.getD_cons_succ, List.getD_cons_zero] at s3
      clear HAf HA HZ f6 f9 f3
      cases ho
      go_simp
      exact HK.out _ HJ.out
    · intro o ho fs W HFi HAf HJ A HA HZ K' HK
      have f3 : fs 3 = true := by cases ho; exact HAf.out ⟨3, .data⟩ (by simp) rfl
      have s3 := HA.out 3 85 (by decide) f3 rfl
      simp only [List.getD_cons_succ, List.getD_cons_zero] at s3
      have f10 : fs 10 = true := by cases ho; exact HAf.out ⟨10, .data⟩ (by simp) rfl
      have s10 := HA.out 10 92 (by decide) f10 rfl
      simp only [List.getD_cons_succ, List.getD_cons_zero] at s10
      clear HAf HA HZ f3 f10
      cases ho
      go_simp
      exact HK.out _ HJ.out
  · intro W hJ
    simp only [canon, Act.put, List.getD_cons_succ, List.getD_cons_zero, List.drop_succ_cons, List.drop_zero, List.setIfInBounds_toArray, List.set_cons_zero, List.set_cons_succ]
    have HW := Lib.hid hJ.2
    clear hJ
    go_wp2_with fail
    go_ret
    exact ⟨rfl, HW.out⟩
set_option maxRecDepth 100000 in
set_option maxHeartbeats 8000000 in
theorem Valid_6c (k : Int) (tx : List UInt8) (n : Nat) (pos : Int) (w : World) (hk : k = 6) (hn : n = 0) (hl : tx.length ≤ 1000000) (ht : tx ≠ []) (hs : ¬ signN tx = tx.length) :
    Calls Tryz.prog 18 #[.agg #[.int .i64 k, .string (ba tx), .int .u64 (n : Int), .int .i64 pos]] w fun e w' => e = .returned (.bool false) ∧ Below w.heap.size w w' := by
  subst hn
  have x3 : (k == 3) = false := by simp; omega
  have x1 : (k == 1) = false := by simp; omega
  have x2 : (k == 2) = false := by simp; omega
  have x4 : (k == 4) = false := by simp; omega
  have x5 : (k == 5) = false := by simp; omega
  have x6 : (k == 6) = true := by simp; omega
  clear hk
  have xe : (ba tx).toList.isEmpty = false := by rw [ba_toList]; cases tx with | nil => exact absurd rfl ht | cons c r => rfl
  have s1 : ((ba tx).size : Int) = (tx.length : Int) := by rw [ba_size]
  have xs : ((signN tx : Int) == (tx.length : Int)) = false := by simp; omega
  clear ht hs
  have HSg := Lib.hid fun W => sign_any tx W (by omega)
  generalize signN tx = sg at xs HSg
  go_enter Tryz.func18, Tryz.ntmps18
  go_upto_region 16 with (fail)
  have HB0 := Lib.hid (show (fun W : World => W.heap[w.heap.size]? = some (.cells #[.int .i64 k, .string (ba tx), .int .u64 ((0 : Nat) : Int), .int .i64 pos] 36 (0, 0)) ∧ Below w.heap.size w W) (w.alloc (.cells #[.int .i64 k, .string (ba tx), .int .u64 ((0 : Nat) : Int), .int .i64 pos] 36 (0, 0))).drew from ⟨heap_alloc_new w _, (below_alloc w _).drew⟩)
  refine' wp_region_fix (by kernel_rfl) 12 [some 82, some 83, some 84, some 85, some 86, some 87, some 88, some 89, some 90, some 91, some 92, some 93] [_, _, _, _, _, _, _, _, _, _, _, _] [] (fun _ W => W.heap[w.heap.size]? = some (.cells #[.int .i64 k, .string (ba tx), .int .u64 ((0 : Nat) : Int), .int .i64 pos] 36 (0, 0)) ∧ Below w.heap.size w W) (by kernel_rfl) (by decide) (by kernel_rfl) (by decide) (by rfl) (by decide) (HB0.out) ?_ ?_
  rotate_left 12
  · refine all_cons 0 ?_ (all_cons 1 ?_ (all_cons 2 ?_ (all_cons 3 ?_ (all_cons 4 ?_ (all_cons 5 ?_ (all_cons 6 ?_ (all_cons 7 ?_ (all_cons 8 ?_ (all_cons 9 ?_ (all_cons 10 ?_ (all_cons 11 ?_ (all_done 12))))))))))))
    · intro o ho fs W HFi HAf HJ A HA HZ K' HK
      have z1 : A.tmps[1]? = some _ := HZ.out 1 (by decide)
      clear HAf HA HZ
      cases ho
      go_simp
      exact HK.out _ HJ.out
    · intro o ho fs W HFi HAf HJ A HA HZ K' HK
      have f0 : fs 0 = true := by cases ho; exact HAf.out ⟨0, .data⟩ (by simp) rfl
      have s0 := HA.out 0 82 (by decide) f0 rfl
      simp only [List.getD_cons_zero] at s0
      clear HAf HA HZ f0
      obtain ⟨c0, c1, c2, c3, -⟩ := four_cells HJ.out.1
      cases ho
      go_simp
      exact HK.out _ HJ.out
    · intro o ho fs W HFi HAf HJ A HA HZ K' HK
      have f1 : fs 1 = true := by cases ho; exact HAf.out ⟨1, .data⟩ (by simp) rfl
      have s1 := HA.out 1 83 (by decide) f1 rfl
      simp only [List.getD_cons_succ, List.getD_cons_zero] at s1
      clear HAf HA HZ f1
      cases ho
      go_simp
      exact HK.out _ HJ.out
    · intro o ho fs W HFi HAf HJ A HA HZ K' HK
      have f2 : fs 2 = true := by cases ho; exact HAf.out ⟨2, .data⟩ (by simp) rfl
      have s2 := HA.out 2 84 (by decide) f2 rfl
      simp only [List.getD_cons_succ, List.getD_cons_zero] at s2
      clear HAf HA HZ f2
      cases ho
      go_simp
      exact HK.out _ HJ.out
    · intro o ho fs W HFi HAf HJ A HA HZ K' HK
      have z1 : A.tmps[1]? = some _ := HZ.out 1 (by decide)
      have f3 : fs 3 = true := by cases ho; exact HAf.out ⟨3, .guard⟩ (by simp) rfl
      have s3 := HA.out 3 85 (by decide) f3 rfl
      simp only [List.getD_cons_succ, List.getD_cons_zero] at s3
      clear HAf HA HZ f3
      cases ho
      go_simp
      exact HK.out _ HJ.out
    · intro o ho fs W HFi HAf HJ A HA HZ K' HK
      have f4 : fs 4 = true := by cases ho; exact HAf.out ⟨4, .data⟩ (by simp) rfl
      have s4 := HA.out 4 86 (by decide) f4 rfl
      simp only [List.getD_cons_succ, List.getD_cons_zero] at s4
      have f3 : fs 3 = true := by cases ho; exact HAf.out ⟨3, .guard⟩ (by simp) rfl
      have s3 := HA.out 3 85 (by decide) f3 rfl
      simp only [List.getD_cons_succ, List.getD_cons_zero] at s3
      clear HAf HA HZ f4 f3
      obtain ⟨c0, c1, c2, c3, -⟩ := four_cells HJ.out.1
      cases ho
      go_simp
      exact HK.out _ HJ.out
    · intro o ho fs W HFi HAf HJ A HA HZ K' HK
      have f5 : fs 5 = true := by cases ho; exact HAf.out ⟨5, .data⟩ (by simp) rfl
      have s5 := HA.out 5 87 (by decide) f5 rfl
      simp only [List.getD_cons_succ, List.getD_cons_zero] at s5
      have f3 : fs 3 = true := by cases ho; exact HAf.out ⟨3, .chain⟩ (by simp) rfl
      have s3 := HA.out 3 85 (by decide) f3 rfl
      simp only [List.getD_cons_succ, List.getD_cons_zero] at s3
      clear HAf HA HZ f5 f3
      cases ho
      go_simp
      refine (HSg.out W).mono ?_
      rintro e w' ⟨rfl, rfl⟩
      exact HK.out _ HJ.out
    · intro o ho fs W HFi HAf HJ A HA HZ K' HK
      have z1 : A.tmps[1]? = some _ := HZ.out 1 (by decide)
      have f3 : fs 3 = true := by cases ho; exact HAf.out ⟨3, .guard⟩ (by simp) rfl
      have s3 := HA.out 3 85 (by decide) f3 rfl
      simp only [List.getD_cons_succ, List.getD_cons_zero] at s3
      clear HAf HA HZ f3
      cases ho
      go_simp
      exact HK.out _ HJ.out
    · intro o ho fs W HFi HAf HJ A HA HZ K' HK
      have f7 : fs 7 = true := by cases ho; exact HAf.out ⟨7, .data⟩ (by simp) rfl
      have s7 := HA.out 7 89 (by decide) f7 rfl
      simp only [List.getD_cons_succ, List.getD_cons_zero] at s7
      have f3 : fs 3 = true := by cases ho; exact HAf.out ⟨3, .guard⟩ (by simp) rfl
      have s3 := HA.out 3 85 (by decide) f3 rfl
      simp only [List.getD_cons_succ, List.getD_cons_zero] at s3
      clear HAf HA HZ f7 f3
      obtain ⟨c0, c1, c2, c3, -⟩ := four_cells HJ.out.1
      cases ho
      go_simp
      exact HK.out _ HJ.out
    · intro o ho fs W HFi HAf HJ A HA HZ K' HK
      have f8 : fs 8 = true := by cases ho; exact HAf.out ⟨8, .data⟩ (by simp) rfl
      have s8 := HA.out 8 90 (by decide) f8 rfl
      simp only [List.getD_cons_succ, List.getD_cons_zero] at s8
      have f3 : fs 3 = true := by cases ho; exact HAf.out ⟨3, .guard⟩ (by simp) rfl
      have s3 := HA.out 3 85 (by decide) f3 rfl
      simp only [List.getD_cons_succ, List.getD_cons_zero] at s3
      clear HAf HA HZ f8 f3
      cases ho
      go_simp
      exact HK.out _ HJ.out
    · intro o ho fs W HFi HAf HJ A HA HZ K' HK
      have f6 : fs 6 = true := by cases ho; exact HAf.out ⟨6, .data⟩ (by simp) rfl
      have s6 := HA.out 6 88 (by decide) f6 rfl
      simp only [List.getD_cons_succ, List.getD_cons_zero] at s6
      have f9 : fs 9 = true := by cases ho; exact HAf.out ⟨9, .data⟩ (by simp) rfl
      have s9 := HA.out 9 91 (by decide) f9 rfl
      simp only [List.getD_cons_succ, List.getD_cons_zero] at s9
      have f3 : fs 3 = true := by cases ho; exact HAf.out ⟨3, .guard⟩ (by simp) rfl
      have s3 := HA.out 3 85 (by decide) f3 rfl
      simp only [List.getD_cons_succ, List.getD_cons_zero] at s3
      clear HAf HA HZ f6 f9 f3
      cases ho
      go_simp
      exact HK.out _ HJ.out
    · intro o ho fs W HFi HAf HJ A HA HZ K' HK
      have f3 : fs 3 = true := by cases ho; exact HAf.out ⟨3, .data⟩ (by simp) rfl
      have s3 := HA.out 3 85 (by decide) f3 rfl
      simp only [List.getD_cons_succ, List.getD_cons_zero] at s3
      have f10 : fs 10 = true := by cases ho; exact HAf.out ⟨10, .data⟩ (by simp) rfl
      have s10 := HA.out 10 92 (by decide) f10 rfl
      simp only [List.getD_cons_succ, List.getD_cons_zero] at s10
      clear HAf HA HZ f3 f10
      cases ho
      go_simp
      exact HK.out _ HJ.out
  · intro W hJ
    simp only [canon, Act.put, List.getD_cons_succ, List.getD_cons_zero, List.drop_succ_cons, List.drop_zero, List.setIfInBounds_toArray, List.set_cons_zero, List.set_cons_succ]
    have HW := Lib.hid hJ.2
    clear hJ
    go_wp2_with fail
    go_ret
    exact ⟨rfl, HW.out⟩
end Go.Proofs.YtmcnhggpmlhgeaaGreatDoor
