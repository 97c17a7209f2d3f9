/-
  Walks: joins of lex.
-/
import Derived.Test.YtmcnhggpmlhgeaaGreatDoorRpH
namespace Go.Proofs.YtmcnhggpmlhgeaaGreatDoor
open Go.RowKit
theorem dec_long (n : Nat) (h : n ≤ 9223372036854775808) : (Lib.decDigits n).length ≤ 20 := by
  by_cases h0 : n = 0
  · subst h0; rw [Lib.decDigits, dif_pos (by omega)]; simp
  · rw [Lib.decDigits_length]
    have := Lib.numDigits_eq n (by omega) (by omega)
    split at this <;> omega
theorem text_long (t : Tok) (hl : t.tx.length ≤ 1000000) (hv : validTk t = true) : (textTk t).length ≤ 2000002 := by
  unfold textTk
  split
  · have hn : t.n ≤ 9223372036854775808 := by
      rcases valid_cases hv with ⟨-, -, h⟩ | ⟨h, -⟩ <;> omega
    have := dec_long t.n hn
    omega
  · split
    · rw [List.length_cons, List.length_append, escT_len, List.length_singleton]
      have := List.countP_le_length (p := escB) (l := t.tx)
      unfold escN; omega
    · omega
theorem ba_app2 (x y : List UInt8) : ba x ++ ba y = ba (x ++ y) := by apply ByteArray.ext; simp [ba]
theorem last_at {X : List UInt8} {c : UInt8} (h : X.getLast? = some c) (h1 : X.length - 1 < (ba X).size) : (ba X)[X.length - 1]'h1 = c := by
  have : X ≠ [] := by rintro rfl; simp at h
  rw [List.getLast?_eq_some_getLast this] at h
  injection h with h
  rw [← h, List.getLast_eq_getElem]
  rfl
theorem head_at2 {X : List UInt8} {d : UInt8} {s : List UInt8} (h : X = d :: s) (h1 : 0 < (ba X).size) : (ba X)[0]'h1 = d := by subst h; rfl
theorem ne_dec (n m : Nat) : ((n : Int) != (m : Int)) = decide (n ≠ m) := by
  rw [Bool.eq_iff_iff]; simp; omega
set_option maxRecDepth 100000 in
set_option maxHeartbeats 8000000 in
theorem joins_nam (a b : Tok) (X Y : List UInt8) (c d : UInt8) (w : World) (hX : ∀ W, Tb W → Calls Tryz.prog 33 #[.agg #[.int .i64 a.k, .string (ba a.tx), .int .u64 (a.n : Int), .int .i64 a.pos]] W fun e w' => e = .returned (.string (ba X)) ∧ Below W.heap.size W w') (hY : ∀ W, Tb W → Calls Tryz.prog 33 #[.agg #[.int .i64 b.k, .string (ba b.tx), .int .u64 (b.n : Int), .int .i64 b.pos]] W fun e w' => e = .returned (.string (ba Y)) ∧ Below W.heap.size W w') (hT : Tb w) (hlX : X.length ≤ 2000002) (hlY : Y.length ≤ 2000002) (hX0 : X ≠ []) (hY0 : Y ≠ []) (hc : X.getLast? = some c) (hd : Y.head? = some d) (hn : namC c = true) :
    Calls Tryz.prog 30 #[.agg #[.int .i64 a.k, .string (ba a.tx), .int .u64 (a.n : Int), .int .i64 a.pos], .agg #[.int .i64 b.k, .string (ba b.tx), .int .u64 (b.n : Int), .int .i64 b.pos]] w fun e w' => e = .returned (.bool (namC d)) ∧ Below w.heap.size w w' := by
  have sX : ((ba X).size : Int) = (X.length : Int) := by rw [ba_size]
  have sX2 : (ba X).size = X.length := ba_size X
  have sY : ((ba Y).size : Int) = (Y.length : Int) := by rw [ba_size]
  have sY2 : (ba Y).size = Y.length := ba_size Y
  have eX : (ba X).toList.isEmpty = false := by rw [ba_toList]; cases X with | nil => exact absurd rfl hX0 | cons c r => rfl
  have eY : (ba Y).toList.isEmpty = false := by rw [ba_toList]; cases Y with | nil => exact absurd rfl hY0 | cons c r => rfl
  have lX : 1 ≤ X.length := by cases X with | nil => exact absurd rfl hX0 | cons c r => simp
  have lY : 1 ≤ Y.length := by cases Y with | nil => exact absurd rfl hY0 | cons c r => simp
  have hiX : X.length - 1 < (ba X).size := by omega
  have hiY : 0 < (ba Y).size := by omega
  have hcX := last_at hc hiX
  have hdY : (ba Y)[0]'hiY = d := by cases Y with | nil => exact absurd rfl hY0 | cons c r => (injection hd)
  have HCX := Lib.hid hcX
  have HDY := Lib.hid hdY
  have HX := Lib.hid hX
  have HY := Lib.hid hY
  have HT := Lib.hid hT
  clear hX hY hT hcX hdY hX0 hY0 hc hd
  have hw1 : IntKind.i64.wrap ((X.length : Int) - 1) = ((X.length - 1 : Nat) : Int) := by rw [IntKind.wrap_i64]; omega
  have hx1 : ((X.length : Int) - 1) = ((X.length - 1 : Nat) : Int) := by omega
  have HNc := Lib.hid fun W => (named_p c W).mono fun e w' h => (show e = .returned (.bool true) ∧ w' = W by rw [show namC c = true from hn] at h; exact h)
  have HNd := Lib.hid fun W => named_p d W
  clear hn
  go_enter Tryz.func30, Tryz.ntmps30
  go_upto_region 1 with (fail)
  have hA0 := heap_after (heap_alloc_new w (.cells #[.int .i64 a.k, .string (ba a.tx), .int .u64 (a.n : Int), .int .i64 a.pos] 36 (0, 0))) (.cells #[.int .i64 b.k, .string (ba b.tx), .int .u64 (b.n : Int), .int .i64 b.pos] 36 (0, 0))
  have hB0 := heap_alloc_new (w.alloc (.cells #[.int .i64 a.k, .string (ba a.tx), .int .u64 (a.n : Int), .int .i64 a.pos] 36 (0, 0))) (.cells #[.int .i64 b.k, .string (ba b.tx), .int .u64 (b.n : Int), .int .i64 b.pos] 36 (0, 0))
  rw [World.size_alloc] at hB0
  have HW0 := Lib.hid (balloc (below_alloc w (.cells #[.int .i64 a.k, .string (ba a.tx), .int .u64 (a.n : Int), .int .i64 a.pos] 36 (0, 0))) (.cells #[.int .i64 b.k, .string (ba b.tx), .int .u64 (b.n : Int), .int .i64 b.pos] 36 (0, 0)))
  have HA0 := Lib.hid hA0
  have HB0 := Lib.hid hB0
  have HT1 := Lib.hid (HT.out.below (balloc (below_alloc w (.cells #[.int .i64 a.k, .string (ba a.tx), .int .u64 (a.n : Int), .int .i64 a.pos] 36 (0, 0))) (.cells #[.int .i64 b.k, .string (ba b.tx), .int .u64 (b.n : Int), .int .i64 b.pos] 36 (0, 0))))
  clear hA0 hB0
  generalize (w.alloc (.cells #[.int .i64 a.k, .string (ba a.tx), .int .u64 (a.n : Int), .int .i64 a.pos] 36 (0, 0))).alloc (.cells #[.int .i64 b.k, .string (ba b.tx), .int .u64 (b.n : Int), .int .i64 b.pos] 36 (0, 0)) = w1 at HA0 HB0 HW0 HT1 ⊢
  refine' wp_region_fix (by kernel_rfl) 4 [some 7, some 8, some 9, some 10] [_, _, _, _] [] (fun (_ : List Bool) (W : World) => Below w1.heap.size w1 W) (by kernel_rfl) (by decide) (by kernel_rfl) (by decide) (by rfl) (by decide) ((Below.refl _ _).drew) ?_ ?_
  rotate_left 4
  · refine all_cons 0 ?_ (all_cons 1 ?_ (all_cons 2 ?_ (all_cons 3 ?_ (all_done 4))))
    · intro o ho fs W HFi HAf HJ A HA HZ K' HK
      have z2 : A.tmps[2]? = some _ := HZ.out 2 (by decide)
      clear HAf HA HZ
      obtain ⟨c0, c1, c2, c3, -⟩ := four_cells ((HJ.out.block w.heap.size (lt_of_block HA0.out)).trans HA0.out)
      obtain ⟨d0, d1, d2, d3, -⟩ := four_cells ((HJ.out.block (w.heap.size + 1) (lt_of_block HB0.out)).trans HB0.out)
      cases ho
      go_simp
      exact HK.out _ HJ.out
    · intro o ho fs W HFi HAf HJ A HA HZ K' HK
      have f0 : fs 0 = true := by cases ho; exact HAf.out ⟨0, .data⟩ (by simp) rfl
      have s0 := HA.out 0 7 (by decide) f0 rfl
      simp only [List.getD_cons_zero] at s0
      clear HAf HA HZ
      cases ho
      go_simp
      refine (HX.out W (HT1.out.below HJ.out)).mono ?_
      rintro e w2 ⟨rfl, hb2⟩
      exact HK.out _ (bstep HJ.out hb2)
    · intro o ho fs W HFi HAf HJ A HA HZ K' HK
      have z3 : A.tmps[3]? = some _ := HZ.out 3 (by decide)
      clear HAf HA HZ
      obtain ⟨c0, c1, c2, c3, -⟩ := four_cells ((HJ.out.block w.heap.size (lt_of_block HA0.out)).trans HA0.out)
      obtain ⟨d0, d1, d2, d3, -⟩ := four_cells ((HJ.out.block (w.heap.size + 1) (lt_of_block HB0.out)).trans HB0.out)
      cases ho
      go_simp
      exact HK.out _ HJ.out
    · intro o ho fs W HFi HAf HJ A HA HZ K' HK
      have f2 : fs 2 = true := by cases ho; exact HAf.out ⟨2, .data⟩ (by simp) rfl
      have s2 := HA.out 2 9 (by decide) f2 rfl
      simp only [List.getD_cons_succ, List.getD_cons_zero] at s2
      clear HAf HA HZ
      cases ho
      go_simp
      refine (HY.out W (HT1.out.below HJ.out)).mono ?_
      rintro e w2 ⟨rfl, hb2⟩
      exact HK.out _ (bstep HJ.out hb2)
  · intro W hJ
    simp only [canon, Act.put, List.getD_cons_succ, List.getD_cons_zero, List.drop_succ_cons, List.drop_zero, List.setIfInBounds_toArray, List.set_cons_zero, List.set_cons_succ]
    have HW := Lib.hid hJ
    have HWW := Lib.hid (HW0.out.trans (HW.out.mono HW0.out.size))
    clear hJ
    obtain ⟨c0, c1, c2, c3, -⟩ := four_cells ((HW.out.block w.heap.size (lt_of_block HA0.out)).trans HA0.out)
    obtain ⟨d0, d1, d2, d3, -⟩ := four_cells ((HW.out.block (w.heap.size + 1) (lt_of_block HB0.out)).trans HB0.out)
    clear HW
    go_wp2_with fail
    rw [HCX.out]
    refine (HNc.out W).mono ?_
    rintro e w' ⟨rfl, rfl⟩
    go_wp2_with fail
    rw [HDY.out]
    refine (HNd.out w').mono ?_
    rintro e w' ⟨rfl, rfl⟩
    go_wp2_with fail
    go_ret
    exact ⟨rfl, HWW.out⟩
set_option maxRecDepth 100000 in
set_option maxHeartbeats 8000000 in
theorem joins_k1 (a b : Tok) (X Y : List UInt8) (c d : UInt8) (w : World) (hX : ∀ W, Tb W → Calls Tryz.prog 33 #[.agg #[.int .i64 a.k, .string (ba a.tx), .int .u64 (a.n : Int), .int .i64 a.pos]] W fun e w' => e = .returned (.string (ba X)) ∧ Below W.heap.size W w') (hY : ∀ W, Tb W → Calls Tryz.prog 33 #[.agg #[.int .i64 b.k, .string (ba b.tx), .int .u64 (b.n : Int), .int .i64 b.pos]] W fun e w' => e = .returned (.string (ba Y)) ∧ Below W.heap.size W w') (hT : Tb w) (hlX : X.length ≤ 2000002) (hlY : Y.length ≤ 2000002) (hX0 : X ≠ []) (hY0 : Y ≠ []) (hc : X.getLast? = some c) (hd : Y.head? = some d) (hn : namC c = false) (hk : a.k ≠ 6) :
    Calls Tryz.prog 30 #[.agg #[.int .i64 a.k, .string (ba a.tx), .int .u64 (a.n : Int), .int .i64 a.pos], .agg #[.int .i64 b.k, .string (ba b.tx), .int .u64 (b.n : Int), .int .i64 b.pos]] w fun e w' => e = .returned (.bool false) ∧ Below w.heap.size w w' := by
  have sX : ((ba X).size : Int) = (X.length : Int) := by rw [ba_size]
  have sX2 : (ba X).size = X.length := ba_size X
  have sY : ((ba Y).size : Int) = (Y.length : Int) := by rw [ba_size]
  have sY2 : (ba Y).size = Y.length := ba_size Y
  have eX : (ba X).toList.isEmpty = false := by rw [ba_toList]; cases X with | nil => exact absurd rfl hX0 | cons c r => rfl
  have eY : (ba Y).toList.isEmpty = false := by rw [ba_toList]; cases Y with | nil => exact absurd rfl hY0 | cons c r => rfl
  have lX : 1 ≤ X.length := by cases X with | nil => exact absurd rfl hX0 | cons c r => simp
  have lY : 1 ≤ Y.length := by cases Y with | nil => exact absurd rfl hY0 | cons c r => simp
  have hiX : X.length - 1 < (ba X).size := by omega
  have hiY : 0 < (ba Y).size := by omega
  have hcX := last_at hc hiX
  have hdY : (ba Y)[0]'hiY = d := by cases Y with | nil => exact absurd rfl hY0 | cons c r => (injection hd)
  have HCX := Lib.hid hcX
  have HDY := Lib.hid hdY
  have HX := Lib.hid hX
  have HY := Lib.hid hY
  have HT := Lib.hid hT
  clear hX hY hT hcX hdY hX0 hY0 hc hd
  have hw1 : IntKind.i64.wrap ((X.length : Int) - 1) = ((X.length - 1 : Nat) : Int) := by rw [IntKind.wrap_i64]; omega
  have hx1 : ((X.length : Int) - 1) = ((X.length - 1 : Nat) : Int) := by omega
  have HNc := Lib.hid fun W => (named_p c W).mono fun e w' h => (show e = .returned (.bool false) ∧ w' = W by rw [show namC c = false from hn] at h; exact h)
  clear hn
  have ka : (a.k == 6) = false := by simpa using hk
  go_enter Tryz.func30, Tryz.ntmps30
  go_upto_region 1 with (fail)
  have hA0 := heap_after (heap_alloc_new w (.cells #[.int .i64 a.k, .string (ba a.tx), .int .u64 (a.n : Int), .int .i64 a.pos] 36 (0, 0))) (.cells #[.int .i64 b.k, .string (ba b.tx), .int .u64 (b.n : Int), .int .i64 b.pos] 36 (0, 0))
  have hB0 := heap_alloc_new (w.alloc (.cells #[.int .i64 a.k, .string (ba a.tx), .int .u64 (a.n : Int), .int .i64 a.pos] 36 (0, 0))) (.cells #[.int .i64 b.k, .string (ba b.tx), .int .u64 (b.n : Int), .int .i64 b.pos] 36 (0, 0))
  rw [World.size_alloc] at hB0
  have HW0 := Lib.hid (balloc (below_alloc w (.cells #[.int .i64 a.k, .string (ba a.tx), .int .u64 (a.n : Int), .int .i64 a.pos] 36 (0, 0))) (.cells #[.int .i64 b.k, .string (ba b.tx), .int .u64 (b.n : Int), .int .i64 b.pos] 36 (0, 0)))
  have HA0 := Lib.hid hA0
  have HB0 := Lib.hid hB0
  have HT1 := Lib.hid (HT.out.below (balloc (below_alloc w (.cells #[.int .i64 a.k, .string (ba a.tx), .int .u64 (a.n : Int), .int .i64 a.pos] 36 (0, 0))) (.cells #[.int .i64 b.k, .string (ba b.tx), .int .u64 (b.n : Int), .int .i64 b.pos] 36 (0, 0))))
  clear hA0 hB0
  generalize (w.alloc (.cells #[.int .i64 a.k, .string (ba a.tx), .int .u64 (a.n : Int), .int .i64 a.pos] 36 (0, 0))).alloc (.cells #[.int .i64 b.k, .string (ba b.tx), .int .u64 (b.n : Int), .int .i64 b.pos] 36 (0, 0)) = w1 at HA0 HB0 HW0 HT1 ⊢
  refine' wp_region_fix (by kernel_rfl) 4 [some 7, some 8, some 9, some 10] [_, _, _, _] [] (fun (_ : List Bool) (W : World) => Below w1.heap.size w1 W) (by kernel_rfl) (by decide) (by kernel_rfl) (by decide) (by rfl) (by decide) ((Below.refl _ _).drew) ?_ ?_
  rotate_left 4
  · refine all_cons 0 ?_ (all_cons 1 ?_ (all_cons 2 ?_ (all_cons 3 ?_ (all_done 4))))
    · intro o ho fs W HFi HAf HJ A HA HZ K' HK
      have z2 : A.tmps[2]? = some _ := HZ.out 2 (by decide)
      clear HAf HA HZ
      obtain ⟨c0, c1, c2, c3, -⟩ := four_cells ((HJ.out.block w.heap.size (lt_of_block HA0.out)).trans HA0.out)
      obtain ⟨d0, d1, d2, d3, -⟩ := four_cells ((HJ.out.block (w.heap.size + 1) (lt_of_block HB0.out)).trans HB0.out)
      cases ho
      go_simp
      exact HK.out _ HJ.out
    · intro o ho fs W HFi HAf HJ A HA HZ K' HK
      have f0 : fs 0 = true := by cases ho; exact HAf.out ⟨0, .data⟩ (by simp) rfl
      have s0 := HA.out 0 7 (by decide) f0 rfl
      simp only [List.getD_cons_zero] at s0
      clear HAf HA HZ
      cases ho
      go_simp
      refine (HX.out W (HT1.out.below HJ.out)).mono ?_
      rintro e w2 ⟨rfl, hb2⟩
      exact HK.out _ (bstep HJ.out hb2)
    · intro o ho fs W HFi HAf HJ A HA HZ K' HK
      have z3 : A.tmps[3]? = some _ := HZ.out 3 (by decide)
      clear HAf HA HZ
      obtain ⟨c0, c1, c2, c3, -⟩ := four_cells ((HJ.out.block w.heap.size (lt_of_block HA0.out)).trans HA0.out)
      obtain ⟨d0, d1, d2, d3, -⟩ := four_cells ((HJ.out.block (w.heap.size + 1) (lt_of_block HB0.out)).trans HB0.out)
      cases ho
      go_simp
      exact HK.out _ HJ.out
    · intro o ho fs W HFi HAf HJ A HA HZ K' HK
      have f2 : fs 2 = true := by cases ho; exact HAf.out ⟨2, .data⟩ (by simp) rfl
      have s2 := HA.out 2 9 (by decide) f2 rfl
      simp only [List.getD_cons_succ, List.getD_cons_zero] at s2
      clear HAf HA HZ
      cases ho
      go_simp
      refine (HY.out W (HT1.out.below HJ.out)).mono ?_
      rintro e w2 ⟨rfl, hb2⟩
      exact HK.out _ (bstep HJ.out hb2)
  · intro W hJ
    simp only [canon, Act.put, List.getD_cons_succ, List.getD_cons_zero, List.drop_succ_cons, List.drop_zero, List.setIfInBounds_toArray, List.set_cons_zero, List.set_cons_succ]
    have HW := Lib.hid hJ
    have HWW := Lib.hid (HW0.out.trans (HW.out.mono HW0.out.size))
    clear hJ
    obtain ⟨c0, c1, c2, c3, -⟩ := four_cells ((HW.out.block w.heap.size (lt_of_block HA0.out)).trans HA0.out)
    obtain ⟨d0, d1, d2, d3, -⟩ := four_cells ((HW.out.block (w.heap.size + 1) (lt_of_block HB0.out)).trans HB0.out)
    clear HW
    go_wp2_with fail
    rw [HCX.out]
    refine (HNc.out W).mono ?_
    rintro e w' ⟨rfl, rfl⟩
    go_wp2_with fail
    go_ret
    exact ⟨rfl, HWW.out⟩
set_option maxRecDepth 100000 in
set_option maxHeartbeats 8000000 in
theorem joins_k2 (a b : Tok) (X Y : List UInt8) (c d : UInt8) (w : World) (hX : ∀ W, Tb W → Calls Tryz.prog 33 #[.agg #[.int .i64 a.k, .string (ba a.tx), .int .u64 (a.n : Int), .int .i64 a.pos]] W fun e w' => e = .returned (.string (ba X)) ∧ Below W.heap.size W w') (hY : ∀ W, Tb W → Calls Tryz.prog 33 #[.agg #[.int .i64 b.k, .string (ba b.tx), .int .u64 (b.n : Int), .int .i64 b.pos]] W fun e w' => e = .returned (.string (ba Y)) ∧ Below W.heap.size W w') (hT : Tb w) (hlX : X.length ≤ 2000002) (hlY : Y.length ≤ 2000002) (hX0 : X ≠ []) (hY0 : Y ≠ []) (hc : X.getLast? = some c) (hd : Y.head? = some d) (hn : namC c = false) (hk : a.k = 6) (hk2 : b.k ≠ 6) :
    Calls Tryz.prog 30 #[.agg #[.int .i64 a.k, .string (ba a.tx), .int .u64 (a.n : Int), .int .i64 a.pos], .agg #[.int .i64 b.k, .string (ba b.tx), .int .u64 (b.n : Int), .int .i64 b.pos]] w fun e w' => e = .returned (.bool false) ∧ Below w.heap.size w w' := by
  simp only [hk] at hX ⊢
  have sX : ((ba X).size : Int) = (X.length : Int) := by rw [ba_size]
  have sX2 : (ba X).size = X.length := ba_size X
  have sY : ((ba Y).size : Int) = (Y.length : Int) := by rw [ba_size]
  have sY2 : (ba Y).size = Y.length := ba_size Y
  have eX : (ba X).toList.isEmpty = false := by rw [ba_toList]; cases X with | nil => exact absurd rfl hX0 | cons c r => rfl
  have eY : (ba Y).toList.isEmpty = false := by rw [ba_toList]; cases Y with | nil => exact absurd rfl hY0 | cons c r => rfl
  have lX : 1 ≤ X.length := by cases X with | nil => exact absurd rfl hX0 | cons c r => simp
  have lY : 1 ≤ Y.length := by cases Y with | nil => exact absurd rfl hY0 | cons c r => simp
  have hiX : X.length - 1 < (ba X).size := by omega
  have hiY : 0 < (ba Y).size := by omega
  have hcX := last_at hc hiX
  have hdY : (ba Y)[0]'hiY = d := by cases Y with | nil => exact absurd rfl hY0 | cons c r => (injection hd)
  have HCX := Lib.hid hcX
  have HDY := Lib.hid hdY
  have HX := Lib.hid hX
  have HY := Lib.hid hY
  have HT := Lib.hid hT
  clear hX hY hT hcX hdY hX0 hY0 hc hd
  have hw1 : IntKind.i64.wrap ((X.length : Int) - 1) = ((X.length - 1 : Nat) : Int) := by rw [IntKind.wrap_i64]; omega
  have hx1 : ((X.length : Int) - 1) = ((X.length - 1 : Nat) : Int) := by omega
  have HNc := Lib.hid fun W => (named_p c W).mono fun e w' h => (show e = .returned (.bool false) ∧ w' = W by rw [show namC c = false from hn] at h; exact h)
  clear hn
  have kb : (b.k == 6) = false := by simpa using hk2
  go_enter Tryz.func30, Tryz.ntmps30
  go_upto_region 1 with (fail)
  have hA0 := heap_after (heap_alloc_new w (.cells #[.int .i64 6, .string (ba a.tx), .int .u64 (a.n : Int), .int .i64 a.pos] 36 (0, 0))) (.cells #[.int .i64 b.k, .string (ba b.tx), .int .u64 (b.n : Int), .int .i64 b.pos] 36 (0, 0))
  have hB0 := heap_alloc_new (w.alloc (.cells #[.int .i64 6, .string (ba a.tx), .int .u64 (a.n : Int), .int .i64 a.pos] 36 (0, 0))) (.cells #[.int .i64 b.k, .string (ba b.tx), .int .u64 (b.n : Int), .int .i64 b.pos] 36 (0, 0))
  rw [World.size_alloc] at hB0
  have HW0 := Lib.hid (balloc (below_alloc w (.cells #[.int .i64 6, .string (ba a.tx), .int .u64 (a.n : Int), .int .i64 a.pos] 36 (0, 0))) (.cells #[.int .i64 b.k, .string (ba b.tx), .int .u64 (b.n : Int), .int .i64 b.pos] 36 (0, 0)))
  have HA0 := Lib.hid hA0
  have HB0 := Lib.hid hB0
  have HT1 := Lib.hid (HT.out.below (balloc (below_alloc w (.cells #[.int .i64 6, .string (ba a.tx), .int .u64 (a.n : Int), .int .i64 a.pos] 36 (0, 0))) (.cells #[.int .i64 b.k, .string (ba b.tx), .int .u64 (b.n : Int), .int .i64 b.pos] 36 (0, 0))))
  clear hA0 hB0
  generalize (w.alloc (.cells #[.int .i64 6, .string (ba a.tx), .int .u64 (a.n : Int), .int .i64 a.pos] 36 (0, 0))).alloc (.cells #[.int .i64 b.k, .string (ba b.tx), .int .u64 (b.n : Int), .int .i64 b.pos] 36 (0, 0)) = w1 at HA0 HB0 HW0 HT1 ⊢
  refine' wp_region_fix (by kernel_rfl) 4 [some 7, some 8, some 9, some 10] [_, _, _, _] [] (fun (_ : List Bool) (W : World) => Below w1.heap.size w1 W) (by kernel_rfl) (by decide) (by kernel_rfl) (by decide) (by rfl) (by decide) ((Below.refl _ _).drew) ?_ ?_
  rotate_left 4
  · refine all_cons 0 ?_ (all_cons 1 ?_ (all_cons 2 ?_ (all_cons 3 ?_ (all_done 4))))
    · intro o ho fs W HFi HAf HJ A HA HZ K' HK
      have z2 : A.tmps[2]? = some _ := HZ.out 2 (by decide)
      clear HAf HA HZ
      obtain ⟨c0, c1, c2, c3, -⟩ := four_cells ((HJ.out.block w.heap.size (lt_of_block HA0.out)).trans HA0.out)
      obtain ⟨d0, d1, d2, d3, -⟩ := four_cells ((HJ.out.block (w.heap.size + 1) (lt_of_block HB0.out)).trans HB0.out)
      cases ho
      go_simp
      exact HK.out _ HJ.out
    · intro o ho fs W HFi HAf HJ A HA HZ K' HK
      have f0 : fs 0 = true := by cases ho; exact HAf.out ⟨0, .data⟩ (by simp) rfl
      have s0 := HA.out 0 7 (by decide) f0 rfl
      simp only [List.getD_cons_zero] at s0
      clear HAf HA HZ
      cases ho
      go_simp
      refine (HX.out W (HT1.out.below HJ.out)).mono ?_
      rintro e w2 ⟨rfl, hb2⟩
      exact HK.out _ (bstep HJ.out hb2)
    · intro o ho fs W HFi HAf HJ A HA HZ K' HK
      have z3 : A.tmps[3]? = some _ := HZ.out 3 (by decide)
      clear HAf HA HZ
      obtain ⟨c0, c1, c2, c3, -⟩ := four_cells ((HJ.out.block w.heap.size (lt_of_block HA0.out)).trans HA0.out)
      obtain ⟨d0, d1, d2, d3, -⟩ := four_cells ((HJ.out.block (w.heap.size + 1) (lt_of_block HB0.out)).trans HB0.out)
      cases ho
      go_simp
      exact HK.out _ HJ.out
    · intro o ho fs W HFi HAf HJ A HA HZ K' HK
      have f2 : fs 2 = true := by cases ho; exact HAf.out ⟨2, .data⟩ (by simp) rfl
      have s2 := HA.out 2 9 (by decide) f2 rfl
      simp only [List.getD_cons_succ, List.getD_cons_zero] at s2
      clear HAf HA HZ
      cases ho
      go_simp
      refine (HY.out W (HT1.out.below HJ.out)).mono ?_
      rintro e w2 ⟨rfl, hb2⟩
      exact HK.out _ (bstep HJ.out hb2)
  · intro W hJ
    simp only [canon, Act.put, List.getD_cons_succ, List.getD_cons_zero, List.drop_succ_cons, List.drop_zero, List.setIfInBounds_toArray, List.set_cons_zero, List.set_cons_succ]
    have HW := Lib.hid hJ
    have HWW := Lib.hid (HW0.out.trans (HW.out.mono HW0.out.size))
    clear hJ
    obtain ⟨c0, c1, c2, c3, -⟩ := four_cells ((HW.out.block w.heap.size (lt_of_block HA0.out)).trans HA0.out)
    obtain ⟨d0, d1, d2, d3, -⟩ := four_cells ((HW.out.block (w.heap.size + 1) (lt_of_block HB0.out)).trans HB0.out)
    clear HW
    go_wp2_with fail
    rw [HCX.out]
    refine (HNc.out W).mono ?_
    rintro e w' ⟨rfl, rfl⟩
    go_wp2_with fail
    go_ret
    exact ⟨rfl, HWW.out⟩
set_option maxRecDepth 100000 in
set_option maxHeartbeats 8000000 in
theorem joins_e1 (a b : Tok) (X Y : List UInt8) (c d : UInt8) (w : World) (hX : ∀ W, Tb W → Calls Tryz.prog 33 #[.agg #[.int .i64 a.k, .string (ba a.tx), .int .u64 (a.n : Int), .int .i64 a.pos]] W fun e w' => e = .returned (.string (ba X)) ∧ Below W.heap.size W w') (hY : ∀ W, Tb W → Calls Tryz.prog 33 #[.agg #[.int .i64 b.k, .string (ba b.tx), .int .u64 (b.n : Int), .int .i64 b.pos]] W fun e w' => e = .returned (.string (ba Y)) ∧ Below W.heap.size W w') (hT : Tb w) (hlX : X.length ≤ 2000002) (hlY : Y.length ≤ 2000002) (hX0 : X ≠ []) (hY0 : Y ≠ []) (hc : X.getLast? = some c) (hd : Y.head? = some d) (hn : namC c = false) (hk : a.k = 6) (hk2 : b.k = 6) (hX61 : X = [61]) (hY58 : Y = [58]) :
    Calls Tryz.prog 30 #[.agg #[.int .i64 a.k, .string (ba a.tx), .int .u64 (a.n : Int), .int .i64 a.pos], .agg #[.int .i64 b.k, .string (ba b.tx), .int .u64 (b.n : Int), .int .i64 b.pos]] w fun e w' => e = .returned (.bool true) ∧ Below w.heap.size w w' := by
  simp only [hk] at hX ⊢
  simp only [hk2] at hY ⊢
  have sX : ((ba X).size : Int) = (X.length : Int) := by rw [ba_size]
  have sX2 : (ba X).size = X.length := ba_size X
  have sY : ((ba Y).size : Int) = (Y.length : Int) := by rw [ba_size]
  have sY2 : (ba Y).size = Y.length := ba_size Y
  have eX : (ba X).toList.isEmpty = false := by rw [ba_toList]; cases X with | nil => exact absurd rfl hX0 | cons c r => rfl
  have eY : (ba Y).toList.isEmpty = false := by rw [ba_toList]; cases Y with | nil => exact absurd rfl hY0 | cons c r => rfl
  have lX : 1 ≤ X.length := by cases X with | nil => exact absurd rfl hX0 | cons c r => simp
  have lY : 1 ≤ Y.length := by cases Y with | nil => exact absurd rfl hY0 | cons c r => simp
  have hiX : X.length - 1 < (ba X).size := by omega
  have hiY : 0 < (ba Y).size := by omega
  have hcX := last_at hc hiX
  have hdY : (ba Y)[0]'hiY = d := by cases Y with | nil => exact absurd rfl hY0 | cons c r => (injection hd)
  have HCX := Lib.hid hcX
  have HDY := Lib.hid hdY
  have HX := Lib.hid hX
  have HY := Lib.hid hY
  have HT := Lib.hid hT
  clear hX hY hT hcX hdY hX0 hY0 hc hd
  have hw1 : IntKind.i64.wrap ((X.length : Int) - 1) = ((X.length - 1 : Nat) : Int) := by rw [IntKind.wrap_i64]; omega
  have hx1 : ((X.length : Int) - 1) = ((X.length - 1 : Nat) : Int) := by omega
  have HNc := Lib.hid fun W => (named_p c W).mono fun e w' h => (show e = .returned (.bool false) ∧ w' = W by rw [show namC c = false from hn] at h; exact h)
  clear hn
  have tX61 : ((ba X).toList == ([61] : List UInt8)) = true := by rw [ba_toList]; simpa using hX61
  have tY58 : ((ba Y).toList == ([58] : List UInt8)) = true := by rw [ba_toList]; simpa using hY58
  clear hX61 hY58
  go_enter Tryz.func30, Tryz.ntmps30
  go_upto_region 1 with (fail)
  have hA0 := heap_after (heap_alloc_new w (.cells #[.int .i64 6, .string (ba a.tx), .int .u64 (a.n : Int), .int .i64 a.pos] 36 (0, 0))) (.cells #[.int .i64 6, .string (ba b.tx), .int .u64 (b.n : Int), .int .i64 b.pos] 36 (0, 0))
  have hB0 := heap_alloc_new (w.alloc (.cells #[.int .i64 6, .string (ba a.tx), .int .u64 (a.n : Int), .int .i64 a.pos] 36 (0, 0))) (.cells #[.int .i64 6, .string (ba b.tx), .int .u64 (b.n : Int), .int .i64 b.pos] 36 (0, 0))
  rw [World.size_alloc] at hB0
  have HW0 := Lib.hid (balloc (below_alloc w (.cells #[.int .i64 6, .string (ba a.tx), .int .u64 (a.n : Int), .int .i64 a.pos] 36 (0, 0))) (.cells #[.int .i64 6, .string (ba b.tx), .int .u64 (b.n : Int), .int .i64 b.pos] 36 (0, 0)))
  have HA0 := Lib.hid hA0
  have HB0 := Lib.hid hB0
  have HT1 := Lib.hid (HT.out.below (balloc (below_alloc w (.cells #[.int .i64 6, .string (ba a.tx), .int .u64 (a.n : Int), .int .i64 a.pos] 36 (0, 0))) (.cells #[.int .i64 6, .string (ba b.tx), .int .u64 (b.n : Int), .int .i64 b.pos] 36 (0, 0))))
  clear hA0 hB0
  generalize (w.alloc (.cells #[.int .i64 6, .string (ba a.tx), .int .u64 (a.n : Int), .int .i64 a.pos] 36 (0, 0))).alloc (.cells #[.int .i64 6, .string (ba b.tx), .int .u64 (b.n : Int), .int .i64 b.pos] 36 (0, 0)) = w1 at HA0 HB0 HW0 HT1 ⊢
  refine' wp_region_fix (by kernel_rfl) 4 [some 7, some 8, some 9, some 10] [_, _, _, _] [] (fun (_ : List Bool) (W : World) => Below w1.heap.size w1 W) (by kernel_rfl) (by decide) (by kernel_rfl) (by decide) (by rfl) (by decide) ((Below.refl _ _).drew) ?_ ?_
  rotate_left 4
  · refine all_cons 0 ?_ (all_cons 1 ?_ (all_cons 2 ?_ (all_cons 3 ?_ (all_done 4))))
    · intro o ho fs W HFi HAf HJ A HA HZ K' HK
      have z2 : A.tmps[2]? = some _ := HZ.out 2 (by decide)
      clear HAf HA HZ
      obtain ⟨c0, c1, c2, c3, -⟩ := four_cells ((HJ.out.block w.heap.size (lt_of_block HA0.out)).trans HA0.out)
      obtain ⟨d0, d1, d2, d3, -⟩ := four_cells ((HJ.out.block (w.heap.size + 1) (lt_of_block HB0.out)).trans HB0.out)
      cases ho
      go_simp
      exact HK.out _ HJ.out
    · intro o ho fs W HFi HAf HJ A HA HZ K' HK
      have f0 : fs 0 = true := by cases ho; exact HAf.out ⟨0, .data⟩ (by simp) rfl
      have s0 := HA.out 0 7 (by decide) f0 rfl
      simp only [List.getD_cons_zero] at s0
      clear HAf HA HZ
      cases ho
      go_simp
      refine (HX.out W (HT1.out.below HJ.out)).mono ?_
      rintro e w2 ⟨rfl, hb2⟩
      exact HK.out _ (bstep HJ.out hb2)
    · intro o ho fs W HFi HAf HJ A HA HZ K' HK
      have z3 : A.tmps[3]? = some _ := HZ.out 3 (by decide)
      clear HAf HA HZ
      obtain ⟨c0, c1, c2, c3, -⟩ := four_cells ((HJ.out.block w.heap.size (lt_of_block HA0.out)).trans HA0.out)
      obtain ⟨d0, d1, d2, d3, -⟩ := four_cells ((HJ.out.block (w.heap.size + 1) (lt_of_block HB0.out)).trans HB0.out)
      cases ho
      go_simp
      exact HK.out _ HJ.out
    · intro o ho fs W HFi HAf HJ A HA HZ K' HK
      have f2 : fs 2 = true := by cases ho; exact HAf.out ⟨2, .data⟩ (by simp) rfl
      have s2 := HA.out 2 9 (by decide) f2 rfl
      simp only [List.getD_cons_succ, List.getD_cons_zero] at s2
      clear HAf HA HZ
      cases ho
      go_simp
      refine (HY.out W (HT1.out.below HJ.out)).mono ?_
      rintro e w2 ⟨rfl, hb2⟩
      exact HK.out _ (bstep HJ.out hb2)
  · intro W hJ
    simp only [canon, Act.put, List.getD_cons_succ, List.getD_cons_zero, List.drop_succ_cons, List.drop_zero, List.setIfInBounds_toArray, List.set_cons_zero, List.set_cons_succ]
    have HW := Lib.hid hJ
    have HWW := Lib.hid (HW0.out.trans (HW.out.mono HW0.out.size))
    clear hJ
    obtain ⟨c0, c1, c2, c3, -⟩ := four_cells ((HW.out.block w.heap.size (lt_of_block HA0.out)).trans HA0.out)
    obtain ⟨d0, d1, d2, d3, -⟩ := four_cells ((HW.out.block (w.heap.size + 1) (lt_of_block HB0.out)).trans HB0.out)
    clear HW
    go_wp2_with fail
    rw [HCX.out]
    refine (HNc.out W).mono ?_
    rintro e w' ⟨rfl, rfl⟩
    go_wp2_with fail
    go_ret
    exact ⟨rfl, HWW.out⟩
set_option maxRecDepth 100000 in
set_option maxHeartbeats 8000000 in
theorem joins_e2 (a b : Tok) (X Y : List UInt8) (c d : UInt8) (w : World) (hX : ∀ W, Tb W → Calls Tryz.prog 33 #[.agg #[.int .i64 a.k, .string (ba a.tx), .int .u64 (a.n : Int), .int .i64 a.pos]] W fun e w' => e = .returned (.string (ba X)) ∧ Below W.heap.size W w') (hY : ∀ W, Tb W → Calls Tryz.prog 33 #[.agg #[.int .i64 b.k, .string (ba b.tx), .int .u64 (b.n : Int), .int .i64 b.pos]] W fun e w' => e = .returned (.string (ba Y)) ∧ Below W.heap.size W w') (hT : Tb w) (hlX : X.length ≤ 2000002) (hlY : Y.length ≤ 2000002) (hX0 : X ≠ []) (hY0 : Y ≠ []) (hc : X.getLast? = some c) (hd : Y.head? = some d) (hn : namC c = false) (hk : a.k = 6) (hk2 : b.k = 6) (hX61 : X = [61]) (hY47 : Y = [47]) :
    Calls Tryz.prog 30 #[.agg #[.int .i64 a.k, .string (ba a.tx), .int .u64 (a.n : Int), .int .i64 a.pos], .agg #[.int .i64 b.k, .string (ba b.tx), .int .u64 (b.n : Int), .int .i64 b.pos]] w fun e w' => e = .returned (.bool true) ∧ Below w.heap.size w w' := by
  simp only [hk] at hX ⊢
  simp only [hk2] at hY ⊢
  have sX : ((ba X).size : Int) = (X.length : Int) := by rw [ba_size]
  have sX2 : (ba X).size = X.length := ba_size X
  have sY : ((ba Y).size : Int) = (Y.length : Int) := by rw [ba_size]
  have sY2 : (ba Y).size = Y.length := ba_size Y
  have eX : (ba X).toList.isEmpty = false := by rw [ba_toList]; cases X with | nil => exact absurd rfl hX0 | cons c r => rfl
  have eY : (ba Y).toList.isEmpty = false := by rw [ba_toList]; cases Y with | nil => exact absurd rfl hY0 | cons c r => rfl
  have lX : 1 ≤ X.length := by cases X with | nil => exact absurd rfl hX0 | cons c r => simp
  have lY : 1 ≤ Y.length := by cases Y with | nil => exact absurd rfl hY0 | cons c r => simp
  have hiX : X.length - 1 < (ba X).size := by omega
  have hiY : 0 < (ba Y).size := by omega
  have hcX := last_at hc hiX
  have hdY : (ba Y)[0]'hiY = d := by cases Y with | nil => exact absurd rfl hY0 | cons c r => (injection hd)
  have HCX := Lib.hid hcX
  have HDY := Lib.hid hdY
  have HX := Lib.hid hX
  have HY := Lib.hid hY
  have HT := Lib.hid hT
  clear hX hY hT hcX hdY hX0 hY0 hc hd
  have hw1 : IntKind.i64.wrap ((X.length : Int) - 1) = ((X.length - 1 : Nat) : Int) := by rw [IntKind.wrap_i64]; omega
  have hx1 : ((X.length : Int) - 1) = ((X.length - 1 : Nat) : Int) := by omega
  have HNc := Lib.hid fun W => (named_p c W).mono fun e w' h => (show e = .returned (.bool false) ∧ w' = W by rw [show namC c = false from hn] at h; exact h)
  clear hn
  have tX61 : ((ba X).toList == ([61] : List UInt8)) = true := by rw [ba_toList]; simpa using hX61
  have tY47 : ((ba Y).toList == ([47] : List UInt8)) = true := by rw [ba_toList]; simpa using hY47
  have tY58 : ((ba Y).toList == ([58] : List UInt8)) = false := by rw [ba_toList, hY47]; decide
  clear hX61 hY47
  go_enter Tryz.func30, Tryz.ntmps30
  go_upto_region 1 with (fail)
  have hA0 := heap_after (heap_alloc_new w (.cells #[.int .i64 6, .string (ba a.tx), .int .u64 (a.n : Int), .int .i64 a.pos] 36 (0, 0))) (.cells #[.int .i64 6, .string (ba b.tx), .int .u64 (b.n : Int), .int .i64 b.pos] 36 (0, 0))
  have hB0 := heap_alloc_new (w.alloc (.cells #[.int .i64 6, .string (ba a.tx), .int .u64 (a.n : Int), .int .i64 a.pos] 36 (0, 0))) (.cells #[.int .i64 6, .string (ba b.tx), .int .u64 (b.n : Int), .int .i64 b.pos] 36 (0, 0))
  rw [World.size_alloc] at hB0
  have HW0 := Lib.hid (balloc (below_alloc w (.cells #[.int .i64 6, .string (ba a.tx), .int .u64 (a.n : Int), .int .i64 a.pos] 36 (0, 0))) (.cells #[.int .i64 6, .string (ba b.tx), .int .u64 (b.n : Int), .int .i64 b.pos] 36 (0, 0)))
  have HA0 := Lib.hid hA0
  have HB0 := Lib.hid hB0
  have HT1 := Lib.hid (HT.out.below (balloc (below_alloc w (.cells #[.int .i64 6, .string (ba a.tx), .int .u64 (a.n : Int), .int .i64 a.pos] 36 (0, 0))) (.cells #[.int .i64 6, .string (ba b.tx), .int .u64 (b.n : Int), .int .i64 b.pos] 36 (0, 0))))
  clear hA0 hB0
  generalize (w.alloc (.cells #[.int .i64 6, .string (ba a.tx), .int .u64 (a.n : Int), .int .i64 a.pos] 36 (0, 0))).alloc (.cells #[.int .i64 6, .string (ba b.tx), .int .u64 (b.n : Int), .int .i64 b.pos] 36 (0, 0)) = w1 at HA0 HB0 HW0 HT1 ⊢
  refine' wp_region_fix (by kernel_rfl) 4 [some 7, some 8, some 9, some 10] [_, _, _, _] [] (fun (_ : List Bool) (W : World) => Below w1.heap.size w1 W) (by kernel_rfl) (by decide) (by kernel_rfl) (by decide) (by rfl) (by decide) ((Below.refl _ _).drew) ?_ ?_
  rotate_left 4
  · refine all_cons 0 ?_ (all_cons 1 ?_ (all_cons 2 ?_ (all_cons 3 ?_ (all_done 4))))
    · intro o ho fs W HFi HAf HJ A HA HZ K' HK
      have z2 : A.tmps[2]? = some _ := HZ.out 2 (by decide)
      clear HAf HA HZ
      obtain ⟨c0, c1, c2, c3, -⟩ := four_cells ((HJ.out.block w.heap.size (lt_of_block HA0.out)).trans HA0.out)
      obtain ⟨d0, d1, d2, d3, -⟩ := four_cells ((HJ.out.block (w.heap.size + 1) (lt_of_block HB0.out)).trans HB0.out)
      cases ho
      go_simp
      exact HK.out _ HJ.out
    · intro o ho fs W HFi HAf HJ A HA HZ K' HK
      have f0 : fs 0 = true := by cases ho; exact HAf.out ⟨0, .data⟩ (by simp) rfl
      have s0 := HA.out 0 7 (by decide) f0 rfl
      simp only [List.getD_cons_zero] at s0
      clear HAf HA HZ
      cases ho
      go_simp
      refine (HX.out W (HT1.out.below HJ.out)).mono ?_
      rintro e w2 ⟨rfl, hb2⟩
      exact HK.out _ (bstep HJ.out hb2)
    · intro o ho fs W HFi HAf HJ A HA HZ K' HK
      have z3 : A.tmps[3]? = some _ := HZ.out 3 (by decide)
      clear HAf HA HZ
      obtain ⟨c0, c1, c2, c3, -⟩ := four_cells ((HJ.out.block w.heap.size (lt_of_block HA0.out)).trans HA0.out)
      obtain ⟨d0, d1, d2, d3, -⟩ := four_cells ((HJ.out.block (w.heap.size + 1) (lt_of_block HB0.out)).trans HB0.out)
      cases ho
      go_simp
      exact HK.out _ HJ.out
    · intro o ho fs W HFi HAf HJ A HA HZ K' HK
      have f2 : fs 2 = true := by cases ho; exact HAf.out ⟨2, .data⟩ (by simp) rfl
      have s2 := HA.out 2 9 (by decide) f2 rfl
      simp only [List.getD_cons_succ, List.getD_cons_zero] at s2
      clear HAf HA HZ
      cases ho
      go_simp
      refine (HY.out W (HT1.out.below HJ.out)).mono ?_
      rintro e w2 ⟨rfl, hb2⟩
      exact HK.out _ (bstep HJ.out hb2)
  · intro W hJ
    simp only [canon, Act.put, List.getD_cons_succ, List.getD_cons_zero, List.drop_succ_cons, List.drop_zero, List.setIfInBounds_toArray, List.set_cons_zero, List.set_cons_succ]
    have HW := Lib.hid hJ
    have HWW := Lib.hid (HW0.out.trans (HW.out.mono HW0.out.size))
    clear hJ
    obtain ⟨c0, c1, c2, c3, -⟩ := four_cells ((HW.out.block w.heap.size (lt_of_block HA0.out)).trans HA0.out)
    obtain ⟨d0, d1, d2, d3, -⟩ := four_cells ((HW.out.block (w.heap.size + 1) (lt_of_block HB0.out)).trans HB0.out)
    clear HW
    go_wp2_with fail
    rw [HCX.out]
    refine (HNc.out W).mono ?_
    rintro e w' ⟨rfl, rfl⟩
    go_wp2_with fail
    go_ret
    exact ⟨rfl, HWW.out⟩
set_option maxRecDepth 100000 in
set_option maxHeartbeats 8000000 in
theorem joins_s1 (a b : Tok) (X Y : List UInt8) (c d : UInt8) (w : World) (hX : ∀ W, Tb W → Calls Tryz.prog 33 #[.agg #[.int .i64 a.k, .string (ba a.tx), .int .u64 (a.n : Int), .int .i64 a.pos]] W fun e w' => e = .returned (.string (ba X)) ∧ Below W.heap.size W w') (hY : ∀ W, Tb W → Calls Tryz.prog 33 #[.agg #[.int .i64 b.k, .string (ba b.tx), .int .u64 (b.n : Int), .int .i64 b.pos]] W fun e w' => e = .returned (.string (ba Y)) ∧ Below W.heap.size W w') (hT : Tb w) (hlX : X.length ≤ 2000002) (hlY : Y.length ≤ 2000002) (hX0 : X ≠ []) (hY0 : Y ≠ []) (hc : X.getLast? = some c) (hd : Y.head? = some d) (hn : namC c = false) (hk : a.k = 6) (hk2 : b.k = 6) (hX61 : X ≠ [61]) :
    Calls Tryz.prog 30 #[.agg #[.int .i64 a.k, .string (ba a.tx), .int .u64 (a.n : Int), .int .i64 a.pos], .agg #[.int .i64 b.k, .string (ba b.tx), .int .u64 (b.n : Int), .int .i64 b.pos]] w fun e w' => e = .returned (.bool (decide (signN (X ++ Y) ≠ X.length))) ∧ Below w.heap.size w w' := by
  simp only [hk] at hX ⊢
  simp only [hk2] at hY ⊢
  have sX : ((ba X).size : Int) = (X.length : Int) := by rw [ba_size]
  have sX2 : (ba X).size = X.length := ba_size X
  have sY : ((ba Y).size : Int) = (Y.length : Int) := by rw [ba_size]
  have sY2 : (ba Y).size = Y.length := ba_size Y
  have eX : (ba X).toList.isEmpty = false := by rw [ba_toList]; cases X with | nil => exact absurd rfl hX0 | cons c r => rfl
  have eY : (ba Y).toList.isEmpty = false := by rw [ba_toList]; cases Y with | nil => exact absurd rfl hY0 | cons c r => rfl
  have lX : 1 ≤ X.length := by cases X with | nil => exact absurd rfl hX0 | cons c r => simp
  have lY : 1 ≤ Y.length := by cases Y with | nil => exact absurd rfl hY0 | cons c r => simp
  have hiX : X.length - 1 < (ba X).size := by omega
  have hiY : 0 < (ba Y).size := by omega
  have hcX := last_at hc hiX
  have hdY : (ba Y)[0]'hiY = d := by cases Y with | nil => exact absurd rfl hY0 | cons c r => (injection hd)
  have HCX := Lib.hid hcX
  have HDY := Lib.hid hdY
  have HX := Lib.hid hX
  have HY := Lib.hid hY
  have HT := Lib.hid hT
  clear hX hY hT hcX hdY hX0 hY0 hc hd
  have hw1 : IntKind.i64.wrap ((X.length : Int) - 1) = ((X.length - 1 : Nat) : Int) := by rw [IntKind.wrap_i64]; omega
  have hx1 : ((X.length : Int) - 1) = ((X.length - 1 : Nat) : Int) := by omega
  have HNc := Lib.hid fun W => (named_p c W).mono fun e w' h => (show e = .returned (.bool false) ∧ w' = W by rw [show namC c = false from hn] at h; exact h)
  clear hn
  have tX61 : ((ba X).toList == ([61] : List UInt8)) = false := by rw [ba_toList]; simpa using hX61
  clear hX61
  have y1 : ¬ 9223372036854775807 < (ba X).size + (ba Y).size := by omega
  have y2 : ¬ 9223372036854775807 < X.length + Y.length := by omega
  go_enter Tryz.func30, Tryz.ntmps30
  go_upto_region 1 with (fail)
  have hA0 := heap_after (heap_alloc_new w (.cells #[.int .i64 6, .string (ba a.tx), .int .u64 (a.n : Int), .int .i64 a.pos] 36 (0, 0))) (.cells #[.int .i64 6, .string (ba b.tx), .int .u64 (b.n : Int), .int .i64 b.pos] 36 (0, 0))
  have hB0 := heap_alloc_new (w.alloc (.cells #[.int .i64 6, .string (ba a.tx), .int .u64 (a.n : Int), .int .i64 a.pos] 36 (0, 0))) (.cells #[.int .i64 6, .string (ba b.tx), .int .u64 (b.n : Int), .int .i64 b.pos] 36 (0, 0))
  rw [World.size_alloc] at hB0
  have HW0 := Lib.hid (balloc (below_alloc w (.cells #[.int .i64 6, .string (ba a.tx), .int .u64 (a.n : Int), .int .i64 a.pos] 36 (0, 0))) (.cells #[.int .i64 6, .string (ba b.tx), .int .u64 (b.n : Int), .int .i64 b.pos] 36 (0, 0)))
  have HA0 := Lib.hid hA0
  have HB0 := Lib.hid hB0
  have HT1 := Lib.hid (HT.out.below (balloc (below_alloc w (.cells #[.int .i64 6, .string (ba a.tx), .int .u64 (a.n : Int), .int .i64 a.pos] 36 (0, 0))) (.cells #[.int .i64 6, .string (ba b.tx), .int .u64 (b.n : Int), .int .i64 b.pos] 36 (0, 0))))
  clear hA0 hB0
  generalize (w.alloc (.cells #[.int .i64 6, .string (ba a.tx), .int .u64 (a.n : Int), .int .i64 a.pos] 36 (0, 0))).alloc (.cells #[.int .i64 6, .string (ba b.tx), .int .u64 (b.n : Int), .int .i64 b.pos] 36 (0, 0)) = w1 at HA0 HB0 HW0 HT1 ⊢
  refine' wp_region_fix (by kernel_rfl) 4 [some 7, some 8, some 9, some 10] [_, _, _, _] [] (fun (_ : List Bool) (W : World) => Below w1.heap.size w1 W) (by kernel_rfl) (by decide) (by kernel_rfl) (by decide) (by rfl) (by decide) ((Below.refl _ _).drew) ?_ ?_
  rotate_left 4
  · refine all_cons 0 ?_ (all_cons 1 ?_ (all_cons 2 ?_ (all_cons 3 ?_ (all_done 4))))
    · intro o ho fs W HFi HAf HJ A HA HZ K' HK
      have z2 : A.tmps[2]? = some _ := HZ.out 2 (by decide)
      clear HAf HA HZ
      obtain ⟨c0, c1, c2, c3, -⟩ := four_cells ((HJ.out.block w.heap.size (lt_of_block HA0.out)).trans HA0.out)
      obtain ⟨d0, d1, d2, d3, -⟩ := four_cells ((HJ.out.block (w.heap.size + 1) (lt_of_block HB0.out)).trans HB0.out)
      cases ho
      go_simp
      exact HK.out _ HJ.out
    · intro o ho fs W HFi HAf HJ A HA HZ K' HK
      have f0 : fs 0 = true := by cases ho; exact HAf.out ⟨0, .data⟩ (by simp) rfl
      have s0 := HA.out 0 7 (by decide) f0 rfl
      simp only [List.getD_cons_zero] at s0
      clear HAf HA HZ
      cases ho
      go_simp
      refine (HX.out W (HT1.out.below HJ.out)).mono ?_
      rintro e w2 ⟨rfl, hb2⟩
      exact HK.out _ (bstep HJ.out hb2)
    · intro o ho fs W HFi HAf HJ A HA HZ K' HK
      have z3 : A.tmps[3]? = some _ := HZ.out 3 (by decide)
      clear HAf HA HZ
      obtain ⟨c0, c1, c2, c3, -⟩ := four_cells ((HJ.out.block w.heap.size (lt_of_block HA0.out)).trans HA0.out)
      obtain ⟨d0, d1, d2, d3, -⟩ := four_cells ((HJ.out.block (w.heap.size + 1) (lt_of_block HB0.out)).trans HB0.out)
      cases ho
      go_simp
      exact HK.out _ HJ.out
    · intro o ho fs W HFi HAf HJ A HA HZ K' HK
      have f2 : fs 2 = true := by cases ho; exact HAf.out ⟨2, .data⟩ (by simp) rfl
      have s2 := HA.out 2 9 (by decide) f2 rfl
      simp only [List.getD_cons_succ, List.getD_cons_zero] at s2
      clear HAf HA HZ
      cases ho
      go_simp
      refine (HY.out W (HT1.out.below HJ.out)).mono ?_
      rintro e w2 ⟨rfl, hb2⟩
      exact HK.out _ (bstep HJ.out hb2)
  · intro W hJ
    simp only [canon, Act.put, List.getD_cons_succ, List.getD_cons_zero, List.drop_succ_cons, List.drop_zero, List.setIfInBounds_toArray, List.set_cons_zero, List.set_cons_succ]
    have HW := Lib.hid hJ
    have HWW := Lib.hid (HW0.out.trans (HW.out.mono HW0.out.size))
    clear hJ
    obtain ⟨c0, c1, c2, c3, -⟩ := four_cells ((HW.out.block w.heap.size (lt_of_block HA0.out)).trans HA0.out)
    obtain ⟨d0, d1, d2, d3, -⟩ := four_cells ((HW.out.block (w.heap.size + 1) (lt_of_block HB0.out)).trans HB0.out)
    clear HW
    go_wp2_with fail
    rw [HCX.out]
    refine (HNc.out W).mono ?_
    rintro e w' ⟨rfl, rfl⟩
    go_wp2_with fail
    rw [ba_app2]
    refine (sign_any (X ++ Y) w' (by rw [List.length_append]; omega)).mono ?_
    rintro e w' ⟨rfl, rfl⟩
    go_wp2_with fail
    go_ret
    exact ⟨ret_bool (ne_dec _ _), HWW.out⟩
set_option maxRecDepth 100000 in
set_option maxHeartbeats 8000000 in
theorem joins_s2 (a b : Tok) (X Y : List UInt8) (c d : UInt8) (w : World) (hX : ∀ W, Tb W → Calls Tryz.prog 33 #[.agg #[.int .i64 a.k, .string (ba a.tx), .int .u64 (a.n : Int), .int .i64 a.pos]] W fun e w' => e = .returned (.string (ba X)) ∧ Below W.heap.size W w') (hY : ∀ W, Tb W → Calls Tryz.prog 33 #[.agg #[.int .i64 b.k, .string (ba b.tx), .int .u64 (b.n : Int), .int .i64 b.pos]] W fun e w' => e = .returned (.string (ba Y)) ∧ Below W.heap.size W w') (hT : Tb w) (hlX : X.length ≤ 2000002) (hlY : Y.length ≤ 2000002) (hX0 : X ≠ []) (hY0 : Y ≠ []) (hc : X.getLast? = some c) (hd : Y.head? = some d) (hn : namC c = false) (hk : a.k = 6) (hk2 : b.k = 6) (hX61 : X = [61]) (hY58 : Y ≠ [58]) (hY47 : Y ≠ [47]) :
    Calls Tryz.prog 30 #[.agg #[.int .i64 a.k, .string (ba a.tx), .int .u64 (a.n : Int), .int .i64 a.pos], .agg #[.int .i64 b.k, .string (ba b.tx), .int .u64 (b.n : Int), .int .i64 b.pos]] w fun e w' => e = .returned (.bool (decide (signN (X ++ Y) ≠ X.length))) ∧ Below w.heap.size w w' := by
  simp only [hk] at hX ⊢
  simp only [hk2] at hY ⊢
  have sX : ((ba X).size : Int) = (X.length : Int) := by rw [ba_size]
  have sX2 : (ba X).size = X.length := ba_size X
  have sY : ((ba Y).size : Int) = (Y.length : Int) := by rw [ba_size]
  have sY2 : (ba Y).size = Y.length := ba_size Y
  have eX : (ba X).toList.isEmpty = false := by rw [ba_toList]; cases X with | nil => exact absurd rfl hX0 | cons c r => rfl
  have eY : (ba Y).toList.isEmpty = false := by rw [ba_toList]; cases Y with | nil => exact absurd rfl hY0 | cons c r => rfl
  have lX : 1 ≤ X.length := by cases X with | nil => exact absurd rfl hX0 | cons c r => simp
  have lY : 1 ≤ Y.length := by cases Y with | nil => exact absurd rfl hY0 | cons c r => simp
  have hiX : X.length - 1 < (ba X).size := by omega
  have hiY : 0 < (ba Y).size := by omega
  have hcX := last_at hc hiX
  have hdY : (ba Y)[0]'hiY = d := by cases Y with | nil => exact absurd rfl hY0 | cons c r => (injection hd)
  have HCX := Lib.hid hcX
  have HDY := Lib.hid hdY
  have HX := Lib.hid hX
  have HY := Lib.hid hY
  have HT := Lib.hid hT
  clear hX hY hT hcX hdY hX0 hY0 hc hd
  have hw1 : IntKind.i64.wrap ((X.length : Int) - 1) = ((X.length - 1 : Nat) : Int) := by rw [IntKind.wrap_i64]; omega
  have hx1 : ((X.length : Int) - 1) = ((X.length - 1 : Nat) : Int) := by omega
  have HNc := Lib.hid fun W => (named_p c W).mono fun e w' h => (show e = .returned (.bool false) ∧ w' = W by rw [show namC c = false from hn] at h; exact h)
  clear hn
  have tX61 : ((ba X).toList == ([61] : List UInt8)) = true := by rw [ba_toList]; simpa using hX61
  have tY58 : ((ba Y).toList == ([58] : List UInt8)) = false := by rw [ba_toList]; simpa using hY58
  have tY47 : ((ba Y).toList == ([47] : List UInt8)) = false := by rw [ba_toList]; simpa using hY47
  clear hX61 hY58 hY47
  have y1 : ¬ 9223372036854775807 < (ba X).size + (ba Y).size := by omega
  have y2 : ¬ 9223372036854775807 < X.length + Y.length := by omega
  go_enter Tryz.func30, Tryz.ntmps30
  go_upto_region 1 with (fail)
  have hA0 := heap_after (heap_alloc_new w (.cells #[.int .i64 6, .string (ba a.tx), .int .u64 (a.n : Int), .int .i64 a.pos] 36 (0, 0))) (.cells #[.int .i64 6, .string (ba b.tx), .int .u64 (b.n : Int), .int .i64 b.pos] 36 (0, 0))
  have hB0 := heap_alloc_new (w.alloc (.cells #[.int .i64 6, .string (ba a.tx), .int .u64 (a.n : Int), .int .i64 a.pos] 36 (0, 0))) (.cells #[.int .i64 6, .string (ba b.tx), .int .u64 (b.n : Int), .int .i64 b.pos] 36 (0, 0))
  rw [World.size_alloc] at hB0
  have HW0 := Lib.hid (balloc (below_alloc w (.cells #[.int .i64 6, .string (ba a.tx), .int .u64 (a.n : Int), .int .i64 a.pos] 36 (0, 0))) (.cells #[.int .i64 6, .string (ba b.tx), .int .u64 (b.n : Int), .int .i64 b.pos] 36 (0, 0)))
  have HA0 := Lib.hid hA0
  have HB0 := Lib.hid hB0
  have HT1 := Lib.hid (HT.out.below (balloc (below_alloc w (.cells #[.int .i64 6, .string (ba a.tx), .int .u64 (a.n : Int), .int .i64 a.pos] 36 (0, 0))) (.cells #[.int .i64 6, .string (ba b.tx), .int .u64 (b.n : Int), .int .i64 b.pos] 36 (0, 0))))
  clear hA0 hB0
  generalize (w.alloc (.cells #[.int .i64 6, .string (ba a.tx), .int .u64 (a.n : Int), .int .i64 a.pos] 36 (0, 0))).alloc (.cells #[.int .i64 6, .string (ba b.tx), .int .u64 (b.n : Int), .int .i64 b.pos] 36 (0, 0)) = w1 at HA0 HB0 HW0 HT1 ⊢
  refine' wp_region_fix (by kernel_rfl) 4 [some 7, some 8, some 9, some 10] [_, _, _, _] [] (fun (_ : List Bool) (W : World) => Below w1.heap.size w1 W) (by kernel_rfl) (by decide) (by kernel_rfl) (by decide) (by rfl) (by decide) ((Below.refl _ _).drew) ?_ ?_
  rotate_left 4
  · refine all_cons 0 ?_ (all_cons 1 ?_ (all_cons 2 ?_ (all_cons 3 ?_ (all_done 4))))
    · intro o ho fs W HFi HAf HJ A HA HZ K' HK
      have z2 : A.tmps[2]? = some _ := HZ.out 2 (by decide)
      clear HAf HA HZ
      obtain ⟨c0, c1, c2, c3, -⟩ := four_cells ((HJ.out.block w.heap.size (lt_of_block HA0.out)).trans HA0.out)
      obtain ⟨d0, d1, d2, d3, -⟩ := four_cells ((HJ.out.block (w.heap.size + 1) (lt_of_block HB0.out)).trans HB0.out)
      cases ho
      go_simp
      exact HK.out _ HJ.out
    · intro o ho fs W HFi HAf HJ A HA HZ K' HK
      have f0 : fs 0 = true := by cases ho; exact HAf.out ⟨0, .data⟩ (by simp) rfl
      have s0 := HA.out 0 7 (by decide) f0 rfl
      simp only [List.getD_cons_zero] at s0
      clear HAf HA HZ
      cases ho
      go_simp
      refine (HX.out W (HT1.out.below HJ.out)).mono ?_
      rintro e w2 ⟨rfl, hb2⟩
      exact HK.out _ (bstep HJ.out hb2)
    · intro o ho fs W HFi HAf HJ A HA HZ K' HK
      have z3 : A.tmps[3]? = some _ := HZ.out 3 (by decide)
      clear HAf HA HZ
      obtain ⟨c0, c1, c2, c3, -⟩ := four_cells ((HJ.out.block w.heap.size (lt_of_block HA0.out)).trans HA0.out)
      obtain ⟨d0, d1, d2, d3, -⟩ := four_cells ((HJ.out.block (w.heap.size + 1) (lt_of_block HB0.out)).trans HB0.out)
      cases ho
      go_simp
      exact HK.out _ HJ.out
    · intro o ho fs W HFi HAf HJ A HA HZ K' HK
      have f2 : fs 2 = true := by cases ho; exact HAf.out ⟨2, .data⟩ (by simp) rfl
      have s2 := HA.out 2 9 (by decide) f2 rfl
      simp only [List.getD_cons_succ, List.getD_cons_zero] at s2
      clear HAf HA HZ
      cases ho
      go_simp
      refine (HY.out W (HT1.out.below HJ.out)).mono ?_
      rintro e w2 ⟨rfl, hb2⟩
      exact HK.out _ (bstep HJ.out hb2)
  · intro W hJ
    simp only [canon, Act.put, List.getD_cons_succ, List.getD_cons_zero, List.drop_succ_cons, List.drop_zero, List.setIfInBounds_toArray, List.set_cons_zero, List.set_cons_succ]
    have HW := Lib.hid hJ
    have HWW := Lib.hid (HW0.out.trans (HW.out.mono HW0.out.size))
    clear hJ
    obtain ⟨c0, c1, c2, c3, -⟩ := four_cells ((HW.out.block w.heap.size (lt_of_block HA0.out)).trans HA0.out)
    obtain ⟨d0, d1, d2, d3, -⟩ := four_cells ((HW.out.block (w.heap.size + 1) (lt_of_block HB0.out)).trans HB0.out)
    clear HW
    go_wp2_with fail
    rw [HCX.out]
    refine (HNc.out W).mono ?_
    rintro e w' ⟨rfl, rfl⟩
    go_wp2_with fail
    rw [ba_app2]
    refine (sign_any (X ++ Y) w' (by rw [List.length_append]; omega)).mono ?_
    rintro e w' ⟨rfl, rfl⟩
    go_wp2_with fail
    go_ret
    exact ⟨ret_bool (ne_dec _ _), HWW.out⟩
theorem joins_any (a b : Tok) (w : World) (hla : a.tx.length ≤ 1000000) (hlb : b.tx.length ≤ 1000000) (ha : validTk a = true) (hb : validTk b = true) (hT : Tb w) :
    Calls Tryz.prog 30 #[.agg #[.int .i64 a.k, .string (ba a.tx), .int .u64 (a.n : Int), .int .i64 a.pos], .agg #[.int .i64 b.k, .string (ba b.tx), .int .u64 (b.n : Int), .int .i64 b.pos]] w fun e w' => e = .returned (.bool (joinB a b)) ∧ Below w.heap.size w w' := by
  have hX := fun W hT => text_any a W hla ha hT
  have hY := fun W hT => text_any b W hlb hb hT
  have hlX := text_long a hla ha
  have hlY := text_long b hlb hb
  obtain ⟨c, hc⟩ := text_last ha
  obtain ⟨d, s, hd, _⟩ := text_head hb
  have hX0 : textTk a ≠ [] := by intro h; rw [h] at hc; simp at hc
  have hY0 : textTk b ≠ [] := by rw [hd]; simp
  have hd2 : (textTk b).head? = some d := by rw [hd]; rfl
  rw [joinB_eq hc hd]
  generalize textTk a = X at *
  generalize textTk b = Y at *
  by_cases hn : namC c = true
  · rw [if_pos hn]; exact joins_nam a b X Y c d w hX hY hT hlX hlY hX0 hY0 hc hd2 hn
  · rw [if_neg hn]
    rw [Bool.not_eq_true] at hn
    by_cases hk : a.k = 6
    · by_cases hk2 : b.k = 6
      · rw [if_neg (by simp [hk, hk2])]
        by_cases hX61 : X = [61]
        · by_cases hY58 : Y = [58]
          · rw [if_pos ⟨hX61, .inl hY58⟩]; exact joins_e1 a b X Y c d w hX hY hT hlX hlY hX0 hY0 hc hd2 hn hk hk2 hX61 hY58
          · by_cases hY47 : Y = [47]
            · rw [if_pos ⟨hX61, .inr hY47⟩]; exact joins_e2 a b X Y c d w hX hY hT hlX hlY hX0 hY0 hc hd2 hn hk hk2 hX61 hY47
            · rw [if_neg (fun h => h.2.elim hY58 hY47)]; exact joins_s2 a b X Y c d w hX hY hT hlX hlY hX0 hY0 hc hd2 hn hk hk2 hX61 hY58 hY47
        · rw [if_neg (fun h => hX61 h.1)]; exact joins_s1 a b X Y c d w hX hY hT hlX hlY hX0 hY0 hc hd2 hn hk hk2 hX61
      · rw [if_pos (.inr hk2)]; exact joins_k2 a b X Y c d w hX hY hT hlX hlY hX0 hY0 hc hd2 hn hk hk2
    · rw [if_pos (.inl hk)]; exact joins_k1 a b X Y c d w hX hY hT hlX hlY hX0 hY0 hc hd2 hn hk
end Go.Proofs.YtmcnhggpmlhgeaaGreatDoor
